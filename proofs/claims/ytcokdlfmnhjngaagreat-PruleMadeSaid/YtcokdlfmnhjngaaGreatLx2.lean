/- What the functions of the law 'PruleMade' do: part 2 of 8. -/
import Derived.Test.YtcokdlfmnhjngaaGreatLx1
namespace Go.Proofs.YtcokdlfmnhjngaaGreat.IrE
open Go Go.CI
open Go.LexF hiding spacesB lettersB
set_option maxRecDepth 100000
set_option maxHeartbeats 4000000
set_option linter.unusedVariables false
set_option linter.unusedSimpArgs false
attribute [local irreducible] W Wo Wc WoR
abbrev zIr:CCode:=(.seq (.R [.v 0,.c 189 [(.loc 0),(.k 0)],.m (.loc 0)] [(11,2)]) (.seq (.seq (.R [.v 11,.c 188 [(.loc 0)],.m (.loc 0),.Q (.v 11) 0 false,.Q (.c 190 [(.loc 0)]) 1 false,.r 2 0,.m (.loc 0),.Q (.v 11) 0 false,.Q (.x .eql 0 (.u 46)) 1 false,.r 2 0] [(12,9)]) (.cond (.var 12) (.seq (.R [.v 0,.v 2,.c 187 [(.loc 1),(.k 2),(.loc 0)],.t 4 10 0] []) .ret) .skip)) (.seq (.R [.v 8,.v 2,.g (.build [(.int .i64 0),(.str []),(.int .u64 0),(.int .i64 0)] [(0,1,(.k 2)),(2,1,(.loc 1)),(3,1,(.loc 0))]),.t 4 10 0] []) .ret)))
theorem zLq (c:UInt8):(zB2 ++ [46]).contains c = (letB c || digB c || decide (c.toNat = 46)):=by
 have:=zDn (p:=fun c => (zB2 ++ [46]).contains c == (letB c || digB c || decide (c.toNat = 46))) (by decide +kernel) c
 simpa using this
theorem zLk (s:B8) (hs:s.length < 60000) (p d m dm:Nat) (t at' v:Int) (hmp:m ≠ p) (Q:QT) (u:B8) (i:Nat) (hd:s.drop i = u) (hlen:i + u.length = s.length) (h:CHeap) (v1 v3 v4 v5 v6 v7 v9 v11 v12:CVal) (hg:zA1 h.ents p = some (lx s (i:Int) 0 t)) (hm:zA1 h.ents m = some Z4) (hf:Fit h) (hp:p < h.next) (hpm:m < h.next)
    (hk1:∀ n' ty w11 w12,h.next ≤ n' → zA9 ty n' → (∀ c u',u = c :: u' → (zB2 ++ [46]).contains c = false) → Q .ret ⟨[.ptr p d 0,v1,.int .i64 at',v3,v4,v5,v6,v7,.int .u64 v,v9,.ptr m dm 0,w11,w12],⟨zA2 h.ents m (.cells [.int .i64 2,.str [],.int .u64 v,.int .i64 at']),n',ty⟩,[]⟩)
    (hk2:∀ n' ty w11 w12,h.next ≤ n' → zA9 ty n' → (∃ c u',u = c :: u' ∧ (zB2 ++ [46]).contains c = true) → Q .ret ⟨[.ptr p d 0,v1,.int .i64 at',v3,v4,v5,v6,v7,.int .u64 v,v9,.ptr m dm 0,w11,w12],⟨zA2 h.ents p (lx s (i:Int) 2 at'),n',ty⟩,[]⟩) :
    W tree.getF zIr ⟨[.ptr p d 0,v1,.int .i64 at',v3,v4,v5,v6,v7,.int .u64 v,v9,.ptr m dm 0,v11,v12],h,[]⟩ Q:=by
 obtain ⟨hu,hut,hX⟩:=fx4 hf
 have hY:=fx5 hf hg; have ⟨hG,hD2,hC2,hN2⟩:=hY
 have hM2:∀ x,zA1 (zA2 h.ents p x) m = some Z4:=fun x => by rw [zA0 hmp]; exact hm
 have hMS:∀ x,zA2 (zA2 h.ents p x) m Z4 = zA2 h.ents p x:=fun x => zAe (hM2 x)
 cases u with
 | nil =>
  simp only [List.length_nil,Nat.add_zero] at hlen
  have B0:∀ (h:CHeap) (hf:Fit h) (hg:zA1 h.ents p = some (lx s (i:Int) 0 t)) (hp:p < h.next) (K:KT) (hk:∀ n' ty,h.next ≤ n' → zA9 ty n' → K (.int .u8 0) ⟨h.ents,n',ty⟩),Wc tree.getF 189 [.ptr p d 0,.int .i64 0] h K:=fun h hf hg hp K hk => zJu s i 0 0 t hs (by omega) (by omega) (by omega) h p d hf hg hp K hk
  have hZ:=j7_ hX hg hY hm hM2 hMS hmp
  repeat (first | refine wk_ ?_ | (refine B0 _ ?_ ?_ ?_ _ fun n1 tyn1 hn1 hun1 => ⟨rfl,?_⟩; exact fit_; exact ge_; exact om_; (try dsimp only at hn1)) | (refine zIv _ ?_ _ fun n1 tyn1 hn1 hun1 => ⟨rfl,?_⟩; exact fit_; (try dsimp only at hn1)) | (refine digit_0 _ ?_ _ fun n1 tyn1 hn1 hun1 => ⟨rfl,?_⟩; exact fit_; (try dsimp only at hn1)))
  all_goals ((try refine W.ret ?_); (try simp only [zAd,zA3,zAb,hMS]); refine hk1 _ _ _ _ ?_ ?_ (by intro c u' e; cases e); omega; exact ut_)
 | cons c u =>
  simp only [List.length_cons] at hlen
  have hc0:=zB0 hd
  have B0:∀ (h:CHeap) (hf:Fit h) (hg:zA1 h.ents p = some (lx s (i:Int) 0 t)) (hp:p < h.next) (K:KT) (hk:∀ n' ty,h.next ≤ n' → zA9 ty n' → K (.int .u8 (c.toNat:Int)) ⟨h.ents,n',ty⟩),Wc tree.getF 189 [.ptr p d 0,.int .i64 0] h K:=fun h hf hg hp K hk => zId s i 0 0 t c hs (by omega) hc0 h p d hf hg hp K hk
  have LF:=zB5 c
  have DF:=zBq c
  by_cases hl:letB c = true
  · have hin:(zB2 ++ [46]).contains c = true:=by rw [zLq,hl]; rfl
    rw [hl] at LF
    have hZ:=j7_ hX hg hY hm hM2 hMS hmp
    repeat (first | refine wk_ ?_ | (refine B0 _ ?_ ?_ ?_ _ fun n1 tyn1 hn1 hun1 => ⟨rfl,?_⟩; exact fit_; exact ge_; exact om_; (try dsimp only at hn1)) | (refine zEc s (i:Int) 0 t _ _ _ p d ?_ ?_ ?_ _ fun n3 tyn3 hn3 hun3 => ⟨rfl,?_⟩; exact fit_; (focus (((first | exact hg | exact hG _ | (try dsimp only); exact hg)); done)); exact om_; (try dsimp only at hn3)) | (refine LF _ ?_ _ fun n1 tyn1 hn1 hun1 => ⟨rfl,?_⟩; exact fit_; (try dsimp only at hn1)) | (refine DF _ ?_ _ fun n1 tyn1 hn1 hun1 => ⟨rfl,?_⟩; exact fit_; (try dsimp only at hn1)))
    all_goals ((try refine W.ret ?_); (try simp only [zAd,zA3,zAb,hMS]); refine hk2 _ _ _ _ ?_ ?_ ⟨c,u,rfl,hin⟩; omega; exact ut_)
  · rw [Bool.not_eq_true] at hl
    rw [hl] at LF
    by_cases hdg:digB c = true
    · have hin:(zB2 ++ [46]).contains c = true:=by rw [zLq,hl,hdg]; rfl
      rw [hdg] at DF
      have hZ:=j7_ hX hg hY hm hM2 hMS hmp
      repeat (first | refine wk_ ?_ | (refine B0 _ ?_ ?_ ?_ _ fun n1 tyn1 hn1 hun1 => ⟨rfl,?_⟩; exact fit_; exact ge_; exact om_; (try dsimp only at hn1)) | (refine zEc s (i:Int) 0 t _ _ _ p d ?_ ?_ ?_ _ fun n3 tyn3 hn3 hun3 => ⟨rfl,?_⟩; exact fit_; (focus (((first | exact hg | exact hG _ | (try dsimp only); exact hg)); done)); exact om_; (try dsimp only at hn3)) | (refine LF _ ?_ _ fun n1 tyn1 hn1 hun1 => ⟨rfl,?_⟩; exact fit_; (try dsimp only at hn1)) | (refine DF _ ?_ _ fun n1 tyn1 hn1 hun1 => ⟨rfl,?_⟩; exact fit_; (try dsimp only at hn1)))
      all_goals ((try refine W.ret ?_); (try simp only [zAd,zA3,zAb,hMS]); refine hk2 _ _ _ _ ?_ ?_ ⟨c,u,rfl,hin⟩; omega; exact ut_)
    · rw [Bool.not_eq_true] at hdg
      rw [hdg] at DF
      by_cases h46:c.toNat = 46
      · have hin:(zB2 ++ [46]).contains c = true:=by rw [zLq,hl,hdg]; simp [h46]
        have hZ:=j7_ hX hg hY hm hM2 hMS hmp
        repeat (first | refine wk_ ?_ | (refine B0 _ ?_ ?_ ?_ _ fun n1 tyn1 hn1 hun1 => ⟨rfl,?_⟩; exact fit_; exact ge_; exact om_; (try dsimp only at hn1)) | (refine zEc s (i:Int) 0 t _ _ _ p d ?_ ?_ ?_ _ fun n3 tyn3 hn3 hun3 => ⟨rfl,?_⟩; exact fit_; (focus (((first | exact hg | exact hG _ | (try dsimp only); exact hg)); done)); exact om_; (try dsimp only at hn3)) | (refine LF _ ?_ _ fun n1 tyn1 hn1 hun1 => ⟨rfl,?_⟩; exact fit_; (try dsimp only at hn1)) | (refine DF _ ?_ _ fun n1 tyn1 hn1 hun1 => ⟨rfl,?_⟩; exact fit_; (try dsimp only at hn1)))
        all_goals ((try refine W.ret ?_); (try simp only [zAd,zA3,zAb,hMS]); refine hk2 _ _ _ _ ?_ ?_ ⟨c,u,rfl,hin⟩; omega; exact ut_)
      · have hnin:(zB2 ++ [46]).contains c = false:=by rw [zLq,hl,hdg]; simp [h46]
        have hZ:=j7_ hX hg hY hm hM2 hMS hmp
        repeat (first | refine wk_ ?_ | (refine B0 _ ?_ ?_ ?_ _ fun n1 tyn1 hn1 hun1 => ⟨rfl,?_⟩; exact fit_; exact ge_; exact om_; (try dsimp only at hn1)) | (refine zEc s (i:Int) 0 t _ _ _ p d ?_ ?_ ?_ _ fun n3 tyn3 hn3 hun3 => ⟨rfl,?_⟩; exact fit_; (focus (((first | exact hg | exact hG _ | (try dsimp only); exact hg)); done)); exact om_; (try dsimp only at hn3)) | (refine LF _ ?_ _ fun n1 tyn1 hn1 hun1 => ⟨rfl,?_⟩; exact fit_; (try dsimp only at hn1)) | (refine DF _ ?_ _ fun n1 tyn1 hn1 hun1 => ⟨rfl,?_⟩; exact fit_; (try dsimp only at hn1)))
        all_goals ((try refine W.ret ?_); (try simp only [zAd,zA3,zAb,hMS]); refine hk1 _ _ _ _ ?_ ?_ (by intro c' u' e; cases e; exact hnin); omega; exact ut_)
def zFe (B:Nat) (ds u:B8):Nat ⊕ Nat:=if 18446744073709551616 ≤ valF B 0 ds then .inl 3 else match u with
 | [] => .inr (valF B 0 ds)
 | c :: _ => if (zB2 ++ [46]).contains c then .inl 2 else .inr (valF B 0 ds)
theorem zFt (s:B8) (hs:s.length < 60000) (p d m dm:Nat) (t at':Int) (hmp:m ≠ p) (Q:QT) (r:B8) (i:Nat) (hd:s.drop i = r) (hlen:i + r.length = s.length) (h:CHeap) (v1 v3 v4 v5 v7 v9 v11 v12:CVal) (hg:zA1 h.ents p = some (lx s (i:Int) 0 t)) (hm:zA1 h.ents m = some Z4) (hf:Fit h) (hp:p < h.next) (hpm:m < h.next)
    (hk1:∀ n' ty w4 w5 w7 w8 w9 w11 w12 v,h.next ≤ n' → zA9 ty n' → zFe 8 (fr D8 r) (bk D8 r) = .inr v → Q .ret ⟨[.ptr p d 0,v1,.int .i64 at',v3,w4,w5,.int .u64 8,w7,w8,w9,.ptr m dm 0,w11,w12],⟨zA2 (zA2 h.ents p (lx s ((i + (fr D8 r).length:Nat):Int) 0 t)) m (.cells [.int .i64 2,.str [],.int .u64 (v:Nat),.int .i64 at']),n',ty⟩,[]⟩)
    (hk2:∀ n' ty w4 w5 w7 w8 w9 w11 w12 (e:Nat) (j:Int),h.next ≤ n' → zA9 ty n' → zFe 8 (fr D8 r) (bk D8 r) = .inl e → Q .ret ⟨[.ptr p d 0,v1,.int .i64 at',v3,w4,w5,.int .u64 8,w7,w8,w9,.ptr m dm 0,w11,w12],⟨zA2 h.ents p (lx s j (e:Int) at'),n',ty⟩,[]⟩) :
    W tree.getF zDv ⟨[.ptr p d 0,v1,.int .i64 at',v3,v4,v5,.int .u64 8,v7,.int .u64 0,v9,.ptr m dm 0,v11,v12],h,[]⟩ (fun x st' => zK6 tree.getF zIr Q (zAd 0 x) st'):=by
 obtain ⟨hu,hut,hX⟩:=fx4 hf
 have hY:=fx5 hf hg; have ⟨hG,hD2,hC2,hN2⟩:=hY
 have hM2:∀ x,zA1 (zA2 h.ents p x) m = some Z4:=fun x => by rw [zA0 hmp]; exact hm
 have hMS:∀ x,zA2 (zA2 h.ents p x) m Z4 = zA2 h.ents p x:=fun x => zAe (hM2 x)
 refine ref_dig8 s hs p d m dm t at' hmp _ _ _ _ _ r i 0 hd hlen (by omega) h _ _ _ _ hg hm ⟨hu,hut⟩ hp hpm ?_ ?_
 · intro n' ty w4 w5 w7 w9 g1 g2 g3
   try simp only [zAd,zA3,zAb]
   have hfl:=zJi D8 r
   have hdr:=zC3 D8 r
   refine zLk s hs p d m dm t at' _ hmp _ (bk D8 r) (i + (fr D8 r).length) (by rw [← List.drop_drop,hd,hdr]) (by omega) _ _ _ _ _ _ _ _ _ _ (hG _) (hM2 _) ⟨hu.set.le g1,g2⟩ om_ om_ ?_ ?_
   · intro n2 ty2 w11 w12 g4 g5 g6
     refine hk1 n2 ty2 _ _ _ _ _ _ _ (valF 8 0 (fr D8 r)) (by (try dsimp only at g4); omega) g5 ?_
     unfold zFe
     rw [if_neg (by omega)]
     split
     · rfl
     · rename_i c u hu2
       rw [g6 _ _ hu2]; rfl
   · intro n2 ty2 w11 w12 g4 g5 g6
     rw [zA4]
     refine hk2 n2 ty2 _ _ _ _ _ _ _ 2 _ (by (try dsimp only at g4); omega) g5 ?_
     obtain ⟨c,u,g7,g8⟩:=g6
     unfold zFe
     rw [if_neg (by omega),g7]
     dsimp only
     rw [g8]; rfl
 · intro n' ty w4 w5 w7 w8 w9 j g1 g2 g3
   try simp only [zAd,zA3,zAb]
   refine hk2 n' ty _ _ _ _ _ _ _ 3 _ g1 g2 ?_
   unfold zFe
   rw [if_pos g3]
theorem num_rest10 (s:B8) (hs:s.length < 60000) (p d m dm:Nat) (t at':Int) (hmp:m ≠ p) (Q:QT) (r:B8) (i:Nat) (hd:s.drop i = r) (hlen:i + r.length = s.length) (h:CHeap) (v1 v3 v4 v5 v7 v9 v11 v12:CVal) (hg:zA1 h.ents p = some (lx s (i:Int) 0 t)) (hm:zA1 h.ents m = some Z4) (hf:Fit h) (hp:p < h.next) (hpm:m < h.next)
    (hk1:∀ n' ty w4 w5 w7 w8 w9 w11 w12 v,h.next ≤ n' → zA9 ty n' → zFe 10 (fr D10 r) (bk D10 r) = .inr v → Q .ret ⟨[.ptr p d 0,v1,.int .i64 at',v3,w4,w5,.int .u64 10,w7,w8,w9,.ptr m dm 0,w11,w12],⟨zA2 (zA2 h.ents p (lx s ((i + (fr D10 r).length:Nat):Int) 0 t)) m (.cells [.int .i64 2,.str [],.int .u64 (v:Nat),.int .i64 at']),n',ty⟩,[]⟩)
    (hk2:∀ n' ty w4 w5 w7 w8 w9 w11 w12 (e:Nat) (j:Int),h.next ≤ n' → zA9 ty n' → zFe 10 (fr D10 r) (bk D10 r) = .inl e → Q .ret ⟨[.ptr p d 0,v1,.int .i64 at',v3,w4,w5,.int .u64 10,w7,w8,w9,.ptr m dm 0,w11,w12],⟨zA2 h.ents p (lx s j (e:Int) at'),n',ty⟩,[]⟩) :
    W tree.getF zDv ⟨[.ptr p d 0,v1,.int .i64 at',v3,v4,v5,.int .u64 10,v7,.int .u64 0,v9,.ptr m dm 0,v11,v12],h,[]⟩ (fun x st' => zK6 tree.getF zIr Q (zAd 0 x) st'):=by
 obtain ⟨hu,hut,hX⟩:=fx4 hf
 have hY:=fx5 hf hg; have ⟨hG,hD2,hC2,hN2⟩:=hY
 have hM2:∀ x,zA1 (zA2 h.ents p x) m = some Z4:=fun x => by rw [zA0 hmp]; exact hm
 have hMS:∀ x,zA2 (zA2 h.ents p x) m Z4 = zA2 h.ents p x:=fun x => zAe (hM2 x)
 refine ref_dig10 s hs p d m dm t at' hmp _ _ _ _ _ r i 0 hd hlen (by omega) h _ _ _ _ hg hm ⟨hu,hut⟩ hp hpm ?_ ?_
 · intro n' ty w4 w5 w7 w9 g1 g2 g3
   try simp only [zAd,zA3,zAb]
   have hfl:=zJi D10 r
   have hdr:=zC3 D10 r
   refine zLk s hs p d m dm t at' _ hmp _ (bk D10 r) (i + (fr D10 r).length) (by rw [← List.drop_drop,hd,hdr]) (by omega) _ _ _ _ _ _ _ _ _ _ (hG _) (hM2 _) ⟨hu.set.le g1,g2⟩ om_ om_ ?_ ?_
   · intro n2 ty2 w11 w12 g4 g5 g6
     refine hk1 n2 ty2 _ _ _ _ _ _ _ (valF 10 0 (fr D10 r)) (by (try dsimp only at g4); omega) g5 ?_
     unfold zFe
     rw [if_neg (by omega)]
     split
     · rfl
     · rename_i c u hu2
       rw [g6 _ _ hu2]; rfl
   · intro n2 ty2 w11 w12 g4 g5 g6
     rw [zA4]
     refine hk2 n2 ty2 _ _ _ _ _ _ _ 2 _ (by (try dsimp only at g4); omega) g5 ?_
     obtain ⟨c,u,g7,g8⟩:=g6
     unfold zFe
     rw [if_neg (by omega),g7]
     dsimp only
     rw [g8]; rfl
 · intro n' ty w4 w5 w7 w8 w9 j g1 g2 g3
   try simp only [zAd,zA3,zAb]
   refine hk2 n' ty _ _ _ _ _ _ _ 3 _ g1 g2 ?_
   unfold zFe
   rw [if_pos g3]
theorem zKn (s:B8) (hs:s.length < 60000) (p d m dm:Nat) (t at':Int) (hmp:m ≠ p) (Q:QT) (r:B8) (i:Nat) (hd:s.drop i = r) (hlen:i + r.length = s.length) (h:CHeap) (v1 v3 v4 v5 v7 v9 v11 v12:CVal) (hg:zA1 h.ents p = some (lx s (i:Int) 0 t)) (hm:zA1 h.ents m = some Z4) (hf:Fit h) (hp:p < h.next) (hpm:m < h.next)
    (hk1:∀ n' ty w4 w5 w7 w8 w9 w11 w12 v,h.next ≤ n' → zA9 ty n' → zFe 16 (fr zB3 r) (bk zB3 r) = .inr v → Q .ret ⟨[.ptr p d 0,v1,.int .i64 at',v3,w4,w5,.int .u64 16,w7,w8,w9,.ptr m dm 0,w11,w12],⟨zA2 (zA2 h.ents p (lx s ((i + (fr zB3 r).length:Nat):Int) 0 t)) m (.cells [.int .i64 2,.str [],.int .u64 (v:Nat),.int .i64 at']),n',ty⟩,[]⟩)
    (hk2:∀ n' ty w4 w5 w7 w8 w9 w11 w12 (e:Nat) (j:Int),h.next ≤ n' → zA9 ty n' → zFe 16 (fr zB3 r) (bk zB3 r) = .inl e → Q .ret ⟨[.ptr p d 0,v1,.int .i64 at',v3,w4,w5,.int .u64 16,w7,w8,w9,.ptr m dm 0,w11,w12],⟨zA2 h.ents p (lx s j (e:Int) at'),n',ty⟩,[]⟩) :
    W tree.getF zDv ⟨[.ptr p d 0,v1,.int .i64 at',v3,v4,v5,.int .u64 16,v7,.int .u64 0,v9,.ptr m dm 0,v11,v12],h,[]⟩ (fun x st' => zK6 tree.getF zIr Q (zAd 0 x) st'):=by
 obtain ⟨hu,hut,hX⟩:=fx4 hf
 have hY:=fx5 hf hg; have ⟨hG,hD2,hC2,hN2⟩:=hY
 have hM2:∀ x,zA1 (zA2 h.ents p x) m = some Z4:=fun x => by rw [zA0 hmp]; exact hm
 have hMS:∀ x,zA2 (zA2 h.ents p x) m Z4 = zA2 h.ents p x:=fun x => zAe (hM2 x)
 refine ref_dig16 s hs p d m dm t at' hmp _ _ _ _ _ r i 0 hd hlen (by omega) h _ _ _ _ hg hm ⟨hu,hut⟩ hp hpm ?_ ?_
 · intro n' ty w4 w5 w7 w9 g1 g2 g3
   try simp only [zAd,zA3,zAb]
   have hfl:=zJi zB3 r
   have hdr:=zC3 zB3 r
   refine zLk s hs p d m dm t at' _ hmp _ (bk zB3 r) (i + (fr zB3 r).length) (by rw [← List.drop_drop,hd,hdr]) (by omega) _ _ _ _ _ _ _ _ _ _ (hG _) (hM2 _) ⟨hu.set.le g1,g2⟩ om_ om_ ?_ ?_
   · intro n2 ty2 w11 w12 g4 g5 g6
     refine hk1 n2 ty2 _ _ _ _ _ _ _ (valF 16 0 (fr zB3 r)) (by (try dsimp only at g4); omega) g5 ?_
     unfold zFe
     rw [if_neg (by omega)]
     split
     · rfl
     · rename_i c u hu2
       rw [g6 _ _ hu2]; rfl
   · intro n2 ty2 w11 w12 g4 g5 g6
     rw [zA4]
     refine hk2 n2 ty2 _ _ _ _ _ _ _ 2 _ (by (try dsimp only at g4); omega) g5 ?_
     obtain ⟨c,u,g7,g8⟩:=g6
     unfold zFe
     rw [if_neg (by omega),g7]
     dsimp only
     rw [g8]; rfl
 · intro n' ty w4 w5 w7 w8 w9 j g1 g2 g3
   try simp only [zAd,zA3,zAb]
   refine hk2 n' ty _ _ _ _ _ _ _ 3 _ g1 g2 ?_
   unfold zFe
   rw [if_pos g3]
def zK3 (s:B8):Nat ⊕ (Nat × Nat):=match numF s with
 | (B,n,ds) => match zFe B ds (s.drop (n + ds.length)) with
  | .inl e => .inl e
  | .inr v => .inr (v,n + ds.length)
theorem Digit_0:Pu tree.getF 245 [.int .u8 0] (.int .i64 (-1)):=zHz 0
theorem number_L (s:B8) (hs:s.length < 60000) (i:Nat) (c:UInt8) (r:B8) (hd:s.drop i = c :: r) (hlen:i + (c :: r).length = s.length) (t:Int) (h:CHeap) (p d:Nat) (hf:Fit h) (hg:zA1 h.ents p = some (lx s (i:Int) 0 t)) (hp:p < h.next) (K:KT)
    (hk1:∀ n' ty (v len:Nat),h.next ≤ n' → zA9 ty n' → zK3 (c :: r) = .inr (v,len) → K (.agg [.int .i64 2,.str [],.int .u64 (v:Int),.int .i64 (i:Int)]) ⟨zA2 h.ents p (lx s ((i + len:Nat):Int) 0 t),n',ty⟩)
    (hk2:∀ n' ty (e:Nat) (j:Int),h.next ≤ n' → zA9 ty n' → zK3 (c :: r) = .inl e → K (.agg [.int .i64 0,.str [],.int .u64 0,.int .i64 0]) ⟨zA2 h.ents p (lx s j (e:Int) (i:Int)),n',ty⟩):Wc tree.getF 191 [.ptr p d 0] h K:=by
 obtain ⟨hu,hut,hX⟩:=fx4 hf
 have hY:=fx5 hf hg; have ⟨hG,hD2,hC2,hN2⟩:=hY
 have hc0:=zB0 hd
 obtain ⟨hi,hce⟩:=List.getElem?_eq_some_iff.1 hc0
 have hfin:∀ (B n:Nat) (ds:B8),numF (c :: r) = (B,n,ds) → (∀ e,zFe B ds ((c :: r).drop (n + ds.length)) = .inl e → zK3 (c :: r) = .inl e) ∧ (∀ v,zFe B ds ((c :: r).drop (n + ds.length)) = .inr v → zK3 (c :: r) = .inr (v,n + ds.length)):=by
  intro B n ds hnf
  constructor
  · intro e he; unfold zK3; rw [hnf]; dsimp only; rw [he]
  · intro v he; unfold zK3; rw [hnf]; dsimp only; rw [he]
 by_cases hT1:(c :: r).take 2 = [48,120]
 · obtain ⟨r2,hcr⟩:∃ r2,c :: r = 48 :: 120 :: r2:=⟨(c :: r).drop 2,by have:=List.take_append_drop 2 (c :: r); rw [hT1] at this; exact this.symm⟩
   have hc48:c = 48:=by injection hcr
   have hr2:r = 120 :: r2:=by injection hcr
   subst hr2
   have hd2:s.drop (i + 2) = r2:=by rw [← List.drop_drop,hd]; rfl
   have hdr2:(c :: 120 :: r2).drop 2 = r2:=rfl
   have hcn:c.toNat = 48:=by rw [hc48]; rfl
   have S1:∀ (h:CHeap) (hf:Fit h) (hg:zA1 h.ents p = some (lx s (i:Int) 0 t)) (hp:p < h.next) (K:KT) (hk:∀ n' ty,h.next ≤ n' → zA9 ty n' → K (.bool true) ⟨h.ents,n',ty⟩),Wc tree.getF 186 [.ptr p d 0,.str [48,120]] h K:=fun h hf hg hp K hk => zH3 s i 0 t [48,120] hs (by rw [hd]; exact hT1) (by simp at hlen ⊢; omega) h p d hf hg hp K hk
   cases hr:r2 with
   | nil =>
    subst hr
    have B2:∀ (h:CHeap) (hf:Fit h) (hg:zA1 h.ents p = some (lx s (i:Int) 0 t)) (hp:p < h.next) (K:KT) (hk:∀ n' ty,h.next ≤ n' → zA9 ty n' → K (.int .u8 0) ⟨h.ents,n',ty⟩),Wc tree.getF 189 [.ptr p d 0,.int .i64 2] h K:=fun h hf hg hp K hk => zJu s i 2 0 t hs (by omega) (by omega) (by simp at hlen; omega) h p d hf hg hp K hk
    have DG:=Digit_0
    have hnf:numF (c :: 120 :: []) = (8,0,fr D8 (c :: 120 :: [])):=by unfold numF; rw [if_neg (by rintro ⟨_,h⟩; simp [fr] at h),if_pos (by rw [hc48]; rfl)]
    refine mk_ 191 c191 (s_ ?_)
    have hZ:=j5_ hX hg hY hce hc0
    repeat (first | refine wk_ ?_ | (refine S1 _ ?_ ?_ ?_ _ fun n1 tyn1 hn1 hun1 => ⟨rfl,?_⟩; exact fit_; exact ge_; exact om_; (try dsimp only at hn1)) | (refine S2 _ ?_ ?_ ?_ _ fun n1 tyn1 hn1 hun1 => ⟨rfl,?_⟩; exact fit_; exact ge_; exact om_; (try dsimp only at hn1)) | (refine B2 _ ?_ ?_ ?_ _ fun n1 tyn1 hn1 hun1 => ⟨rfl,?_⟩; exact fit_; exact ge_; exact om_; (try dsimp only at hn1)) | (refine DG _ ?_ _ fun n1 tyn1 hn1 hun1 => ⟨rfl,?_⟩; exact fit_; (try dsimp only at hn1)))
    refine zFt s hs p d _ _ t (i:Int) ?_ _ (c :: 120 :: []) (i) ?_ ?_ _ _ _ _ _ _ _ _ _ ?_ ?_ ?_ ?_ ?_ ?_ ?_
    · omega
    · exact hd
    · exact hlen
    · (simp (disch:=omega) [zA1,zA2,zBh,zBi,zA4,hg,hG])
    · (simp (disch:=omega) [zA1,zA2,zBh,zBi,zA4,hg,hG])
    · exact fit_
    · exact om_
    · exact om_
    · intro n' ty w4 w5 w7 w8 w9 w11 w12 v g1 g2 g3
      refine endW.of (.inl rfl) rfl ?_
      generalize e:zB4 .. = r
      simp (disch:=omega) [hX,hg,hY,hce,hc0] at e
      subst e
      refine hk1 _ _ v _ ?_ ?_ (by have:=(hfin _ _ _ hnf).2 v (by rw [Nat.zero_add,zC3]; exact g3); first | exact this | rwa [Nat.zero_add] at this)
      · (try dsimp only at g1); omega
      · exact ut_
    · intro n' ty w4 w5 w7 w8 w9 w11 w12 ee j g1 g2 g3
      refine endW.of (.inl rfl) rfl ?_
      generalize e:zB4 .. = r
      simp (disch:=omega) [hX,hg,hY,hce,hc0] at e
      subst e
      refine hk2 _ _ ee j ?_ ?_ ((hfin _ _ _ hnf).1 ee (by rw [Nat.zero_add,zC3]; exact g3))
      · (try dsimp only at g1); omega
      · exact ut_
   | cons x r3 =>
    have hx2:s[i + 2]? = some x:=zB0 (hd2.trans hr)
    have B2:∀ (h:CHeap) (hf:Fit h) (hg:zA1 h.ents p = some (lx s (i:Int) 0 t)) (hp:p < h.next) (K:KT) (hk:∀ n' ty,h.next ≤ n' → zA9 ty n' → K (.int .u8 (x.toNat:Int)) ⟨h.ents,n',ty⟩),Wc tree.getF 189 [.ptr p d 0,.int .i64 2] h K:=fun h hf hg hp K hk => zId s i 2 0 t x hs (by omega) hx2 h p d hf hg hp K hk
    have DG:=zHz x
    by_cases hxx:0 ≤ dgI x
    · have hxh:zB3.contains x = true:=by
       have:=zDn (p:=fun c => !(decide (0 ≤ dgI c)) || zB3.contains c) (by decide +kernel) x
       simpa [hxx] using this
      have hnf:numF (c :: 120 :: r2) = (16,2,fr zB3 r2):=by unfold numF; rw [if_pos ⟨by rw [hc48]; first | exact .inl rfl | exact .inr rfl,by rw [hdr2,hr,zJj hxh]; simp⟩,hdr2]
      refine mk_ 191 c191 (s_ ?_)
      have hZ:=j5_ hX hg hY hce hc0
      repeat (first | refine wk_ ?_ | (refine S1 _ ?_ ?_ ?_ _ fun n1 tyn1 hn1 hun1 => ⟨rfl,?_⟩; exact fit_; exact ge_; exact om_; (try dsimp only at hn1)) | (refine S2 _ ?_ ?_ ?_ _ fun n1 tyn1 hn1 hun1 => ⟨rfl,?_⟩; exact fit_; exact ge_; exact om_; (try dsimp only at hn1)) | (refine B2 _ ?_ ?_ ?_ _ fun n1 tyn1 hn1 hun1 => ⟨rfl,?_⟩; exact fit_; exact ge_; exact om_; (try dsimp only at hn1)) | (refine DG _ ?_ _ fun n1 tyn1 hn1 hun1 => ⟨rfl,?_⟩; exact fit_; (try dsimp only at hn1)))
      refine zKn s hs p d _ _ t (i:Int) ?_ _ (r2) (i + 2) ?_ ?_ _ _ _ _ _ _ _ _ _ ?_ ?_ ?_ ?_ ?_ ?_ ?_
      · omega
      · exact hd2
      · (simp at hlen ⊢; omega)
      · (simp (disch:=omega) [zA1,zA2,zBh,zBi,zA4,hg,hG])
      · (simp (disch:=omega) [zA1,zA2,zBh,zBi,zA4,hg,hG])
      · exact fit_
      · exact om_
      · exact om_
      · intro n' ty w4 w5 w7 w8 w9 w11 w12 v g1 g2 g3
        refine endW.of (.inl rfl) rfl ?_
        generalize e:zB4 .. = r
        simp (disch:=omega) [hX,hg,hY,hce,hc0] at e
        subst e
        rw [Int.add_assoc]; refine hk1 _ _ v (2 + (fr zB3 r2).length) ?_ ?_ (by have:=(hfin _ _ _ hnf).2 v (by rw [← List.drop_drop,hdr2,zC3]; exact g3); first | exact this | rwa [Nat.zero_add] at this)
        · (try dsimp only at g1); omega
        · exact ut_
      · intro n' ty w4 w5 w7 w8 w9 w11 w12 ee j g1 g2 g3
        refine endW.of (.inl rfl) rfl ?_
        generalize e:zB4 .. = r
        simp (disch:=omega) [hX,hg,hY,hce,hc0] at e
        subst e
        refine hk2 _ _ ee j ?_ ?_ ((hfin _ _ _ hnf).1 ee (by rw [← List.drop_drop,hdr2,zC3]; exact g3))
        · (try dsimp only at g1); omega
        · exact ut_
    · have hxh:zB3.contains x = false:=by
       have:=zDn (p:=fun c => decide (0 ≤ dgI c) || !(zB3.contains c)) (by decide +kernel) x
       simpa [hxx] using this
      have hnf:numF (c :: 120 :: r2) = (8,0,fr D8 (c :: 120 :: r2)):=by unfold numF; rw [if_neg (by rintro ⟨_,h⟩; rw [hdr2,hr,fr_no hxh] at h; exact absurd h (by decide)),if_pos (by rw [hc48]; rfl)]
      refine mk_ 191 c191 (s_ ?_)
      have hZ:=j5_ hX hg hY hce hc0
      repeat (first | refine wk_ ?_ | (refine S1 _ ?_ ?_ ?_ _ fun n1 tyn1 hn1 hun1 => ⟨rfl,?_⟩; exact fit_; exact ge_; exact om_; (try dsimp only at hn1)) | (refine S2 _ ?_ ?_ ?_ _ fun n1 tyn1 hn1 hun1 => ⟨rfl,?_⟩; exact fit_; exact ge_; exact om_; (try dsimp only at hn1)) | (refine B2 _ ?_ ?_ ?_ _ fun n1 tyn1 hn1 hun1 => ⟨rfl,?_⟩; exact fit_; exact ge_; exact om_; (try dsimp only at hn1)) | (refine DG _ ?_ _ fun n1 tyn1 hn1 hun1 => ⟨rfl,?_⟩; exact fit_; (try dsimp only at hn1)))
      refine zFt s hs p d _ _ t (i:Int) ?_ _ (c :: 120 :: r2) (i) ?_ ?_ _ _ _ _ _ _ _ _ _ ?_ ?_ ?_ ?_ ?_ ?_ ?_
      · omega
      · exact hd
      · exact hlen
      · (simp (disch:=omega) [zA1,zA2,zBh,zBi,zA4,hg,hG])
      · (simp (disch:=omega) [zA1,zA2,zBh,zBi,zA4,hg,hG])
      · exact fit_
      · exact om_
      · exact om_
      · intro n' ty w4 w5 w7 w8 w9 w11 w12 v g1 g2 g3
        refine endW.of (.inl rfl) rfl ?_
        generalize e:zB4 .. = r
        simp (disch:=omega) [hX,hg,hY,hce,hc0] at e
        subst e
        refine hk1 _ _ v _ ?_ ?_ (by have:=(hfin _ _ _ hnf).2 v (by rw [Nat.zero_add,zC3]; exact g3); first | exact this | rwa [Nat.zero_add] at this)
        · (try dsimp only at g1); omega
        · exact ut_
      · intro n' ty w4 w5 w7 w8 w9 w11 w12 ee j g1 g2 g3
        refine endW.of (.inl rfl) rfl ?_
        generalize e:zB4 .. = r
        simp (disch:=omega) [hX,hg,hY,hce,hc0] at e
        subst e
        refine hk2 _ _ ee j ?_ ?_ ((hfin _ _ _ hnf).1 ee (by rw [Nat.zero_add,zC3]; exact g3))
        · (try dsimp only at g1); omega
        · exact ut_
 · have S1 : ∀ (h : CHeap) (hf : Fit h) (hg : zA1 h.ents p = some (lx s (i : Int) 0 t)) (hp : p < h.next) (K : KT) (hk : ∀ n' ty, h.next ≤ n' → zA9 ty n' → K (.bool false) ⟨h.ents, n', ty⟩), Wc tree.getF 186 [.ptr p d 0, .str [48, 120]] h K := fun h hf hg hp K hk => by
       by_cases hle:i + 2 ≤ s.length
       · exact zHm s i 0 t [48,120] hs hle (by rw [hd]; simpa using hT1) h p d hf hg hp K hk
       · exact zH7 s i 0 t [48,120] hs (by omega) (by simp) (by simp; omega) h p d hf hg hp K hk
   by_cases hT2:(c :: r).take 2 = [48,88]
   · obtain ⟨r2,hcr⟩:∃ r2,c :: r = 48 :: 88 :: r2:=⟨(c :: r).drop 2,by have:=List.take_append_drop 2 (c :: r); rw [hT2] at this; exact this.symm⟩
     have hc48:c = 48:=by injection hcr
     have hr2:r = 88 :: r2:=by injection hcr
     subst hr2
     have hd2:s.drop (i + 2) = r2:=by rw [← List.drop_drop,hd]; rfl
     have hdr2:(c :: 88 :: r2).drop 2 = r2:=rfl
     have hcn:c.toNat = 48:=by rw [hc48]; rfl
     have S2:∀ (h:CHeap) (hf:Fit h) (hg:zA1 h.ents p = some (lx s (i:Int) 0 t)) (hp:p < h.next) (K:KT) (hk:∀ n' ty,h.next ≤ n' → zA9 ty n' → K (.bool true) ⟨h.ents,n',ty⟩),Wc tree.getF 186 [.ptr p d 0,.str [48,88]] h K:=fun h hf hg hp K hk => zH3 s i 0 t [48,88] hs (by rw [hd]; exact hT2) (by simp at hlen ⊢; omega) h p d hf hg hp K hk
     cases hr:r2 with
     | nil =>
      subst hr
      have B2:∀ (h:CHeap) (hf:Fit h) (hg:zA1 h.ents p = some (lx s (i:Int) 0 t)) (hp:p < h.next) (K:KT) (hk:∀ n' ty,h.next ≤ n' → zA9 ty n' → K (.int .u8 0) ⟨h.ents,n',ty⟩),Wc tree.getF 189 [.ptr p d 0,.int .i64 2] h K:=fun h hf hg hp K hk => zJu s i 2 0 t hs (by omega) (by omega) (by simp at hlen; omega) h p d hf hg hp K hk
      have DG:=Digit_0
      have hnf:numF (c :: 88 :: []) = (8,0,fr D8 (c :: 88 :: [])):=by unfold numF; rw [if_neg (by rintro ⟨_,h⟩; simp [fr] at h),if_pos (by rw [hc48]; rfl)]
      refine mk_ 191 c191 (s_ ?_)
      have hZ:=j5_ hX hg hY hce hc0
      repeat (first | refine wk_ ?_ | (refine S1 _ ?_ ?_ ?_ _ fun n1 tyn1 hn1 hun1 => ⟨rfl,?_⟩; exact fit_; exact ge_; exact om_; (try dsimp only at hn1)) | (refine S2 _ ?_ ?_ ?_ _ fun n1 tyn1 hn1 hun1 => ⟨rfl,?_⟩; exact fit_; exact ge_; exact om_; (try dsimp only at hn1)) | (refine B2 _ ?_ ?_ ?_ _ fun n1 tyn1 hn1 hun1 => ⟨rfl,?_⟩; exact fit_; exact ge_; exact om_; (try dsimp only at hn1)) | (refine DG _ ?_ _ fun n1 tyn1 hn1 hun1 => ⟨rfl,?_⟩; exact fit_; (try dsimp only at hn1)))
      refine zFt s hs p d _ _ t (i:Int) ?_ _ (c :: 88 :: []) (i) ?_ ?_ _ _ _ _ _ _ _ _ _ ?_ ?_ ?_ ?_ ?_ ?_ ?_
      · omega
      · exact hd
      · exact hlen
      · (simp (disch:=omega) [zA1,zA2,zBh,zBi,zA4,hg,hG])
      · (simp (disch:=omega) [zA1,zA2,zBh,zBi,zA4,hg,hG])
      · exact fit_
      · exact om_
      · exact om_
      · intro n' ty w4 w5 w7 w8 w9 w11 w12 v g1 g2 g3
        refine endW.of (.inl rfl) rfl ?_
        generalize e:zB4 .. = r
        simp (disch:=omega) [hX,hg,hY,hce,hc0] at e
        subst e
        refine hk1 _ _ v _ ?_ ?_ (by have:=(hfin _ _ _ hnf).2 v (by rw [Nat.zero_add,zC3]; exact g3); first | exact this | rwa [Nat.zero_add] at this)
        · (try dsimp only at g1); omega
        · exact ut_
      · intro n' ty w4 w5 w7 w8 w9 w11 w12 ee j g1 g2 g3
        refine endW.of (.inl rfl) rfl ?_
        generalize e:zB4 .. = r
        simp (disch:=omega) [hX,hg,hY,hce,hc0] at e
        subst e
        refine hk2 _ _ ee j ?_ ?_ ((hfin _ _ _ hnf).1 ee (by rw [Nat.zero_add,zC3]; exact g3))
        · (try dsimp only at g1); omega
        · exact ut_
     | cons x r3 =>
      have hx2:s[i + 2]? = some x:=zB0 (hd2.trans hr)
      have B2:∀ (h:CHeap) (hf:Fit h) (hg:zA1 h.ents p = some (lx s (i:Int) 0 t)) (hp:p < h.next) (K:KT) (hk:∀ n' ty,h.next ≤ n' → zA9 ty n' → K (.int .u8 (x.toNat:Int)) ⟨h.ents,n',ty⟩),Wc tree.getF 189 [.ptr p d 0,.int .i64 2] h K:=fun h hf hg hp K hk => zId s i 2 0 t x hs (by omega) hx2 h p d hf hg hp K hk
      have DG:=zHz x
      by_cases hxx:0 ≤ dgI x
      · have hxh:zB3.contains x = true:=by
         have:=zDn (p:=fun c => !(decide (0 ≤ dgI c)) || zB3.contains c) (by decide +kernel) x
         simpa [hxx] using this
        have hnf:numF (c :: 88 :: r2) = (16,2,fr zB3 r2):=by unfold numF; rw [if_pos ⟨by rw [hc48]; first | exact .inl rfl | exact .inr rfl,by rw [hdr2,hr,zJj hxh]; simp⟩,hdr2]
        refine mk_ 191 c191 (s_ ?_)
        have hZ:=j5_ hX hg hY hce hc0
        repeat (first | refine wk_ ?_ | (refine S1 _ ?_ ?_ ?_ _ fun n1 tyn1 hn1 hun1 => ⟨rfl,?_⟩; exact fit_; exact ge_; exact om_; (try dsimp only at hn1)) | (refine S2 _ ?_ ?_ ?_ _ fun n1 tyn1 hn1 hun1 => ⟨rfl,?_⟩; exact fit_; exact ge_; exact om_; (try dsimp only at hn1)) | (refine B2 _ ?_ ?_ ?_ _ fun n1 tyn1 hn1 hun1 => ⟨rfl,?_⟩; exact fit_; exact ge_; exact om_; (try dsimp only at hn1)) | (refine DG _ ?_ _ fun n1 tyn1 hn1 hun1 => ⟨rfl,?_⟩; exact fit_; (try dsimp only at hn1)))
        refine zKn s hs p d _ _ t (i:Int) ?_ _ (r2) (i + 2) ?_ ?_ _ _ _ _ _ _ _ _ _ ?_ ?_ ?_ ?_ ?_ ?_ ?_
        · omega
        · exact hd2
        · (simp at hlen ⊢; omega)
        · (simp (disch:=omega) [zA1,zA2,zBh,zBi,zA4,hg,hG])
        · (simp (disch:=omega) [zA1,zA2,zBh,zBi,zA4,hg,hG])
        · exact fit_
        · exact om_
        · exact om_
        · intro n' ty w4 w5 w7 w8 w9 w11 w12 v g1 g2 g3
          refine endW.of (.inl rfl) rfl ?_
          generalize e:zB4 .. = r
          simp (disch:=omega) [hX,hg,hY,hce,hc0] at e
          subst e
          rw [Int.add_assoc]; refine hk1 _ _ v (2 + (fr zB3 r2).length) ?_ ?_ (by have:=(hfin _ _ _ hnf).2 v (by rw [← List.drop_drop,hdr2,zC3]; exact g3); first | exact this | rwa [Nat.zero_add] at this)
          · (try dsimp only at g1); omega
          · exact ut_
        · intro n' ty w4 w5 w7 w8 w9 w11 w12 ee j g1 g2 g3
          refine endW.of (.inl rfl) rfl ?_
          generalize e:zB4 .. = r
          simp (disch:=omega) [hX,hg,hY,hce,hc0] at e
          subst e
          refine hk2 _ _ ee j ?_ ?_ ((hfin _ _ _ hnf).1 ee (by rw [← List.drop_drop,hdr2,zC3]; exact g3))
          · (try dsimp only at g1); omega
          · exact ut_
      · have hxh:zB3.contains x = false:=by
         have:=zDn (p:=fun c => decide (0 ≤ dgI c) || !(zB3.contains c)) (by decide +kernel) x
         simpa [hxx] using this
        have hnf:numF (c :: 88 :: r2) = (8,0,fr D8 (c :: 88 :: r2)):=by unfold numF; rw [if_neg (by rintro ⟨_,h⟩; rw [hdr2,hr,fr_no hxh] at h; exact absurd h (by decide)),if_pos (by rw [hc48]; rfl)]
        refine mk_ 191 c191 (s_ ?_)
        have hZ:=j5_ hX hg hY hce hc0
        repeat (first | refine wk_ ?_ | (refine S1 _ ?_ ?_ ?_ _ fun n1 tyn1 hn1 hun1 => ⟨rfl,?_⟩; exact fit_; exact ge_; exact om_; (try dsimp only at hn1)) | (refine S2 _ ?_ ?_ ?_ _ fun n1 tyn1 hn1 hun1 => ⟨rfl,?_⟩; exact fit_; exact ge_; exact om_; (try dsimp only at hn1)) | (refine B2 _ ?_ ?_ ?_ _ fun n1 tyn1 hn1 hun1 => ⟨rfl,?_⟩; exact fit_; exact ge_; exact om_; (try dsimp only at hn1)) | (refine DG _ ?_ _ fun n1 tyn1 hn1 hun1 => ⟨rfl,?_⟩; exact fit_; (try dsimp only at hn1)))
        refine zFt s hs p d _ _ t (i:Int) ?_ _ (c :: 88 :: r2) (i) ?_ ?_ _ _ _ _ _ _ _ _ _ ?_ ?_ ?_ ?_ ?_ ?_ ?_
        · omega
        · exact hd
        · exact hlen
        · (simp (disch:=omega) [zA1,zA2,zBh,zBi,zA4,hg,hG])
        · (simp (disch:=omega) [zA1,zA2,zBh,zBi,zA4,hg,hG])
        · exact fit_
        · exact om_
        · exact om_
        · intro n' ty w4 w5 w7 w8 w9 w11 w12 v g1 g2 g3
          refine endW.of (.inl rfl) rfl ?_
          generalize e:zB4 .. = r
          simp (disch:=omega) [hX,hg,hY,hce,hc0] at e
          subst e
          refine hk1 _ _ v _ ?_ ?_ (by have:=(hfin _ _ _ hnf).2 v (by rw [Nat.zero_add,zC3]; exact g3); first | exact this | rwa [Nat.zero_add] at this)
          · (try dsimp only at g1); omega
          · exact ut_
        · intro n' ty w4 w5 w7 w8 w9 w11 w12 ee j g1 g2 g3
          refine endW.of (.inl rfl) rfl ?_
          generalize e:zB4 .. = r
          simp (disch:=omega) [hX,hg,hY,hce,hc0] at e
          subst e
          refine hk2 _ _ ee j ?_ ?_ ((hfin _ _ _ hnf).1 ee (by rw [Nat.zero_add,zC3]; exact g3))
          · (try dsimp only at g1); omega
          · exact ut_
   · have S2 : ∀ (h : CHeap) (hf : Fit h) (hg : zA1 h.ents p = some (lx s (i : Int) 0 t)) (hp : p < h.next) (K : KT) (hk : ∀ n' ty, h.next ≤ n' → zA9 ty n' → K (.bool false) ⟨h.ents, n', ty⟩), Wc tree.getF 186 [.ptr p d 0, .str [48, 88]] h K := fun h hf hg hp K hk => by
         by_cases hle:i + 2 ≤ s.length
         · exact zHm s i 0 t [48,88] hs hle (by rw [hd]; simpa using hT2) h p d hf hg hp K hk
         · exact zH7 s i 0 t [48,88] hs (by omega) (by simp) (by simp; omega) h p d hf hg hp K hk
     have hnP:¬ (((c :: r).take 2 = [48,120] ∨ (c :: r).take 2 = [48,88]) ∧ 0 < (fr zB3 ((c :: r).drop 2)).length):=by rintro ⟨h | h,_⟩; exact hT1 h; exact hT2 h
     by_cases h48:c = 48
     · have hnf:numF (c :: r) = (8,0,fr D8 (c :: r)):=by unfold numF; rw [if_neg hnP,if_pos (by rw [h48]; rfl)]
       have hcn:c.toNat = 48:=by rw [h48]; rfl
       refine mk_ 191 c191 (s_ ?_)
       have hZ:=j5_ hX hg hY hce hc0
       repeat (first | refine wk_ ?_ | (refine S1 _ ?_ ?_ ?_ _ fun n1 tyn1 hn1 hun1 => ⟨rfl,?_⟩; exact fit_; exact ge_; exact om_; (try dsimp only at hn1)) | (refine S2 _ ?_ ?_ ?_ _ fun n1 tyn1 hn1 hun1 => ⟨rfl,?_⟩; exact fit_; exact ge_; exact om_; (try dsimp only at hn1)) | (refine B2 _ ?_ ?_ ?_ _ fun n1 tyn1 hn1 hun1 => ⟨rfl,?_⟩; exact fit_; exact ge_; exact om_; (try dsimp only at hn1)) | (refine DG _ ?_ _ fun n1 tyn1 hn1 hun1 => ⟨rfl,?_⟩; exact fit_; (try dsimp only at hn1)))
       refine zFt s hs p d _ _ t (i:Int) ?_ _ (c :: r) (i) ?_ ?_ _ _ _ _ _ _ _ _ _ ?_ ?_ ?_ ?_ ?_ ?_ ?_
       · omega
       · exact hd
       · exact hlen
       · (simp (disch:=omega) [zA1,zA2,zBh,zBi,zA4,hg,hG])
       · (simp (disch:=omega) [zA1,zA2,zBh,zBi,zA4,hg,hG])
       · exact fit_
       · exact om_
       · exact om_
       · intro n' ty w4 w5 w7 w8 w9 w11 w12 v g1 g2 g3
         refine endW.of (.inl rfl) rfl ?_
         generalize e:zB4 .. = r
         simp (disch:=omega) [hX,hg,hY,hce,hc0] at e
         subst e
         refine hk1 _ _ v _ ?_ ?_ (by have:=(hfin _ _ _ hnf).2 v (by rw [Nat.zero_add,zC3]; exact g3); first | exact this | rwa [Nat.zero_add] at this)
         · (try dsimp only at g1); omega
         · exact ut_
       · intro n' ty w4 w5 w7 w8 w9 w11 w12 ee j g1 g2 g3
         refine endW.of (.inl rfl) rfl ?_
         generalize e:zB4 .. = r
         simp (disch:=omega) [hX,hg,hY,hce,hc0] at e
         subst e
         refine hk2 _ _ ee j ?_ ?_ ((hfin _ _ _ hnf).1 ee (by rw [Nat.zero_add,zC3]; exact g3))
         · (try dsimp only at g1); omega
         · exact ut_
     · have hnf:numF (c :: r) = (10,0,fr D10 (c :: r)):=by unfold numF; rw [if_neg hnP,if_neg (by simp [h48])]
       have hcn:¬ c.toNat = 48:=fun e => h48 (UInt8.toNat_inj.1 e)
       refine mk_ 191 c191 (s_ ?_)
       have hZ:=j5_ hX hg hY hce hc0
       repeat (first | refine wk_ ?_ | (refine S1 _ ?_ ?_ ?_ _ fun n1 tyn1 hn1 hun1 => ⟨rfl,?_⟩; exact fit_; exact ge_; exact om_; (try dsimp only at hn1)) | (refine S2 _ ?_ ?_ ?_ _ fun n1 tyn1 hn1 hun1 => ⟨rfl,?_⟩; exact fit_; exact ge_; exact om_; (try dsimp only at hn1)) | (refine B2 _ ?_ ?_ ?_ _ fun n1 tyn1 hn1 hun1 => ⟨rfl,?_⟩; exact fit_; exact ge_; exact om_; (try dsimp only at hn1)) | (refine DG _ ?_ _ fun n1 tyn1 hn1 hun1 => ⟨rfl,?_⟩; exact fit_; (try dsimp only at hn1)))
       refine num_rest10 s hs p d _ _ t (i:Int) ?_ _ (c :: r) (i) ?_ ?_ _ _ _ _ _ _ _ _ _ ?_ ?_ ?_ ?_ ?_ ?_ ?_
       · omega
       · exact hd
       · exact hlen
       · (simp (disch:=omega) [zA1,zA2,zBh,zBi,zA4,hg,hG])
       · (simp (disch:=omega) [zA1,zA2,zBh,zBi,zA4,hg,hG])
       · exact fit_
       · exact om_
       · exact om_
       · intro n' ty w4 w5 w7 w8 w9 w11 w12 v g1 g2 g3
         refine endW.of (.inl rfl) rfl ?_
         generalize e:zB4 .. = r
         simp (disch:=omega) [hX,hg,hY,hce,hc0] at e
         subst e
         refine hk1 _ _ v _ ?_ ?_ (by have:=(hfin _ _ _ hnf).2 v (by rw [Nat.zero_add,zC3]; exact g3); first | exact this | rwa [Nat.zero_add] at this)
         · (try dsimp only at g1); omega
         · exact ut_
       · intro n' ty w4 w5 w7 w8 w9 w11 w12 ee j g1 g2 g3
         refine endW.of (.inl rfl) rfl ?_
         generalize e:zB4 .. = r
         simp (disch:=omega) [hX,hg,hY,hce,hc0] at e
         subst e
         refine hk2 _ _ ee j ?_ ?_ ((hfin _ _ _ hnf).1 ee (by rw [Nat.zero_add,zC3]; exact g3))
         · (try dsimp only at g1); omega
         · exact ut_
abbrev txLoop:CCode:=(.loop true (.seq (.seq (.R [.v 0,.n 0,.f 1 0,.l 0,.v 0,.n 0,.f 0 0,.l 0,.g (.len true (.loc 0)),.h .lss 5 0] [(2,9)]) (.cond (.var 2) .skip (.exit 0))) (.seq (.block 1 (.seq (.R [.v 0,.n 0,.f 0 0,.l 0,.v 0,.n 0,.f 1 0,.l 0,.g (.idxStr (.loc 4) (.loc 0)),.m (.loc 0)] [(3,9)]) (.seq (.block 2 (.seq (.R [.v 3,.v 4,.h .eql 1 0,.m (.loc 0)] [(5,3)]) (.cond (.var 5) (.seq (.R [.v 0,.n 0,.f 1 0,.l 0,.x .add 0 (.k 1),.n 4,.f 1 0,.s 1 0 2] []) (.seq (.seq (.R [.v 6,.c 163 [(.loc 0)],.g (.not (.loc 0))] [(7,2)]) (.cond (.var 7) (.seq (.R [.v 0,.v 1,.c 187 [(.loc 1),(.k 2),(.loc 0)],.t 4 8 0] []) .ret) .skip)) (.seq (.R [.v 6,.v 1,.g (.build [(.int .i64 0),(.str []),(.int .u64 0),(.int .i64 0)] [(0,1,(.k 3)),(1,1,(.loc 1)),(3,1,(.loc 0))]),.t 4 8 0] []) .ret))) (.seq (.R [.v 3,.x .eql 0 (.u 10),.m (.loc 0)] [(9,2)]) (.cond (.var 9) (.seq (.R [.v 0,.v 1,.c 187 [(.loc 1),(.k 2),(.loc 0)],.t 4 8 0] []) .ret) (.seq (.R [.v 3,.x .neq 0 (.u 92),.m (.loc 0)] [(10,2)]) (.cond (.var 10) (.seq (.R [.v 6,.v 0,.n 0,.f 0 0,.l 0,.v 0,.n 0,.f 1 0,.l 0,.v 0,.n 0,.f 1 0,.l 0,.x .add 0 (.k 1),.g (.slc 0 (.loc 9) (some (.loc 5)) (some (.loc 0))),.h .add 14 0,.m (.loc 0)] [(6,16)]) (.exit 1)) .skip))))))) (.seq (.R [.v 0,.n 0,.f 1 0,.l 0,.x .add 0 (.k 1),.n 4,.f 1 0,.s 1 0 2] []) (.seq (.R [.v 0,.c 189 [(.loc 0),(.k 0)]] [(11,1)]) (.block 3 (.seq (.R [.g (.bin .eql (.var 11) (.u 110)),.m (.loc 0)] [(12,1)]) (.cond (.var 12) (.R [.v 6,.g (.bin .add (.loc 0) (.const (.str [10]))),.m (.loc 0)] [(6,2)]) (.seq (.seq (.R [.g (.bin .eql (.var 11) (.u 92)),.m (.loc 0)] [(13,1)]) (.cond (.var 13) .skip (.seq (.R [.g (.bin .eql (.var 11) (.u 34)),.m (.loc 0)] [(13,1)]) (.cond (.var 13) .skip (.R [.g (.bin .eql (.var 11) (.u 39)),.m (.loc 0)] [(13,1)]))))) (.cond (.var 13) (.R [.v 6,.v 0,.n 0,.f 0 0,.l 0,.v 0,.n 0,.f 1 0,.l 0,.v 0,.n 0,.f 1 0,.l 0,.x .add 0 (.k 1),.g (.slc 0 (.loc 9) (some (.loc 5)) (some (.loc 0))),.h .add 14 0,.m (.loc 0)] [(6,16)]) (.seq (.R [.v 0,.v 1,.c 187 [(.loc 1),(.k 2),(.loc 0)],.t 4 8 0] []) .ret))))))))))) (.R [.v 0,.n 0,.f 1 0,.l 0,.x .add 0 (.k 1),.n 4,.f 1 0,.s 1 0 2] []))))
theorem ref_text (vl:B8 → Bool) (hV:∀ x:B8,x.length < 70000 → Pu tree.getF 163 [.str x] (.bool (vl x))) (s:B8) (hs:s.length < 60000) (p d m dm:Nat) (t at':Int) (q:UInt8) (hmp:m ≠ p) (Q:QT):∀ (n:Nat) (r acc:B8) (i:Nat),r.length ≤ n → s.drop i = r → i + r.length = s.length → acc.length ≤ i → ∀ (h:CHeap) (v2 v3 v5 v7 v9 v10 v11 v12 v13:CVal),zA1 h.ents p = some (lx s (i:Int) 0 t) → zA1 h.ents m = some Z4 → Fit h → p < h.next → m < h.next →
    (∀ n' ty w2 w3 w5 w7 w9 w10 w11 w12 w13 w6 txt k,h.next ≤ n' → zA9 ty n' → zBe q r acc i = some (txt,k) → vl txt = true → Q .ret ⟨[.ptr p d 0,.int .i64 at',w2,w3,.int .u8 (q.toNat:Int),w5,w6,w7,.ptr m dm 0,w9,w10,w11,w12,w13],⟨zA2 (zA2 h.ents p (lx s (k:Int) 0 t)) m (.cells [.int .i64 3,.str txt,.int .u64 0,.int .i64 at']),n',ty⟩,[]⟩) →
    (∀ n' ty w2 w3 w5 w7 w9 w10 w11 w12 w13 w6 (j:Int),h.next ≤ n' → zA9 ty n' → (zBe q r acc i = none ∨ ∃ txt k,zBe q r acc i = some (txt,k) ∧ vl txt = false) → Q .ret ⟨[.ptr p d 0,.int .i64 at',w2,w3,.int .u8 (q.toNat:Int),w5,w6,w7,.ptr m dm 0,w9,w10,w11,w12,w13],⟨zA2 h.ents p (lx s j 2 at'),n',ty⟩,[]⟩) →
    (∀ n' ty w2 w3 w5 w7 w9 w10 w11 w12 w13 w6 (j:Int),h.next ≤ n' → zA9 ty n' → zBe q r acc i = none → Q (.exit 0) ⟨[.ptr p d 0,.int .i64 at',w2,w3,.int .u8 (q.toNat:Int),w5,w6,w7,.ptr m dm 0,w9,w10,w11,w12,w13],⟨zA2 h.ents p (lx s j 0 t),n',ty⟩,[]⟩) →
    W tree.getF txLoop ⟨[.ptr p d 0,.int .i64 at',v2,v3,.int .u8 (q.toNat:Int),v5,.str acc,v7,.ptr m dm 0,v9,v10,v11,v12,v13],h,[]⟩ Q:=by
 intro n
 induction n with
 | zero =>
  intro r acc i hn hd hlen hac h v2 v3 v5 v7 v9 v10 v11 v12 v13 hg hm hf hp hpm hk1 hk2 hk3
  obtain rfl:r = []:=List.length_eq_zero_iff.1 (by omega)
  simp only [List.length_nil,Nat.add_zero] at hlen
  have hk3':=fun n' ty w2 w3 w5 w7 w9 w10 w11 w12 w13 w6 g1 g2 => hk3 n' ty w2 w3 w5 w7 w9 w10 w11 w12 w13 w6 (i:Int) g1 g2 rfl
  simp only [zAe hg] at hk3'
  obtain ⟨hu,hut,hX⟩:=fx4 hf
  have hY:=fx5 hf hg; have ⟨hG,hD2,hC2,hN2⟩:=hY
  have hM2:∀ x,zA1 (zA2 h.ents p x) m = some Z4:=fun x => by rw [zA0 hmp]; exact hm
  have hMS:∀ x,zA2 (zA2 h.ents p x) m Z4 = zA2 h.ents p x:=fun x => zAe (hM2 x)
  refine W.loop ?_
  have hZ:=j7_ hX hg hY hm hM2 hMS hmp
  try refine wk_ ?_
  all_goals ((try simp only [zAd,zA3,zAb]); refine hk3' _ _ _ _ _ _ _ _ _ _ _ _ ?_ ?_; omega; exact ut_)
 | succ n ih =>
  intro r acc i hn hd hlen hac h v2 v3 v5 v7 v9 v10 v11 v12 v13 hg hm hf hp hpm hk1 hk2 hk3
  cases r with
  | nil =>
   simp only [List.length_nil,Nat.add_zero] at hlen
   have hk3':=fun n' ty w2 w3 w5 w7 w9 w10 w11 w12 w13 w6 g1 g2 => hk3 n' ty w2 w3 w5 w7 w9 w10 w11 w12 w13 w6 (i:Int) g1 g2 rfl
   simp only [zAe hg] at hk3'
   obtain ⟨hu,hut,hX⟩:=fx4 hf
   have hY:=fx5 hf hg; have ⟨hG,hD2,hC2,hN2⟩:=hY
   have hM2:∀ x,zA1 (zA2 h.ents p x) m = some Z4:=fun x => by rw [zA0 hmp]; exact hm
   have hMS:∀ x,zA2 (zA2 h.ents p x) m Z4 = zA2 h.ents p x:=fun x => zAe (hM2 x)
   refine W.loop ?_
   have hZ:=j7_ hX hg hY hm hM2 hMS hmp
   try refine wk_ ?_
   all_goals ((try simp only [zAd,zA3,zAb]); refine hk3' _ _ _ _ _ _ _ _ _ _ _ _ ?_ ?_; omega; exact ut_)
  | cons c r =>
   simp only [List.length_cons] at hlen hn
   have hc0:=zB0 hd
   obtain ⟨hi,hce⟩:=List.getElem?_eq_some_iff.1 hc0
   have hsl:(s.take (i + 1)).drop i = [c]:=by rw [List.drop_take,show i + 1 - i = 1 by omega,hd]; rfl
   have hto:((i:Int) + 1).toNat = i + 1:=by omega
   obtain ⟨hu,hut,hX⟩:=fx4 hf
   have hY:=fx5 hf hg; have ⟨hG,hD2,hC2,hN2⟩:=hY
   have hM2:∀ x,zA1 (zA2 h.ents p x) m = some Z4:=fun x => by rw [zA0 hmp]; exact hm
   have hMS:∀ x,zA2 (zA2 h.ents p x) m Z4 = zA2 h.ents p x:=fun x => zAe (hM2 x)
   have hnext:∀ (r' acc':B8) (i':Nat),r'.length ≤ n → s.drop i' = r' → i' + r'.length = s.length → acc'.length ≤ i' → zBe q (c :: r) acc i = zBe q r' acc' i' → ∀ (h':CHeap) (w2 w3 w5 w7 w9 w10 w11 w12 w13:CVal),h'.ents = zA2 h.ents p (lx s (i':Int) 0 t) → h.next ≤ h'.next → zA9 h'.tys h'.next → W tree.getF txLoop ⟨[.ptr p d 0,.int .i64 at',w2,w3,.int .u8 (q.toNat:Int),w5,.str acc',w7,.ptr m dm 0,w9,w10,w11,w12,w13],h',[]⟩ Q:=by
    intro r' acc' i' h1 h2 h3 h4 h5 h' w2 w3 w5 w7 w9 w10 w11 w12 w13 e1 e2 e3
    rw [h5] at hk1 hk2 hk3
    refine ih r' acc' i' h1 h2 h3 h4 h' _ _ _ _ _ _ _ _ _ (by rw [e1]; exact hG _) (by rw [e1]; exact hM2 _) ⟨by rw [e1]; exact hu.set.le e2,e3⟩ (by omega) (by omega) ?_ ?_ ?_
    · intro n' ty u2 u3 u5 u7 u9 u10 u11 u12 u13 u6 txt k g1 g2
      rw [e1,zA4]
      exact hk1 n' ty _ _ _ _ _ _ _ _ _ _ txt k (by omega) g2
    · intro n' ty u2 u3 u5 u7 u9 u10 u11 u12 u13 u6 j g1 g2
      rw [e1,zA4]
      exact hk2 n' ty _ _ _ _ _ _ _ _ _ _ j (by omega) g2
    · intro n' ty u2 u3 u5 u7 u9 u10 u11 u12 u13 u6 j g1 g2
      rw [e1,zA4]
      exact hk3 n' ty _ _ _ _ _ _ _ _ _ _ j (by omega) g2
   by_cases hcq:c.toNat = q.toNat
   · have hcq':c = q:=UInt8.toNat_inj.1 hcq
     have htf:zBe q (c :: r) acc i = some (acc,i + 1):=by unfold zBe; rw [if_pos hcq']
     have VA:=hV acc (by omega)
     by_cases hva:vl acc = true
     · rw [hva] at VA
       refine W.loop ?_
       have hZ:=j11_ hX hg hY hm hM2 hMS hmp hce hc0 hsl hto
       repeat (first | refine wk_ ?_ | (refine VA _ ?_ _ fun n1 tyn1 hn1 hun1 => ⟨rfl,?_⟩; exact fit_; (try dsimp only at hn1)))
       all_goals ((try refine W.ret ?_); (try simp only [zAd,zA3,zAb,hMS]); refine hk1 _ _ _ _ _ _ _ _ _ _ _ _ acc (i + 1) ?_ ?_ htf hva; omega; exact ut_)
     · rw [Bool.not_eq_true] at hva
       rw [hva] at VA
       refine W.loop ?_
       have hZ:=j11_ hX hg hY hm hM2 hMS hmp hce hc0 hsl hto
       repeat (first | refine wk_ ?_ | (refine VA _ ?_ _ fun n1 tyn1 hn1 hun1 => ⟨rfl,?_⟩; exact fit_; (try dsimp only at hn1)) | (refine zEc s ((i:Int) + 1) 0 t _ _ _ p d ?_ ?_ ?_ _ fun n3 tyn3 hn3 hun3 => ⟨rfl,?_⟩; exact fit_; (focus (((first | exact hg | exact hG _ | (try dsimp only); exact hg)); done)); exact om_; (try dsimp only at hn3)))
       all_goals ((try refine W.ret ?_); (try simp only [zAd,zA3,zAb,hMS]); refine hk2 _ _ _ _ _ _ _ _ _ _ _ _ _ ?_ ?_ (.inr ⟨_,_,htf,hva⟩); omega; exact ut_)
   · have hcq':¬ c = q:=fun e => hcq (by rw [e])
     by_cases h10:c.toNat = 10
     · have htf:zBe q (c :: r) acc i = none:=by unfold zBe; rw [if_neg hcq',if_pos (UInt8.toNat_inj.1 h10)]
       refine W.loop ?_
       have hZ:=j11_ hX hg hY hm hM2 hMS hmp hce hc0 hsl hto
       repeat (first | refine wk_ ?_ | (refine zEc s (i:Int) 0 t _ _ _ p d ?_ ?_ ?_ _ fun n3 tyn3 hn3 hun3 => ⟨rfl,?_⟩; exact fit_; (focus (((first | exact hg | exact hG _ | (try dsimp only); exact hg)); done)); exact om_; (try dsimp only at hn3)))
       all_goals ((try refine W.ret ?_); (try simp only [zAd,zA3,zAb,hMS]); refine hk2 _ _ _ _ _ _ _ _ _ _ _ _ _ ?_ ?_ (.inl htf); omega; exact ut_)
     · by_cases h92:c.toNat = 92
       · have ec:((i + 1:Nat):Int) = (i:Int) + 1:=by omega
         have htx:∀ r0:B8,zBe q (c :: r0) acc i = (match r0 with
             | [] => none
             | x :: u => match meantF x with
              | none => none
              | some m => zBe q u (acc ++ [m]) (i + 2)):=by
          intro r0
          conv => lhs; unfold zBe
          rw [if_neg hcq',if_neg (fun e => h10 (by rw [e]; rfl)),if_pos (UInt8.toNat_inj.1 h92)]
          cases r0 <;> rfl
         cases r with
         | nil =>
          have htf:zBe q (c :: []) acc i = none:=htx []
          have B0:∀ (h:CHeap) (hf:Fit h) (hg:zA1 h.ents p = some (lx s ((i:Int) + 1) 0 t)) (hp:p < h.next) (K:KT) (hk:∀ n' ty,h.next ≤ n' → zA9 ty n' → K (.int .u8 0) ⟨h.ents,n',ty⟩),Wc tree.getF 189 [.ptr p d 0,.int .i64 0] h K:=fun h hf hg hp K hk => zJu s (i + 1) 0 0 t hs (by simp at hlen; omega) (by omega) (by simp at hlen; omega) h p d hf (by rw [ec]; exact hg) hp K hk
          refine W.loop ?_
          have hZ:=j11_ hX hg hY hm hM2 hMS hmp hce hc0 hsl hto
          repeat (first | refine wk_ ?_ | (refine B0 _ ?_ ?_ ?_ _ fun n1 tyn1 hn1 hun1 => ⟨rfl,?_⟩; exact fit_; exact ge_; exact om_; (try dsimp only at hn1)) | (refine zEc s ((i:Int) + 1) 0 t _ _ _ p d ?_ ?_ ?_ _ fun n3 tyn3 hn3 hun3 => ⟨rfl,?_⟩; exact fit_; (focus (((first | exact hg | exact hG _ | (try dsimp only); exact hg)); done)); exact om_; (try dsimp only at hn3)))
          all_goals ((try refine W.ret ?_); (try simp only [zAd,zA3,zAb,hMS]); refine hk2 _ _ _ _ _ _ _ _ _ _ _ _ _ ?_ ?_ (.inl htf); omega; exact ut_)
         | cons x u =>
          have hd1:=zB9 hd
          have hx0:=zB0 hd1
          have B0:∀ (h:CHeap) (hf:Fit h) (hg:zA1 h.ents p = some (lx s ((i:Int) + 1) 0 t)) (hp:p < h.next) (K:KT) (hk:∀ n' ty,h.next ≤ n' → zA9 ty n' → K (.int .u8 (x.toNat:Int)) ⟨h.ents,n',ty⟩),Wc tree.getF 189 [.ptr p d 0,.int .i64 0] h K:=fun h hf hg hp K hk => zId s (i + 1) 0 0 t x hs (by omega) hx0 h p d hf (by rw [ec]; exact hg) hp K hk
          have hsl2:(s.take (i + 1 + 1)).drop (i + 1) = [x]:=by rw [List.drop_take,show i + 1 + 1 - (i + 1) = 1 by omega,hd1]; rfl
          have hto2:((i:Int) + 1 + 1).toNat = i + 1 + 1:=by omega
          simp only [List.length_cons] at hlen hn
          by_cases h110:x.toNat = 110
          · have htf:zBe q (c :: x :: u) acc i = zBe q u (acc ++ [10]) (i + 2):=by
             rw [htx (x :: u)]; dsimp only
             rw [UInt8.toNat_inj.1 (show x.toNat = (110:UInt8).toNat from h110)]; rfl
            refine W.loop ?_
            have hZ:=j13_ hX hg hY hm hM2 hMS hmp hce hc0 hsl hto hsl2 hto2
            repeat (first | refine wk_ ?_ | (refine B0 _ ?_ ?_ ?_ _ fun n1 tyn1 hn1 hun1 => ⟨rfl,?_⟩; exact fit_; exact ge_; exact om_; (try dsimp only at hn1)))
            show W tree.getF txLoop (dropped true _ _) Q
            generalize e:dropped .. = r0
            simp (disch:=omega) [hX,hg,hY,hm,hM2,hMS,hmp,hce,hc0,hsl,hto,hsl2,hto2] at e
            subst e
            try dsimp only
            refine hnext u (acc ++ [10]) (i + 2) ?_ ?_ ?_ ?_ htf _ _ _ _ _ _ _ _ _ _ ?_ ?_ ?_
            · omega
            · exact zB9 hd1
            · omega
            · simp; omega
            · (try dsimp only); simp [Int.add_assoc]
            · exact om_
            · exact zA9.le (by assumption) om_
          · by_cases hsame:x.toNat = 92 ∨ x.toNat = 34 ∨ x.toNat = 39
            · have htf:zBe q (c :: x :: u) acc i = zBe q u (acc ++ [x]) (i + 2):=by
               rw [htx (x :: u)]; dsimp only
               rcases hsame with e | e | e
               · rw [UInt8.toNat_inj.1 (show x.toNat = (92:UInt8).toNat from e)]; rfl
               · rw [UInt8.toNat_inj.1 (show x.toNat = (34:UInt8).toNat from e)]; rfl
               · rw [UInt8.toNat_inj.1 (show x.toNat = (39:UInt8).toNat from e)]; rfl
              rcases hsame with e | e | e
              all_goals refine W.loop ?_
              all_goals
               have hZ:=j13_ hX hg hY hm hM2 hMS hmp hce hc0 hsl hto hsl2 hto2
               repeat (first | refine wk_ ?_ | (refine B0 _ ?_ ?_ ?_ _ fun n1 tyn1 hn1 hun1 => ⟨rfl,?_⟩; exact fit_; exact ge_; exact om_; (try dsimp only at hn1)))
              all_goals
               show W tree.getF txLoop (dropped true _ _) Q
               generalize e:dropped .. = r0
               simp (disch:=omega) [hX,hg,hY,hm,hM2,hMS,hmp,hce,hc0,hsl,hto,hsl2,hto2] at e
               subst e
               try dsimp only
               refine hnext u (acc ++ [x]) (i + 2) ?_ ?_ ?_ ?_ htf _ _ _ _ _ _ _ _ _ _ ?_ ?_ ?_
               · omega
               · exact zB9 hd1
               · omega
               · simp; omega
               · (try dsimp only); simp [Int.add_assoc]
               · exact om_
               · exact zA9.le (by assumption) om_
            · have htf:zBe q (c :: x :: u) acc i = none:=by
               rw [htx (x :: u)]; dsimp only
               unfold meantF
               rw [if_neg (fun e => hsame (.inl (by rw [e]; rfl))),if_neg (fun e => hsame (.inr (.inl (by rw [e]; rfl)))),if_neg (fun e => hsame (.inr (.inr (by rw [e]; rfl)))),if_neg (fun e => h110 (by rw [e]; rfl))]
              have n1:¬ x.toNat = 92:=fun e => hsame (.inl e)
              have n2:¬ x.toNat = 34:=fun e => hsame (.inr (.inl e))
              have n3:¬ x.toNat = 39:=fun e => hsame (.inr (.inr e))
              refine W.loop ?_
              have hZ:=j13_ hX hg hY hm hM2 hMS hmp hce hc0 hsl hto hsl2 hto2
              repeat (first | refine wk_ ?_ | (refine B0 _ ?_ ?_ ?_ _ fun n1 tyn1 hn1 hun1 => ⟨rfl,?_⟩; exact fit_; exact ge_; exact om_; (try dsimp only at hn1)) | (refine zEc s ((i:Int) + 1) 0 t _ _ _ p d ?_ ?_ ?_ _ fun n3 tyn3 hn3 hun3 => ⟨rfl,?_⟩; exact fit_; (focus (((first | exact hg | exact hG _ | (try dsimp only); exact hg)); done)); exact om_; (try dsimp only at hn3)))
              all_goals ((try refine W.ret ?_); (try simp only [zAd,zA3,zAb,hMS]); refine hk2 _ _ _ _ _ _ _ _ _ _ _ _ _ ?_ ?_ (.inl htf); omega; exact ut_)
       · have htf:zBe q (c :: r) acc i = zBe q r (acc ++ [c]) (i + 1):=by
          conv => lhs; unfold zBe
          rw [if_neg hcq',if_neg (fun e => h10 (by rw [e]; rfl)),if_neg (fun e => h92 (by rw [e]; rfl))]
         refine W.loop ?_
         have hZ:=j11_ hX hg hY hm hM2 hMS hmp hce hc0 hsl hto
         try refine wk_ ?_
         show W tree.getF txLoop (dropped true _ _) Q
         generalize e:dropped .. = r0
         simp (disch:=omega) [hX,hg,hY,hm,hM2,hMS,hmp,hce,hc0,hsl,hto] at e
         subst e
         try dsimp only
         refine hnext r (acc ++ [c]) (i + 1) ?_ ?_ ?_ ?_ htf _ _ _ _ _ _ _ _ _ _ ?_ ?_ ?_
         · omega
         · exact zB9 hd
         · omega
         · simp; omega
         · rfl
         · exact om_
         · exact zA9.le (by assumption) om_
theorem text_L (vl:B8 → Bool) (hV:∀ x:B8,x.length < 70000 → Pu tree.getF 163 [.str x] (.bool (vl x))) (s:B8) (hs:s.length < 60000) (i:Nat) (q:UInt8) (r:B8) (hd:s.drop i = q :: r) (hlen:i + (q :: r).length = s.length) (t:Int) (h:CHeap) (p d:Nat) (hf:Fit h) (hg:zA1 h.ents p = some (lx s (i:Int) 0 t)) (hp:p < h.next) (K:KT)
    (hk1:∀ n' ty txt (k:Nat),h.next ≤ n' → zA9 ty n' → zBe q r [] (i + 1) = some (txt,k) → vl txt = true → K (.agg [.int .i64 3,.str txt,.int .u64 0,.int .i64 (i:Int)]) ⟨zA2 h.ents p (lx s (k:Int) 0 t),n',ty⟩)
    (hk2:∀ n' ty (j:Int),h.next ≤ n' → zA9 ty n' → (zBe q r [] (i + 1) = none ∨ ∃ txt k,zBe q r [] (i + 1) = some (txt,k) ∧ vl txt = false) → K (.agg [.int .i64 0,.str [],.int .u64 0,.int .i64 0]) ⟨zA2 h.ents p (lx s j 2 (i:Int)),n',ty⟩):Wc tree.getF 192 [.ptr p d 0] h K:=by
 obtain ⟨hu,hut,hX⟩:=fx4 hf
 have hY:=fx5 hf hg; have ⟨hG,hD2,hC2,hN2⟩:=hY
 have hc0:=zB0 hd
 obtain ⟨hi,hce⟩:=List.getElem?_eq_some_iff.1 hc0
 refine mk_ 192 c192 (s_ ?_)
 have hZ:=j5_ hX hg hY hce hc0
 try refine wk_ ?_
 refine ref_text vl hV s hs p d _ _ t (i:Int) q ?_ _ r.length r [] (i + 1) (Nat.le_refl _) (zB9 hd) ?_ (by simp) _ _ _ _ _ _ _ _ _ _ ?_ ?_ ?_ ?_ ?_ ?_ ?_ ?_
 · omega
 · simp at hlen ⊢; omega
 · (simp (disch:=omega) [zA1,zA2,zBh,zBi,zA4,hg,hG])
 · (simp (disch:=omega) [zA1,zA2,zBh,zBi,zA4,hg,hG])
 · exact fit_
 · exact om_
 · exact om_
 · intro n' ty w2 w3 w5 w7 w9 w10 w11 w12 w13 w6 txt k g1 g2 g3 g4
   (try simp only [zAd,zA3,zAb])
   refine endW.of (.inl rfl) rfl ?_
   generalize e:zB4 .. = r0
   simp (disch:=omega) [hX,hg,hY] at e
   subst e
   refine hk1 _ _ txt k ?_ ?_ g3 g4
   · (try dsimp only at g1); omega
   · exact ut_
 · intro n' ty w2 w3 w5 w7 w9 w10 w11 w12 w13 w6 j g1 g2 g3
   (try simp only [zAd,zA3,zAb])
   refine endW.of (.inl rfl) rfl ?_
   generalize e:zB4 .. = r0
   simp (disch:=omega) [hX,hg,hY] at e
   subst e
   refine hk2 _ _ j ?_ ?_ g3
   · (try dsimp only at g1); omega
   · exact ut_
 · intro n' ty w2 w3 w5 w7 w9 w10 w11 w12 w13 w6 j g1 g2 g3
   (try simp only [zAd,zA3,zAb])
   try dsimp only at g1
   have hZ:=j5_ hX hg hY hce hc0
   repeat (first | refine wk_ ?_ | (refine zEc s j 0 t _ _ _ p d ?_ ?_ ?_ _ fun n3 tyn3 hn3 hun3 => ⟨rfl,?_⟩; exact fit_; exact ge_; exact om_; (try dsimp only at hn3)))
   all_goals (refine W.ret ?_; (try simp only [zAd,zA3,zAb]); refine endW.of (.inl rfl) rfl ?_; generalize e:zB4 .. = r0; simp (disch:=omega) [hX,hg,hY] at e; subst e)
   all_goals (refine hk2 _ _ _ ?_ ?_ (.inl g3); omega; exact ut_)
theorem zJk:∀ {l:EE} {p:Nat} {x:CObj},zA1 l p = none → zA2 l p x = l
 | [],_,_,_ => rfl
 | (i,o) :: r,p,x,h => by
  by_cases hi:i = p
  · subst hi; simp [zA1] at h
  · simp [zA1,hi] at h; simp [zA2,hi,zJk h]
def Over (n0:Nat) (E0 l:EE):Prop:=∃ pre,l = pre ++ E0 ∧ (∀ x ∈ pre,n0 ≤ x.1) ∧ Under E0 n0
theorem Over.cons {n0:Nat} {E0 l:EE} {i:Nat} {o:CObj} (h:Over n0 E0 l) (hi:n0 ≤ i):Over n0 E0 ((i,o) :: l):=by
 obtain ⟨pre,rfl,h1,h2⟩:=h
 exact ⟨(i,o) :: pre,rfl,fun x hx => by rcases List.mem_cons.1 hx with rfl | hx; exact hi; exact h1 x hx,h2⟩
theorem Over.drop {n0:Nat} {E0 l:EE} (h:Over n0 E0 l):zBf l n0 = E0:=by
 obtain ⟨pre,rfl,h1,h2⟩:=h
 induction pre with
 | nil => exact zCa h2
 | cons a pre ih =>
  have:=h1 a (by simp)
  show (if n0 ≤ a.1 then zBf (pre ++ E0) n0 else _) = _
  rw [if_pos this]
  exact ih fun x hx => h1 x (by simp [hx])
theorem set_ids:∀ {l:EE} {p n0:Nat} {x:CObj},(∀ y ∈ l,n0 ≤ y.1) → ∀ y ∈ zA2 l p x,n0 ≤ y.1
 | [],_,_,_,_,y,hy => by cases hy
 | (i,o) :: r,p,n0,x,h,y,hy => by
  have h1:=h (i,o) (by simp)
  unfold zA2 at hy
  split at hy
  · rcases List.mem_cons.1 hy with rfl | hy
    · exact h1
    · exact h y (by simp [hy])
  · rcases List.mem_cons.1 hy with rfl | hy
    · exact h1
    · exact set_ids (fun z hz => h z (by simp [hz])) y hy
theorem zKg:∀ {pre E0:EE} {p:Nat} {x:CObj},zA1 E0 p = none → zA2 (pre ++ E0) p x = zA2 pre p x ++ E0
 | [],_,_,_,h => zJk h
 | (i,o) :: r,E0,p,x,h => by
  have:=zKg (pre:=r) (x:=x) h
  simp only [List.cons_append,zA2]
  split
  · rfl
  · rw [this]; rfl
theorem Over.set {n0:Nat} {E0 l:EE} {p:Nat} {x:CObj} (h:Over n0 E0 l) (hp:n0 ≤ p):Over n0 E0 (zA2 l p x):=by
 obtain ⟨pre,rfl,h1,h2⟩:=h
 exact ⟨zA2 pre p x,zKg (zDl h2 hp),set_ids h1,h2⟩
structure St (n0:Nat) (E0:EE) (p:Nat) (s:B8) (a:Int) (L:CVal) (ts:List CVal) (e to:Int) (h:CHeap):Prop where
 g:zA1 h.ents p = some (rdr s a L e to)
 l:L = .nils ∧ ts = [] ∨ ∃ i v,L = .imm (.own i v) 4 ts ∧ zA1 h.ents i = some (.tok v) ∧ i ≠ p ∧ n0 ≤ i ∧ i < h.next
 d:Over n0 E0 h.ents
 n:n0 ≤ p
 lt:p < h.next
 f:Fit h
theorem St.whole {n0:Nat} {E0:EE} {p:Nat} {s:B8} {a:Int} {L:CVal} {ts:List CVal} {e to:Int} {h:CHeap} (S:St n0 E0 p s a L ts e to h):L.whole = true ∧ L.cells.length = 1:=by
 rcases S.l with ⟨rfl,_⟩ | ⟨i,v,rfl,_⟩ <;> exact ⟨rfl,rfl⟩
theorem St.upd {n0:Nat} {E0:EE} {p:Nat} {s:B8} {a a':Int} {L:CVal} {ts:List CVal} {e to e' to':Int} {h:CHeap} {n':Nat} {ty:NN} (S:St n0 E0 p s a L ts e to h) (hn:h.next ≤ n') (ht:zA9 ty n') :
    St n0 E0 p s a' L ts e' to' ⟨zA2 h.ents p (rdr s a' L e' to'),n',ty⟩ where
 g:=zA6 S.g
 l:=by
  rcases S.l with h1 | ⟨i,v,h1,h2,h3,h4,h5⟩
  · exact .inl h1
  · exact .inr ⟨i,v,h1,(zA0 h3).trans h2,h3,h4,om_⟩
 d:=S.d.set S.n
 n:=S.n
 lt:=by have:=S.lt; exact om_
 f:=⟨S.f.1.set.le hn,ht⟩
theorem St.app0 {n0:Nat} {E0:EE} {p:Nat} {s:B8} {a a':Int} {e to e' to':Int} {h:CHeap} {n' i:Nat} {ty:NN} {x:CVal} {ts:List CVal} (S:St n0 E0 p s a .nils ts e to h) (hi:h.next ≤ i) (hn:i < n') (ht:zA9 ty n') :
    St n0 E0 p s a' (.imm (.own i 0) 4 [x]) [x] e' to' ⟨(i,.tok 0) :: zA2 h.ents p (rdr s a' (.imm (.own i 0) 4 [x]) e' to'),n',ty⟩:=by
 have hlt:=S.lt
 have hn0:=S.n
 have hip:(i == p) = false:=by simp; omega
 exact {
  g:=by simp only [zA1,hip,Bool.false_eq_true,if_false]; exact zA6 S.g
  l:=.inr ⟨i,0,rfl,by simp [zA1],by omega,by omega,hn⟩
  d:=(S.d.set hn0).cons (by omega)
  n:=hn0
  lt:=om_
  f:=⟨Under.cons hn (S.f.1.set.le om_),ht⟩ }
theorem St.app1 {n0:Nat} {E0:EE} {p:Nat} {s:B8} {a a':Int} {e to e' to':Int} {h:CHeap} {n' i v:Nat} {ty:NN} {x:CVal} {ts:List CVal} {L:CVal} (S:St n0 E0 p s a L ts e to h) (ht:zA1 h.ents i = some (.tok v)) (hip:i ≠ p) (hi0:n0 ≤ i) (hin:i < h.next) (hn:h.next ≤ n') (hty:zA9 ty n') :
    St n0 E0 p s a' (.imm (.own i (v + 1)) 4 (ts ++ [x])) (ts ++ [x]) e' to' ⟨zA2 (zA2 h.ents i (.tok (v + 1))) p (rdr s a' (.imm (.own i (v + 1)) 4 (ts ++ [x])) e' to'),n',ty⟩:=by
 have hlt:=S.lt
 have hn0:=S.n
 have hg:zA1 (zA2 h.ents i (.tok (v + 1))) p = some (rdr s a L e to):=(zA0 (Ne.symm hip)).trans S.g
 exact {
  g:=zA6 hg
  l:=.inr ⟨i,v + 1,rfl,(zA0 hip).trans (zA6 ht),hip,hi0,om_⟩
  d:=(S.d.set hi0).set hn0
  n:=hn0
  lt:=om_
  f:=⟨S.f.1.set.set.le hn,hty⟩ }
abbrev tokC (k:Int) (t:B8) (n:Nat) (a:Int):CVal:=.agg [.int .i64 k,.str t,.int .u64 (n:Int),.int .i64 a]
theorem St.mv {n0:Nat} {E0:EE} {p:Nat} {s:B8} {a:Int} {L:CVal} {ts:List CVal} {e to:Int} {h:CHeap} {n':Nat} {ty:NN} (S:St n0 E0 p s a L ts e to h) (hn:h.next ≤ n') (ht:zA9 ty n'):St n0 E0 p s a L ts e to ⟨h.ents,n',ty⟩ where
 g:=S.g
 l:=by
  rcases S.l with h1 | ⟨i,v,h1,h2,h3,h4,h5⟩
  · exact .inl h1
  · exact .inr ⟨i,v,h1,h2,h3,h4,om_⟩
 d:=S.d
 n:=S.n
 lt:=by have:=S.lt; exact om_
 f:=⟨S.f.1.le hn,ht⟩
theorem St.cons {n0:Nat} {E0:EE} {p:Nat} {s:B8} {a:Int} {L:CVal} {ts:List CVal} {e to:Int} {h:CHeap} {n' r:Nat} {o:CObj} {ty:NN} (S:St n0 E0 p s a L ts e to h) (hr:h.next ≤ r) (hn:r < n') (ht:zA9 ty n'):St n0 E0 p s a L ts e to ⟨(r,o) :: h.ents,n',ty⟩:=by
 have hlt:=S.lt
 have hn0:=S.n
 have hrp:(r == p) = false:=by simp; omega
 exact {
  g:=by simp only [zA1,hrp,Bool.false_eq_true,if_false]; exact S.g
  l:=by
   rcases S.l with h1 | ⟨i,v,h1,h2,h3,h4,h5⟩
   · exact .inl h1
   · have hri:(r == i) = false:=by simp; omega
     exact .inr ⟨i,v,h1,by simp only [zA1,hri,Bool.false_eq_true,if_false]; exact h2,h3,h4,om_⟩
  d:=S.d.cons (by omega)
  n:=hn0
  lt:=om_
  f:=⟨Under.cons hn (S.f.1.le om_),ht⟩ }
theorem zBc {x:Int} (h:0 ≤ x) (h2:x < 4294967296):IntKind.u32.wrap x = x:=by
 simp [IntKind.wrap,IntKind.bits,IntKind.signed] <;> omega
def putB (x:Nat):B8 :=
 if x < 128 then [UInt8.ofNat x] else if x < 2048 then [UInt8.ofNat (192 + x / 64),UInt8.ofNat (128 + x % 64)]
 else if 55296 ≤ x ∧ x < 57344 ∨ 1114111 < x then [239,191,189]
 else if x < 65536 then [UInt8.ofNat (224 + x / 4096),UInt8.ofNat (128 + x / 64 % 64),UInt8.ofNat (128 + x % 64)]
 else [UInt8.ofNat (240 + x / 262144),UInt8.ofNat (128 + x / 4096 % 64),UInt8.ofNat (128 + x / 64 % 64),UInt8.ofNat (128 + x % 64)]
def ptF:B8 → Nat
 | [] => 0
 | c :: t => if c.toNat < 128 then 1
  else if c.toNat / 32 = 6 then (match t with
   | c1 :: _ => if putB (c.toNat % 32 * 64 + c1.toNat % 64) = [c,c1] then 2 else 0
   | _ => 0)
  else if c.toNat / 16 = 14 then (match t with
   | c1 :: c2 :: _ => if putB ((c.toNat % 16 * 64 + c1.toNat % 64) * 64 + c2.toNat % 64) = [c,c1,c2] then 3 else 0
   | _ => 0)
  else if c.toNat / 8 = 30 then (match t with
   | c1 :: c2 :: c3 :: _ => if putB (((c.toNat % 8 * 64 + c1.toNat % 64) * 64 + c2.toNat % 64) * 64 + c3.toNat % 64) = [c,c1,c2,c3] then 4 else 0
   | _ => 0)
  else 0
set_option maxHeartbeats 2000000 in
theorem ptF_le (s:B8):ptF s ≤ s.length:=by
 rcases s with _ | ⟨c,_ | ⟨c1,_ | ⟨c2,_ | ⟨c3,t⟩⟩⟩⟩
 · exact Nat.le_refl _
 all_goals
  simp only [ptF,List.length_cons]
  repeat' split
  all_goals omega
def zB7 (s:B8):Bool:=if h:ptF s = 0 then s.isEmpty else zB7 (s.drop (ptF s))
 termination_by s.length
 decreasing_by have:=ptF_le s; simp; omega
theorem zFb:∀ {l:EE} {n q:Nat} {o:CObj},zA1 l q = some o → (q < n ∨ ∀ cs,o ≠ .cells cs) → zA1 (zAc l n) q = some o
 | [],_,_,_,h,_ => by cases h
 | (i,x) :: r,n,q,o,h,hq => by
  unfold zAc
  by_cases hn:n ≤ i
  · rw [if_pos hn]
    by_cases hi:i = q
    · subst hi
      simp [zA1] at h
      subst h
      rcases hq with hq | hq
      · omega
      · cases x with
        | cells cs => exact absurd rfl (hq cs)
        | _ => simp [zA1]
    · have h2:zA1 r q = some o:=by simpa [zA1,hi] using h
      have ih:=zFb (n:=n) h2 hq
      cases x with
      | cells cs => exact ih
      | _ => simp [zA1,hi]; exact ih
  · rw [if_neg hn]; exact h
theorem zC5:∀ {l:EE} {n:Nat} {x:Nat × CObj},x ∈ zAc l n → x ∈ l
 | [],_,_,h => h
 | (i,o) :: r,n,x,h => by
  unfold zAc at h
  by_cases hn:n ≤ i
  · rw [if_pos hn] at h
    cases o with
    | cells cs => exact List.mem_cons_of_mem _ (zC5 h)
    | _ => rcases List.mem_cons.1 h with rfl | h
           · simp
           · exact List.mem_cons_of_mem _ (zC5 h)
  · rw [if_neg hn] at h; exact h
theorem zH6:∀ {pre E0:EE} {n0 n:Nat},Under E0 n0 → n0 ≤ n → zAc (pre ++ E0) n = zAc pre n ++ E0
 | [],E0,n0,n,h,hn => zAj (h.le hn)
 | (i,o) :: r,E0,n0,n,h,hn => by
  have ih:=zH6 (pre:=r) h hn
  simp only [List.cons_append,zAc]
  split
  · cases o <;> simp [ih]
  · rfl
theorem Over.dropC {n0 n:Nat} {E0 l:EE} (h:Over n0 E0 l) (hn:n0 ≤ n):Over n0 E0 (zAc l n):=by
 obtain ⟨pre,rfl,h1,h2⟩:=h
 exact ⟨zAc pre n,zH6 h2 hn,fun x hx => h1 x (zC5 hx),h2⟩
theorem St.drop {n0:Nat} {E0:EE} {p:Nat} {s:B8} {a:Int} {L:CVal} {ts:List CVal} {e to:Int} {h:CHeap} {n:Nat} (S:St n0 E0 p s a L ts e to h) (hn:n0 ≤ n) (hp:p < n):St n0 E0 p s a L ts e to ⟨zAc h.ents n,h.next,h.tys⟩ where
 g:=zFb S.g (.inl hp)
 l:=by
  rcases S.l with h1 | ⟨i,v,h1,h2,h3,h4,h5⟩
  · exact .inl h1
  · exact .inr ⟨i,v,h1,zFb h2 (.inr (by simp)),h3,h4,h5⟩
 d:=S.d.dropC hn
 n:=S.n
 lt:=S.lt
 f:=⟨fun x hx => S.f.1 x (zC5 hx),S.f.2⟩
abbrev Tok:Type:=Nat × B8 × Nat × Nat
abbrev tokV (t:Tok):CVal:=tokC t.1 t.2.1 t.2.2.1 t.2.2.2
def lexW (total:Nat):Nat → B8 → Except (Nat × Nat) (List Tok)
 | _,[] => .ok []
 | 0,_ :: _ => .error (2,0)
 | m + 1,c :: u => match zCm zB7 (c :: u) with
  | .err e => .error (e,total - (c :: u).length)
  | .tok k t n len => match zBp ((c :: u).drop len) with
   | (w,false) => .error (2,total - w.length)
   | (w,true) => match lexW total m w with
    | .error x => .error x
    | .ok l => .ok ((k,t,n,total - (c :: u).length) :: l)
def lexF (s:B8):Except (Nat × Nat) (List Tok):=if 3000 < s.length then .error (3,0) else match zBp s with
 | (w,false) => .error (2,s.length - w.length)
 | (w,true) => match lexW s.length (s.length + 1) w with
  | .error x => .error x
  | .ok l => .ok (l ++ [(5,[],0,s.length)])
theorem numF_len {c:UInt8} {r:B8} {B n:Nat} {ds:B8} (hc:D10.contains c = true) (h:numF (c :: r) = (B,n,ds)):1 ≤ n + ds.length ∧ n + ds.length ≤ (c :: r).length:=by
 unfold numF at h
 split at h
 · rename_i hP
   cases h
   have:=zJi zB3 ((c :: r).drop 2)
   rw [List.length_drop] at this
   have h2:=hP.2
   omega
 · split at h
   · rename_i h48
     cases h
     simp at h48
     have:=zJi D8 (c :: r)
     have h2:fr D8 (c :: r) = c :: fr D8 r:=by unfold fr; rw [List.takeWhile_cons,if_pos (by rw [h48]; decide)]
     rw [h2] at this ⊢
     simp only [List.length_cons] at this ⊢
     omega
   · cases h
     have:=zJi D10 (c :: r)
     have h2:fr D10 (c :: r) = c :: fr D10 r:=by unfold fr; rw [List.takeWhile_cons,if_pos hc]
     rw [h2] at this ⊢
     simp only [List.length_cons] at this ⊢
     omega
theorem numW_tok {c:UInt8} {r:B8} {k n len:Nat} {t:B8} (hc:D10.contains c = true) (h:numW (c :: r) = .tok k t n len):1 ≤ len ∧ len ≤ (c :: r).length ∧ k = 2 ∧ t = []:=by
 unfold numW at h
 cases hF:numF (c :: r) with
 | mk B q =>
  obtain ⟨m,ds⟩:=q
  have hl:=numF_len hc hF
  rw [hF] at h
  dsimp only at h
  split at h
  · cases h
  · split at h
    · cases h; exact ⟨hl.1,hl.2,rfl,rfl⟩
    · split at h
      · cases h
      · cases h; exact ⟨hl.1,hl.2,rfl,rfl⟩
theorem numW_err {s:B8} {e:Nat} (h:numW s = .err e):e = 2 ∨ e = 3:=by
 unfold numW at h
 cases hF:numF s with
 | mk B q =>
  obtain ⟨m,ds⟩:=q
  rw [hF] at h
  dsimp only at h
  split at h
  · cases h; exact .inr rfl
  · split at h
    · cases h
    · split at h
      · cases h; exact .inl rfl
      · cases h
theorem zJq {q:UInt8}:∀ (m:Nat) (r acc:B8) (k:Nat) (t:B8) (kk:Nat),r.length ≤ m → zBe q r acc k = some (t,kk) → kk ≤ k + r.length
 | _,[],acc,k,t,kk,_,h => by simp [zBe] at h
 | 0,c :: r,acc,k,t,kk,hm,h => by simp at hm
 | m + 1,c :: r,acc,k,t,kk,hm,h => by
  simp only [List.length_cons] at hm ⊢
  unfold zBe at h
  split at h
  · cases h; omega
  · split at h
    · cases h
    · split at h
      · cases r with
        | nil => cases h
        | cons x u =>
         dsimp only at h
         simp only [List.length_cons] at hm ⊢
         split at h
         · cases h
         · have:=zJq m u _ _ _ _ (by omega) h; omega
      · have:=zJq m r _ _ _ _ (by omega) h; omega
theorem wordW_tok {c:UInt8} {r:B8} {k n len:Nat} {t:B8} (h:zCm zB7 (c :: r) = .tok k t n len):1 ≤ len ∧ len ≤ (c :: r).length:=by
 unfold zCm at h
 dsimp only at h
 split at h
 · cases h; exact ⟨by omega,nameF_le _⟩
 · split at h
   · have:=numW_tok (by assumption) h; exact ⟨this.1,this.2.1⟩
   · split at h
     · cases ht:zBe c r [] 0 with
       | none => rw [ht] at h; cases h
       | some x =>
        obtain ⟨tt,kk⟩:=x
        rw [ht] at h
        dsimp only at h
        split at h
        · cases h
          have:=zJq r.length r _ _ _ _ (Nat.le_refl _) ht
          simp only [List.length_cons]; omega
        · cases h
     · split at h
       · cases h; simp
       · cases h
theorem wordW_err {c:UInt8} {r:B8} {e:Nat} (h:zCm zB7 (c :: r) = .err e):e = 2 ∨ e = 3:=by
 unfold zCm at h
 dsimp only at h
 split at h
 · cases h
 · split at h
   · exact numW_err h
   · split at h
     · cases ht:zBe c r [] 0 with
       | none => rw [ht] at h; cases h; exact .inl rfl
       | some x =>
        obtain ⟨tt,kk⟩:=x
        rw [ht] at h
        dsimp only at h
        split at h
        · cases h
        · cases h; exact .inl rfl
     · split at h
       · cases h
       · cases h; exact .inl rfl
theorem skip_bk:∀ (m:Nat) (r w:B8) (b:Bool),r.length ≤ m → zBp r = (w,b) → ∃ x,r = x ++ w
 | _,[],w,b,_,h => by rw [zFq] at h; cases h; exact ⟨[],rfl⟩
 | 0,c :: r,w,b,hm,h => by simp at hm
 | m + 1,c :: r,w,b,hm,h => by
  simp only [List.length_cons] at hm
  have back:∀ (q y:B8),c :: r = y ++ q → q.length ≤ m → zBp q = (w,b) → ∃ x,c :: r = x ++ w:=by
   intro q y h1 h2 h4
   obtain ⟨x,hx⟩:=skip_bk m q w b h2 h4
   exact ⟨y ++ x,by rw [h1,hx,List.append_assoc]⟩
  rw [zE4] at h
  split at h
  · exact back r [c] rfl (by omega) h
  · split at h
    · cases r with
      | nil => cases h; exact ⟨[],rfl⟩
      | cons d r' =>
       simp only [List.length_cons] at hm
       dsimp only at h
       split at h
       · have hl:=zDg r'
         refine back (zAz r') (c :: d :: r'.take (r'.length - (zAz r').length)) ?_ (by omega) h
         have:=List.take_append_drop (r'.length - (zAz r').length) r'
         rw [zIy] at this
         simp only [List.cons_append,this]
       · split at h
         · cases hd:zB6 r' with
           | none => rw [hd] at h; cases h; exact ⟨[],rfl⟩
           | some u =>
            rw [hd] at h
            have hl:=zCy hd
            have hi:=idx_cmt r' 0
            rw [hd] at hi
            refine back u (c :: d :: r'.take (r'.length - u.length)) ?_ (by omega) h
            have:=List.take_append_drop (r'.length - u.length) r'
            rw [hi.2] at this
            simp only [List.cons_append,this]
         · cases h; exact ⟨[],rfl⟩
    · cases h; exact ⟨[],rfl⟩
theorem skip_suffix (s:B8) (a:Nat) (r w:B8) (b:Bool) (hd:s.drop a = r) (hl:a + r.length = s.length) (h:zBp r = (w,b)):s.drop (s.length - w.length) = w:=by
 obtain ⟨x,hx⟩:=skip_bk _ r w b (Nat.le_refl _) h
 have h1:=List.take_append_drop a s
 rw [hd,hx,← List.append_assoc] at h1
 have h2:∀ t y z:B8,t = y ++ z → t.drop (t.length - z.length) = z:=by intro t y z e; subst e; simp
 exact h2 _ _ _ h1.symm
def lexV (s:B8):CVal:=match lexF s with
 | .error (e,k) => .tup [.nils,.int .i64 (e:Int),.int .i64 (k:Int)]
 | .ok l => .tup [.imm .none 4 (l.map tokV),.int .i64 0,.int .i64 0]
theorem St.mk0 {h:CHeap} {p n':Nat} {s:B8} {a to:Int} {ty:NN} (hf:Fit h) (hp:h.next ≤ p) (hn:p < n') (ht:zA9 ty n'):St h.next h.ents p s a .nils [] 0 to ⟨(p,rdr s a .nils 0 to) :: h.ents,n',ty⟩ where
 g:=by simp [zA1]
 l:=.inl ⟨rfl,rfl⟩
 d:=⟨[(p,rdr s a .nils 0 to)],rfl,fun x hx => by simp at hx; subst hx; exact hp,hf.1⟩
 n:=hp
 lt:=hn
 f:=⟨Under.cons hn (hf.1.le om_),ht⟩
theorem numW_eq (s:B8):numW s = match zK3 s with | .inl e => .err e | .inr (v,len) => .tok 2 [] v len:=by
 unfold numW zK3
 generalize numF s = x
 obtain ⟨B,n,ds⟩:=x
 dsimp only
 unfold zFe
 by_cases h:18446744073709551616 ≤ valF B 0 ds
 · rw [if_pos h,if_pos h]
 · rw [if_neg h,if_neg h]
   cases s.drop (n + ds.length) with
   | nil => rfl
   | cons c u =>
    dsimp only
    by_cases hc:(zB2 ++ [46]).contains c = true
    · rw [if_pos hc,if_pos hc]
    · rw [if_neg hc,if_neg hc]
theorem let_eq (c:UInt8):Go.LexF.lettersB.contains c = letB c:=by
 have:=zDn (p:=fun c => Go.LexF.lettersB.contains c == letB c) (by decide +kernel) c
 simpa using this
theorem nam_eq (c:UInt8):zB2.contains c = (letB c || digB c):=by
 have:=zDn (p:=fun c => zB2.contains c == (letB c || digB c)) (by decide +kernel) c
 simpa using this
theorem zFz (c:UInt8) (r:B8):zEv (c :: r) = if letB c = true then (fr zB2 (c :: r)).length else 0:=by
 show (if Go.LexF.lettersB.contains c then _ else 0) = _
 rw [let_eq]
theorem zKe (t:B8):zEv t = if letB (t.headD 0) = true then (fr zB2 t).length else 0:=by
 cases t with
 | nil => rfl
 | cons c r => exact zFz c r
theorem nam_fr {c:UInt8} {r:B8} (h:letB c = true):1 ≤ (fr zB2 (c :: r)).length:=by
 rw [zJj (by rw [nam_eq,h]; rfl)]; simp
theorem drop_bk (t:B8):t.drop (fr zB2 t).length = bk zB2 t:=zC3 zB2 t
theorem nmR_eq:∀ (m:Nat) (s:B8),s.length ≤ m → nmR s = (fr zB2 s).length + zHa (bk zB2 s)
 | _,[],_ => by rw [show bk zB2 [] = [] by rfl,zHa.eq_def]; rfl
 | 0,c :: r,h => by simp at h
 | m + 1,c :: r,h => by
  simp only [List.length_cons] at h
  have ih:=nmR_eq m r (by omega)
  by_cases hn:zB2.contains c = true
  · have e1:bk zB2 (c :: r) = bk zB2 r:=by unfold bk; rw [List.dropWhile_cons,if_pos hn]
    have h2:letB c = true ∨ digB c = true ∨ c.toNat = 46 ∧ letB (r.headD 0) = true:=by
     rw [nam_eq] at hn
     rcases Bool.or_eq_true_iff.1 hn with h | h
     · exact .inl h
     · exact .inr (.inl h)
    rw [zJj hn,e1]
    unfold nmR
    rw [if_pos h2,ih]; simp; omega
  · rw [Bool.not_eq_true] at hn
    have e1:bk zB2 (c :: r) = c :: r:=by unfold bk; rw [List.dropWhile_cons,if_neg (by rw [hn]; decide)]
    rw [fr_no hn,e1,zHa.eq_def]
    dsimp only
    rw [nam_eq] at hn
    obtain ⟨g1,g2⟩:=Bool.or_eq_false_iff.1 hn
    unfold nmR
    rw [g1,g2]
    by_cases h46:c = 46
    · rw [if_pos h46,zKe]
      by_cases hl:letB (r.headD 0) = true
      · have h1:1 ≤ (fr zB2 r).length:=by
         cases r with
         | nil => exact absurd hl (by decide)
         | cons b u => exact nam_fr hl
        rw [if_pos (.inr (.inr ⟨by rw [h46]; rfl,hl⟩)),if_pos hl,if_neg (by omega),drop_bk,ih]; simp; omega
      · rw [if_neg hl,if_neg (by rintro (h | h | ⟨_,h⟩); cases h; cases h; exact hl h)]; simp
    · rw [if_neg h46,if_neg (by rintro (h | h | ⟨h,_⟩); cases h; cases h; exact h46 (UInt8.toNat_inj.1 h))]; simp
theorem wQQ1 {P:Prop} (h:P:=by refine mk_ 232 c232 (s_ ?_); repeat (first | refine st_ rfl ?_ | ((first | refine rg_ ?_ | refine go_ ?_); refine gw_ (by simp (disch:=omega) [hX,zBc,zBb,zAh]; rfl) ?_) | (refine W.loop ?_; try (generalize e:dropped .. = r; simp (disch:=omega) [hX,zBc,zBb,zAh] at e; subst e; try dsimp only)) | ((first | (refine W.ret ?_; (try simp only [zAd,zA3,zAb]); refine endW.of (.inl rfl) rfl ?_) | refine endW.of (.inr rfl) rfl ?_); generalize e:zB4 .. = r; simp (disch:=omega) [hX,zBc,zBb,zAh] at e; subst e; (refine hk _ _ ?_ ?_; omega; exact ut_)))):P:=h
theorem wQQ2 {P:Prop} (h:P:=by refine mk_ 232 c232 (s_ ?_); repeat (first | refine st_ rfl ?_ | ((first | refine rg_ ?_ | refine go_ ?_); refine gw_ (by simp (disch:=omega) [hX,List.length_cons,zBc,zBb,zAh]; rfl) ?_) | (refine W.loop ?_; try (generalize e:dropped .. = r; simp (disch:=omega) [hX,List.length_cons,zBc,zBb,zAh] at e; subst e; try dsimp only)) | ((first | (refine W.ret ?_; (try simp only [zAd,zA3,zAb]); refine endW.of (.inl rfl) rfl ?_) | refine endW.of (.inr rfl) rfl ?_); generalize e:zB4 .. = r; simp (disch:=omega) [hX,List.length_cons,zBc,zBb,zAh] at e; subst e; (refine hk _ _ ?_ ?_; omega; exact ut_)))):P:=h
theorem wQQ3 {P:Prop} (h:P:=by refine mk_ 232 c232 (s_ ?_); repeat (first | refine st_ rfl ?_ | ((first | refine rg_ ?_ | refine go_ ?_); refine gw_ (by simp (disch:=omega) [hX,List.length_cons,i1,zBc,zBb,zAh]; rfl) ?_) | (refine W.loop ?_; try (generalize e:dropped .. = r; simp (disch:=omega) [hX,List.length_cons,i1,zBc,zBb,zAh] at e; subst e; try dsimp only)) | ((first | (refine W.ret ?_; (try simp only [zAd,zA3,zAb]); refine endW.of (.inl rfl) rfl ?_) | refine endW.of (.inr rfl) rfl ?_); generalize e:zB4 .. = r; simp (disch:=omega) [hX,List.length_cons,i1,zBc,zBb,zAh] at e; subst e; (refine hk _ _ ?_ ?_; omega; exact ut_)))):P:=h
theorem wQQ4 {P:Prop} (h:P:=by refine mk_ 232 c232 (s_ ?_); repeat (first | refine st_ rfl ?_ | ((first | refine rg_ ?_ | refine go_ ?_); refine gw_ (by simp (disch:=omega) [hX,List.length_cons,i1,i2,zBc,zBb,zAh]; rfl) ?_) | (refine W.loop ?_; try (generalize e:dropped .. = r; simp (disch:=omega) [hX,List.length_cons,i1,i2,zBc,zBb,zAh] at e; subst e; try dsimp only)) | ((first | (refine W.ret ?_; (try simp only [zAd,zA3,zAb]); refine endW.of (.inl rfl) rfl ?_) | refine endW.of (.inr rfl) rfl ?_); generalize e:zB4 .. = r; simp (disch:=omega) [hX,List.length_cons,i1,i2,zBc,zBb,zAh] at e; subst e; (refine hk _ _ ?_ ?_; omega; exact ut_)))):P:=h
theorem wQQ5 {P:Prop} (h:P:=by refine mk_ 232 c232 (s_ ?_); repeat (first | refine st_ rfl ?_ | ((first | refine rg_ ?_ | refine go_ ?_); refine gw_ (by simp (disch:=omega) [hX,List.length_cons,i1,i2,i3,zBc,zBb,zAh]; rfl) ?_) | (refine W.loop ?_; try (generalize e:dropped .. = r; simp (disch:=omega) [hX,List.length_cons,i1,i2,i3,zBc,zBb,zAh] at e; subst e; try dsimp only)) | ((first | (refine W.ret ?_; (try simp only [zAd,zA3,zAb]); refine endW.of (.inl rfl) rfl ?_) | refine endW.of (.inr rfl) rfl ?_); generalize e:zB4 .. = r; simp (disch:=omega) [hX,List.length_cons,i1,i2,i3,zBc,zBb,zAh] at e; subst e; (refine hk _ _ ?_ ?_; omega; exact ut_)))):P:=h
theorem rp_nil  : Pu tree.getF 232 [.str []] (.tup [.int .u32 0,.int .i64 0]):=by
 intro h hf K hk
 obtain ⟨hu,hut,hX⟩:=fx4 hf
 exact wQQ1
theorem rp_1 (c:UInt8) (t:B8) (hc:c.toNat < 128):Pu tree.getF 232 [.str (c :: t)] (.tup [.int .u32 (c.toNat:Int),.int .i64 1]):=by
 intro h hf K hk
 obtain ⟨hu,hut,hX⟩:=fx4 hf
 have hcl:=c.toNat_lt
 exact wQQ1
theorem rp_lo (c:UInt8) (t:B8) (hc:128 ≤ c.toNat) (hc2:c.toNat < 192):Pu tree.getF 232 [.str (c :: t)] (.tup [.int .u32 0,.int .i64 0]):=by
 intro h hf K hk
 obtain ⟨hu,hut,hX⟩:=fx4 hf
 have hcl:=c.toNat_lt
 exact wQQ1
theorem rp_hi (c:UInt8) (t:B8) (hc:248 ≤ c.toNat):Pu tree.getF 232 [.str (c :: t)] (.tup [.int .u32 0,.int .i64 0]):=by
 intro h hf K hk
 obtain ⟨hu,hut,hX⟩:=fx4 hf
 have hcl:=c.toNat_lt
 exact wQQ1
theorem rp_2s (c:UInt8) (t:B8) (hc:192 ≤ c.toNat) (hc2:c.toNat < 224) (hs:t.length < 1):Pu tree.getF 232 [.str (c :: t)] (.tup [.int .u32 0,.int .i64 0]):=by
 intro h hf K hk
 obtain ⟨hu,hut,hX⟩:=fx4 hf
 have hcl:=c.toNat_lt
 exact wQQ2
theorem rp_2l1 (c  : UInt8) (c1:UInt8) (t:B8) (hc:192 ≤ c.toNat) (hc2:c.toNat < 224) (hs:0 ≤ t.length)  (hb:c1.toNat < 128):Pu tree.getF 232 [.str (c :: c1 :: t)] (.tup [.int .u32 0,.int .i64 0]):=by
 intro h hf K hk
 obtain ⟨hu,hut,hX⟩:=fx4 hf
 have hcl:=c.toNat_lt
 have hcl1:=c1.toNat_lt
 have i1:(c :: c1 :: t)[1]? = some c1:=rfl
 exact wQQ3
theorem rp_2h1 (c  : UInt8) (c1:UInt8) (t:B8) (hc:192 ≤ c.toNat) (hc2:c.toNat < 224) (hs:0 ≤ t.length)  (hb:191 < c1.toNat):Pu tree.getF 232 [.str (c :: c1 :: t)] (.tup [.int .u32 0,.int .i64 0]):=by
 intro h hf K hk
 obtain ⟨hu,hut,hX⟩:=fx4 hf
 have hcl:=c.toNat_lt
 have hcl1:=c1.toNat_lt
 have i1:(c :: c1 :: t)[1]? = some c1:=rfl
 exact wQQ3
theorem rp_2least (c:UInt8) (c1:UInt8) (t:B8) (hc:192 ≤ c.toNat) (hc2:c.toNat < 224) (a1:128 ≤ c1.toNat ∧ c1.toNat ≤ 191) (hb:(((c.toNat:Int) - 192) * 64 + ((c1.toNat:Int) - 128)) < 128):Pu tree.getF 232 [.str (c :: c1 :: t)] (.tup [.int .u32 0,.int .i64 0]):=by
 intro h hf K hk
 obtain ⟨hu,hut,hX⟩:=fx4 hf
 have hcl:=c.toNat_lt
 have hcl1:=c1.toNat_lt
 have i1:(c :: c1 :: t)[1]? = some c1:=rfl
 exact wQQ3
theorem rp_2ok1 (c:UInt8) (c1:UInt8) (t:B8) (hc:192 ≤ c.toNat) (hc2:c.toNat < 224) (a1:128 ≤ c1.toNat ∧ c1.toNat ≤ 191) (hb:128 ≤ (((c.toNat:Int) - 192) * 64 + ((c1.toNat:Int) - 128)) ∧ (((c.toNat:Int) - 192) * 64 + ((c1.toNat:Int) - 128)) < 55296):Pu tree.getF 232 [.str (c :: c1 :: t)] (.tup [.int .u32 (((c.toNat:Int) - 192) * 64 + ((c1.toNat:Int) - 128)),.int .i64 2]):=by
 intro h hf K hk
 obtain ⟨hu,hut,hX⟩:=fx4 hf
 have hcl:=c.toNat_lt
 have hcl1:=c1.toNat_lt
 have i1:(c :: c1 :: t)[1]? = some c1:=rfl
 exact wQQ3
theorem rp_3s (c:UInt8) (t:B8) (hc:224 ≤ c.toNat) (hc2:c.toNat < 240) (hs:t.length < 2):Pu tree.getF 232 [.str (c :: t)] (.tup [.int .u32 0,.int .i64 0]):=by
 intro h hf K hk
 obtain ⟨hu,hut,hX⟩:=fx4 hf
 have hcl:=c.toNat_lt
 exact wQQ2
theorem rp_3l1 (c  : UInt8) (c1:UInt8) (t:B8) (hc:224 ≤ c.toNat) (hc2:c.toNat < 240) (hs:1 ≤ t.length)  (hb:c1.toNat < 128):Pu tree.getF 232 [.str (c :: c1 :: t)] (.tup [.int .u32 0,.int .i64 0]):=by
 intro h hf K hk
 obtain ⟨hu,hut,hX⟩:=fx4 hf
 have hcl:=c.toNat_lt
 have hcl1:=c1.toNat_lt
 have i1:(c :: c1 :: t)[1]? = some c1:=rfl
 exact wQQ3
theorem rp_3h1 (c  : UInt8) (c1:UInt8) (t:B8) (hc:224 ≤ c.toNat) (hc2:c.toNat < 240) (hs:1 ≤ t.length)  (hb:191 < c1.toNat):Pu tree.getF 232 [.str (c :: c1 :: t)] (.tup [.int .u32 0,.int .i64 0]):=by
 intro h hf K hk
 obtain ⟨hu,hut,hX⟩:=fx4 hf
 have hcl:=c.toNat_lt
 have hcl1:=c1.toNat_lt
 have i1:(c :: c1 :: t)[1]? = some c1:=rfl
 exact wQQ3
theorem rp_3l2 (c  : UInt8) (c1:UInt8) (c2:UInt8) (t:B8) (hc:224 ≤ c.toNat) (hc2:c.toNat < 240) (hs:0 ≤ t.length) (a1:128 ≤ c1.toNat ∧ c1.toNat ≤ 191) (hb:c2.toNat < 128):Pu tree.getF 232 [.str (c :: c1 :: c2 :: t)] (.tup [.int .u32 0,.int .i64 0]):=by
 intro h hf K hk
 obtain ⟨hu,hut,hX⟩:=fx4 hf
 have hcl:=c.toNat_lt
 have hcl1:=c1.toNat_lt
 have i1:(c :: c1 :: c2 :: t)[1]? = some c1:=rfl
 have hcl2:=c2.toNat_lt
 have i2:(c :: c1 :: c2 :: t)[2]? = some c2:=rfl
 exact wQQ4
theorem rp_3h2 (c  : UInt8) (c1:UInt8) (c2:UInt8) (t:B8) (hc:224 ≤ c.toNat) (hc2:c.toNat < 240) (hs:0 ≤ t.length) (a1:128 ≤ c1.toNat ∧ c1.toNat ≤ 191) (hb:191 < c2.toNat):Pu tree.getF 232 [.str (c :: c1 :: c2 :: t)] (.tup [.int .u32 0,.int .i64 0]):=by
 intro h hf K hk
 obtain ⟨hu,hut,hX⟩:=fx4 hf
 have hcl:=c.toNat_lt
 have hcl1:=c1.toNat_lt
 have i1:(c :: c1 :: c2 :: t)[1]? = some c1:=rfl
 have hcl2:=c2.toNat_lt
 have i2:(c :: c1 :: c2 :: t)[2]? = some c2:=rfl
 exact wQQ4
theorem rp_3least (c:UInt8) (c1:UInt8) (c2:UInt8) (t:B8) (hc:224 ≤ c.toNat) (hc2:c.toNat < 240) (a1:128 ≤ c1.toNat ∧ c1.toNat ≤ 191) (a2:128 ≤ c2.toNat ∧ c2.toNat ≤ 191) (hb:((((c.toNat:Int) - 224) * 64 + ((c1.toNat:Int) - 128)) * 64 + ((c2.toNat:Int) - 128)) < 2048):Pu tree.getF 232 [.str (c :: c1 :: c2 :: t)] (.tup [.int .u32 0,.int .i64 0]):=by
 intro h hf K hk
 obtain ⟨hu,hut,hX⟩:=fx4 hf
 have hcl:=c.toNat_lt
 have hcl1:=c1.toNat_lt
 have i1:(c :: c1 :: c2 :: t)[1]? = some c1:=rfl
 have hcl2:=c2.toNat_lt
 have i2:(c :: c1 :: c2 :: t)[2]? = some c2:=rfl
 exact wQQ4
theorem rp_3sur (c:UInt8) (c1:UInt8) (c2:UInt8) (t:B8) (hc:224 ≤ c.toNat) (hc2:c.toNat < 240) (a1:128 ≤ c1.toNat ∧ c1.toNat ≤ 191) (a2:128 ≤ c2.toNat ∧ c2.toNat ≤ 191) (hb:2048 ≤ ((((c.toNat:Int) - 224) * 64 + ((c1.toNat:Int) - 128)) * 64 + ((c2.toNat:Int) - 128)) ∧ ¬ 1114111 < ((((c.toNat:Int) - 224) * 64 + ((c1.toNat:Int) - 128)) * 64 + ((c2.toNat:Int) - 128)) ∧ 55296 ≤ ((((c.toNat:Int) - 224) * 64 + ((c1.toNat:Int) - 128)) * 64 + ((c2.toNat:Int) - 128)) ∧ ((((c.toNat:Int) - 224) * 64 + ((c1.toNat:Int) - 128)) * 64 + ((c2.toNat:Int) - 128)) ≤ 57343):Pu tree.getF 232 [.str (c :: c1 :: c2 :: t)] (.tup [.int .u32 0,.int .i64 0]):=by
 intro h hf K hk
 obtain ⟨hu,hut,hX⟩:=fx4 hf
 have hcl:=c.toNat_lt
 have hcl1:=c1.toNat_lt
 have i1:(c :: c1 :: c2 :: t)[1]? = some c1:=rfl
 have hcl2:=c2.toNat_lt
 have i2:(c :: c1 :: c2 :: t)[2]? = some c2:=rfl
 exact wQQ4
theorem rp_3ok1 (c:UInt8) (c1:UInt8) (c2:UInt8) (t:B8) (hc:224 ≤ c.toNat) (hc2:c.toNat < 240) (a1:128 ≤ c1.toNat ∧ c1.toNat ≤ 191) (a2:128 ≤ c2.toNat ∧ c2.toNat ≤ 191) (hb:2048 ≤ ((((c.toNat:Int) - 224) * 64 + ((c1.toNat:Int) - 128)) * 64 + ((c2.toNat:Int) - 128)) ∧ ((((c.toNat:Int) - 224) * 64 + ((c1.toNat:Int) - 128)) * 64 + ((c2.toNat:Int) - 128)) < 55296):Pu tree.getF 232 [.str (c :: c1 :: c2 :: t)] (.tup [.int .u32 ((((c.toNat:Int) - 224) * 64 + ((c1.toNat:Int) - 128)) * 64 + ((c2.toNat:Int) - 128)),.int .i64 3]):=by
 intro h hf K hk
 obtain ⟨hu,hut,hX⟩:=fx4 hf
 have hcl:=c.toNat_lt
 have hcl1:=c1.toNat_lt
 have i1:(c :: c1 :: c2 :: t)[1]? = some c1:=rfl
 have hcl2:=c2.toNat_lt
 have i2:(c :: c1 :: c2 :: t)[2]? = some c2:=rfl
 exact wQQ4
theorem rp_3ok2 (c:UInt8) (c1:UInt8) (c2:UInt8) (t:B8) (hc:224 ≤ c.toNat) (hc2:c.toNat < 240) (a1:128 ≤ c1.toNat ∧ c1.toNat ≤ 191) (a2:128 ≤ c2.toNat ∧ c2.toNat ≤ 191) (hb:2048 ≤ ((((c.toNat:Int) - 224) * 64 + ((c1.toNat:Int) - 128)) * 64 + ((c2.toNat:Int) - 128)) ∧ 57343 < ((((c.toNat:Int) - 224) * 64 + ((c1.toNat:Int) - 128)) * 64 + ((c2.toNat:Int) - 128)) ∧ ((((c.toNat:Int) - 224) * 64 + ((c1.toNat:Int) - 128)) * 64 + ((c2.toNat:Int) - 128)) ≤ 1114111):Pu tree.getF 232 [.str (c :: c1 :: c2 :: t)] (.tup [.int .u32 ((((c.toNat:Int) - 224) * 64 + ((c1.toNat:Int) - 128)) * 64 + ((c2.toNat:Int) - 128)),.int .i64 3]):=by
 intro h hf K hk
 obtain ⟨hu,hut,hX⟩:=fx4 hf
 have hcl:=c.toNat_lt
 have hcl1:=c1.toNat_lt
 have i1:(c :: c1 :: c2 :: t)[1]? = some c1:=rfl
 have hcl2:=c2.toNat_lt
 have i2:(c :: c1 :: c2 :: t)[2]? = some c2:=rfl
 exact wQQ4
theorem rp_4s (c:UInt8) (t:B8) (hc:240 ≤ c.toNat) (hc2:c.toNat < 248) (hs:t.length < 3):Pu tree.getF 232 [.str (c :: t)] (.tup [.int .u32 0,.int .i64 0]):=by
 intro h hf K hk
 obtain ⟨hu,hut,hX⟩:=fx4 hf
 have hcl:=c.toNat_lt
 exact wQQ2
theorem rp_4l1 (c  : UInt8) (c1:UInt8) (t:B8) (hc:240 ≤ c.toNat) (hc2:c.toNat < 248) (hs:2 ≤ t.length)  (hb:c1.toNat < 128):Pu tree.getF 232 [.str (c :: c1 :: t)] (.tup [.int .u32 0,.int .i64 0]):=by
 intro h hf K hk
 obtain ⟨hu,hut,hX⟩:=fx4 hf
 have hcl:=c.toNat_lt
 have hcl1:=c1.toNat_lt
 have i1:(c :: c1 :: t)[1]? = some c1:=rfl
 exact wQQ3
theorem rp_4h1 (c  : UInt8) (c1:UInt8) (t:B8) (hc:240 ≤ c.toNat) (hc2:c.toNat < 248) (hs:2 ≤ t.length)  (hb:191 < c1.toNat):Pu tree.getF 232 [.str (c :: c1 :: t)] (.tup [.int .u32 0,.int .i64 0]):=by
 intro h hf K hk
 obtain ⟨hu,hut,hX⟩:=fx4 hf
 have hcl:=c.toNat_lt
 have hcl1:=c1.toNat_lt
 have i1:(c :: c1 :: t)[1]? = some c1:=rfl
 exact wQQ3
theorem rp_4l2 (c  : UInt8) (c1:UInt8) (c2:UInt8) (t:B8) (hc:240 ≤ c.toNat) (hc2:c.toNat < 248) (hs:1 ≤ t.length) (a1:128 ≤ c1.toNat ∧ c1.toNat ≤ 191) (hb:c2.toNat < 128):Pu tree.getF 232 [.str (c :: c1 :: c2 :: t)] (.tup [.int .u32 0,.int .i64 0]):=by
 intro h hf K hk
 obtain ⟨hu,hut,hX⟩:=fx4 hf
 have hcl:=c.toNat_lt
 have hcl1:=c1.toNat_lt
 have i1:(c :: c1 :: c2 :: t)[1]? = some c1:=rfl
 have hcl2:=c2.toNat_lt
 have i2:(c :: c1 :: c2 :: t)[2]? = some c2:=rfl
 exact wQQ4
theorem rp_4h2 (c  : UInt8) (c1:UInt8) (c2:UInt8) (t:B8) (hc:240 ≤ c.toNat) (hc2:c.toNat < 248) (hs:1 ≤ t.length) (a1:128 ≤ c1.toNat ∧ c1.toNat ≤ 191) (hb:191 < c2.toNat):Pu tree.getF 232 [.str (c :: c1 :: c2 :: t)] (.tup [.int .u32 0,.int .i64 0]):=by
 intro h hf K hk
 obtain ⟨hu,hut,hX⟩:=fx4 hf
 have hcl:=c.toNat_lt
 have hcl1:=c1.toNat_lt
 have i1:(c :: c1 :: c2 :: t)[1]? = some c1:=rfl
 have hcl2:=c2.toNat_lt
 have i2:(c :: c1 :: c2 :: t)[2]? = some c2:=rfl
 exact wQQ4
theorem rp_4l3 (c  : UInt8) (c1:UInt8) (c2:UInt8) (c3:UInt8) (t:B8) (hc:240 ≤ c.toNat) (hc2:c.toNat < 248) (hs:0 ≤ t.length) (a1:128 ≤ c1.toNat ∧ c1.toNat ≤ 191) (a2:128 ≤ c2.toNat ∧ c2.toNat ≤ 191) (hb:c3.toNat < 128):Pu tree.getF 232 [.str (c :: c1 :: c2 :: c3 :: t)] (.tup [.int .u32 0,.int .i64 0]):=by
 intro h hf K hk
 obtain ⟨hu,hut,hX⟩:=fx4 hf
 have hcl:=c.toNat_lt
 have hcl1:=c1.toNat_lt
 have i1:(c :: c1 :: c2 :: c3 :: t)[1]? = some c1:=rfl
 have hcl2:=c2.toNat_lt
 have i2:(c :: c1 :: c2 :: c3 :: t)[2]? = some c2:=rfl
 have hcl3:=c3.toNat_lt
 have i3:(c :: c1 :: c2 :: c3 :: t)[3]? = some c3:=rfl
 exact wQQ5
theorem rp_4h3 (c  : UInt8) (c1:UInt8) (c2:UInt8) (c3:UInt8) (t:B8) (hc:240 ≤ c.toNat) (hc2:c.toNat < 248) (hs:0 ≤ t.length) (a1:128 ≤ c1.toNat ∧ c1.toNat ≤ 191) (a2:128 ≤ c2.toNat ∧ c2.toNat ≤ 191) (hb:191 < c3.toNat):Pu tree.getF 232 [.str (c :: c1 :: c2 :: c3 :: t)] (.tup [.int .u32 0,.int .i64 0]):=by
 intro h hf K hk
 obtain ⟨hu,hut,hX⟩:=fx4 hf
 have hcl:=c.toNat_lt
 have hcl1:=c1.toNat_lt
 have i1:(c :: c1 :: c2 :: c3 :: t)[1]? = some c1:=rfl
 have hcl2:=c2.toNat_lt
 have i2:(c :: c1 :: c2 :: c3 :: t)[2]? = some c2:=rfl
 have hcl3:=c3.toNat_lt
 have i3:(c :: c1 :: c2 :: c3 :: t)[3]? = some c3:=rfl
 exact wQQ5
theorem rp_4least (c:UInt8) (c1:UInt8) (c2:UInt8) (c3:UInt8) (t:B8) (hc:240 ≤ c.toNat) (hc2:c.toNat < 248) (a1:128 ≤ c1.toNat ∧ c1.toNat ≤ 191) (a2:128 ≤ c2.toNat ∧ c2.toNat ≤ 191) (a3:128 ≤ c3.toNat ∧ c3.toNat ≤ 191) (hb:(((((c.toNat:Int) - 240) * 64 + ((c1.toNat:Int) - 128)) * 64 + ((c2.toNat:Int) - 128)) * 64 + ((c3.toNat:Int) - 128)) < 65536):Pu tree.getF 232 [.str (c :: c1 :: c2 :: c3 :: t)] (.tup [.int .u32 0,.int .i64 0]):=by
 intro h hf K hk
 obtain ⟨hu,hut,hX⟩:=fx4 hf
 have hcl:=c.toNat_lt
 have hcl1:=c1.toNat_lt
 have i1:(c :: c1 :: c2 :: c3 :: t)[1]? = some c1:=rfl
 have hcl2:=c2.toNat_lt
 have i2:(c :: c1 :: c2 :: c3 :: t)[2]? = some c2:=rfl
 have hcl3:=c3.toNat_lt
 have i3:(c :: c1 :: c2 :: c3 :: t)[3]? = some c3:=rfl
 exact wQQ5
theorem rp_4most (c:UInt8) (c1:UInt8) (c2:UInt8) (c3:UInt8) (t:B8) (hc:240 ≤ c.toNat) (hc2:c.toNat < 248) (a1:128 ≤ c1.toNat ∧ c1.toNat ≤ 191) (a2:128 ≤ c2.toNat ∧ c2.toNat ≤ 191) (a3:128 ≤ c3.toNat ∧ c3.toNat ≤ 191) (hb:65536 ≤ (((((c.toNat:Int) - 240) * 64 + ((c1.toNat:Int) - 128)) * 64 + ((c2.toNat:Int) - 128)) * 64 + ((c3.toNat:Int) - 128)) ∧ 1114111 < (((((c.toNat:Int) - 240) * 64 + ((c1.toNat:Int) - 128)) * 64 + ((c2.toNat:Int) - 128)) * 64 + ((c3.toNat:Int) - 128))):Pu tree.getF 232 [.str (c :: c1 :: c2 :: c3 :: t)] (.tup [.int .u32 0,.int .i64 0]):=by
 intro h hf K hk
 obtain ⟨hu,hut,hX⟩:=fx4 hf
 have hcl:=c.toNat_lt
 have hcl1:=c1.toNat_lt
 have i1:(c :: c1 :: c2 :: c3 :: t)[1]? = some c1:=rfl
 have hcl2:=c2.toNat_lt
 have i2:(c :: c1 :: c2 :: c3 :: t)[2]? = some c2:=rfl
 have hcl3:=c3.toNat_lt
 have i3:(c :: c1 :: c2 :: c3 :: t)[3]? = some c3:=rfl
 exact wQQ5
theorem rp_4ok2 (c:UInt8) (c1:UInt8) (c2:UInt8) (c3:UInt8) (t:B8) (hc:240 ≤ c.toNat) (hc2:c.toNat < 248) (a1:128 ≤ c1.toNat ∧ c1.toNat ≤ 191) (a2:128 ≤ c2.toNat ∧ c2.toNat ≤ 191) (a3:128 ≤ c3.toNat ∧ c3.toNat ≤ 191) (hb:65536 ≤ (((((c.toNat:Int) - 240) * 64 + ((c1.toNat:Int) - 128)) * 64 + ((c2.toNat:Int) - 128)) * 64 + ((c3.toNat:Int) - 128)) ∧ 57343 < (((((c.toNat:Int) - 240) * 64 + ((c1.toNat:Int) - 128)) * 64 + ((c2.toNat:Int) - 128)) * 64 + ((c3.toNat:Int) - 128)) ∧ (((((c.toNat:Int) - 240) * 64 + ((c1.toNat:Int) - 128)) * 64 + ((c2.toNat:Int) - 128)) * 64 + ((c3.toNat:Int) - 128)) ≤ 1114111):Pu tree.getF 232 [.str (c :: c1 :: c2 :: c3 :: t)] (.tup [.int .u32 (((((c.toNat:Int) - 240) * 64 + ((c1.toNat:Int) - 128)) * 64 + ((c2.toNat:Int) - 128)) * 64 + ((c3.toNat:Int) - 128)),.int .i64 4]):=by
 intro h hf K hk
 obtain ⟨hu,hut,hX⟩:=fx4 hf
 have hcl:=c.toNat_lt
 have hcl1:=c1.toNat_lt
 have i1:(c :: c1 :: c2 :: c3 :: t)[1]? = some c1:=rfl
 have hcl2:=c2.toNat_lt
 have i2:(c :: c1 :: c2 :: c3 :: t)[2]? = some c2:=rfl
 have hcl3:=c3.toNat_lt
 have i3:(c :: c1 :: c2 :: c3 :: t)[3]? = some c3:=rfl
 exact wQQ5
theorem zIn {x:Nat} {c:UInt8} (hx:x < 256):UInt8.ofNat x = c ↔ c.toNat = x:=by
 constructor
 · intro h; rw [← h]; simp; omega
 · intro h; rw [← h]; simp
theorem put2 {x:Nat} {c c1:UInt8} (hx:x < 2048):putB x = [c,c1] ↔ 128 ≤ x ∧ c.toNat = 192 + x / 64 ∧ c1.toNat = 128 + x % 64:=by
 unfold putB
 by_cases h:x < 128
 · rw [if_pos h]; simp; omega
 · rw [if_neg h,if_pos hx]
   simp only [List.cons.injEq,and_true]
   rw [zIn (by omega),zIn (by omega)]
   omega
theorem put3 {x:Nat} {c c1 c2:UInt8} (hx:x < 65536):putB x = [c,c1,c2] ↔ 2048 ≤ x ∧ (¬ (55296 ≤ x ∧ x < 57344) ∧ c.toNat = 224 + x / 4096 ∧ c1.toNat = 128 + x / 64 % 64 ∧ c2.toNat = 128 + x % 64 ∨ (55296 ≤ x ∧ x < 57344) ∧ c.toNat = 239 ∧ c1.toNat = 191 ∧ c2.toNat = 189):=by
 unfold putB
 by_cases h:x < 128
 · rw [if_pos h]; simp; omega
 · rw [if_neg h]
   by_cases h2:x < 2048
   · rw [if_pos h2]; simp; omega
   · rw [if_neg h2]
     by_cases hs:55296 ≤ x ∧ x < 57344 ∨ 1114111 < x
     · rw [if_pos hs]
       simp only [List.cons.injEq,and_true]
       rw [show (239:UInt8) = UInt8.ofNat 239 by rfl,show (191:UInt8) = UInt8.ofNat 191 by rfl,show (189:UInt8) = UInt8.ofNat 189 by rfl,zIn (by omega),zIn (by omega),zIn (by omega)]
       omega
     · rw [if_neg hs,if_pos hx]
       simp only [List.cons.injEq,and_true]
       rw [zIn (by omega),zIn (by omega),zIn (by omega)]
       omega
theorem put4 {x:Nat} {c c1 c2 c3:UInt8} (hx:x < 2097152):putB x = [c,c1,c2,c3] ↔ 65536 ≤ x ∧ x ≤ 1114111 ∧ c.toNat = 240 + x / 262144 ∧ c1.toNat = 128 + x / 4096 % 64 ∧ c2.toNat = 128 + x / 64 % 64 ∧ c3.toNat = 128 + x % 64:=by
 unfold putB
 by_cases h:x < 128
 · rw [if_pos h]; simp; omega
 · rw [if_neg h]
   by_cases h2:x < 2048
   · rw [if_pos h2]; simp; omega
   · rw [if_neg h2]
     by_cases hs:55296 ≤ x ∧ x < 57344 ∨ 1114111 < x
     · rw [if_pos hs]; simp; omega
     · rw [if_neg hs]
       by_cases h3:x < 65536
       · rw [if_pos h3]; simp; omega
       · rw [if_neg h3]
         simp only [List.cons.injEq,and_true]
         rw [zIn (by omega),zIn (by omega),zIn (by omega),zIn (by omega)]
         omega
theorem point_2 (c:UInt8) (t:B8) (hc:192 ≤ c.toNat) (hc2:c.toNat < 224):∃ v:Int,Pu tree.getF 232 [.str (c :: t)] (.tup [.int .u32 v,.int .i64 (ptF (c :: t):Int)]):=by
 have hcl:=c.toNat_lt
 have k1:¬ c.toNat < 128:=by omega
 have k2:c.toNat / 32 = 6:=by omega
 match t with
 | [] =>
  have e:ptF (c :: []) = 0:=by simp only [ptF]; rw [if_neg k1,if_pos k2]
  rw [e]; exact ⟨_,rp_2s c _ hc hc2 (by simp)⟩
 | c1 :: t =>
  have hcl1:=c1.toNat_lt
  obtain ⟨x,hx⟩:∃ x,(c.toNat % 32) * 64 + c1.toNat % 64 = x:=⟨_,rfl⟩
  have P:=put2 (x:=x) (c:=c) (c1:=c1) (by omega)
  have ef:ptF (c :: c1 :: t) = if putB x = [c,c1] then 2 else 0:=by
   rw [← hx]; simp only [ptF]; rw [if_neg k1,if_pos k2]
  have eno:¬ putB x = [c,c1] → ptF (c :: c1 :: t) = 0:=fun h => by rw [ef,if_neg h]
  have eyes:putB x = [c,c1] → ptF (c :: c1 :: t) = 2:=fun h => by rw [ef,if_pos h]
  by_cases l1:c1.toNat < 128
  · rw [eno (by rw [P]; omega)]; exact ⟨_,rp_2l1 c c1 (t) hc hc2 (by simp)  l1⟩
  by_cases h1:191 < c1.toNat
  · rw [eno (by rw [P]; omega)]; exact ⟨_,rp_2h1 c c1 (t) hc hc2 (by simp)  h1⟩
  have a1:128 ≤ c1.toNat ∧ c1.toNat ≤ 191:=by omega
  have hv:(((c.toNat:Int) - 192) * 64 + ((c1.toNat:Int) - 128)) = (x:Int):=by omega
  by_cases w1:x < 128
  · rw [eno (by rw [P]; omega)]; exact ⟨_,rp_2least c c1 t hc hc2 a1 (by rw [hv]; omega)⟩
  rw [eyes (by rw [P]; omega)]; exact ⟨_,rp_2ok1 c c1 t hc hc2 a1 (by rw [hv]; omega)⟩
theorem point_3 (c:UInt8) (t:B8) (hc:224 ≤ c.toNat) (hc2:c.toNat < 240):∃ v:Int,Pu tree.getF 232 [.str (c :: t)] (.tup [.int .u32 v,.int .i64 (ptF (c :: t):Int)]):=by
 have hcl:=c.toNat_lt
 have k1:¬ c.toNat < 128:=by omega
 have k2:¬ c.toNat / 32 = 6:=by omega
 have k3:c.toNat / 16 = 14:=by omega
 match t with
 | [] =>
  have e:ptF (c :: []) = 0:=by simp only [ptF]; rw [if_neg k1,if_neg k2,if_pos k3]
  rw [e]; exact ⟨_,rp_3s c _ hc hc2 (by simp)⟩
 | [c1] =>
  have e:ptF (c :: [c1]) = 0:=by simp only [ptF]; rw [if_neg k1,if_neg k2,if_pos k3]
  rw [e]; exact ⟨_,rp_3s c _ hc hc2 (by simp)⟩
 | c1 :: c2 :: t =>
  have hcl1:=c1.toNat_lt
  have hcl2:=c2.toNat_lt
  obtain ⟨x,hx⟩:∃ x,((c.toNat % 16) * 64 + c1.toNat % 64) * 64 + c2.toNat % 64 = x:=⟨_,rfl⟩
  have P:=put3 (x:=x) (c:=c) (c1:=c1) (c2:=c2) (by omega)
  have ef:ptF (c :: c1 :: c2 :: t) = if putB x = [c,c1,c2] then 3 else 0:=by
   rw [← hx]; simp only [ptF]; rw [if_neg k1,if_neg k2,if_pos k3]
  have eno:¬ putB x = [c,c1,c2] → ptF (c :: c1 :: c2 :: t) = 0:=fun h => by rw [ef,if_neg h]
  have eyes:putB x = [c,c1,c2] → ptF (c :: c1 :: c2 :: t) = 3:=fun h => by rw [ef,if_pos h]
  by_cases l1:c1.toNat < 128
  · rw [eno (by rw [P]; omega)]; exact ⟨_,rp_3l1 c c1 (c2 :: t) hc hc2 (by simp)  l1⟩
  by_cases h1:191 < c1.toNat
  · rw [eno (by rw [P]; omega)]; exact ⟨_,rp_3h1 c c1 (c2 :: t) hc hc2 (by simp)  h1⟩
  have a1:128 ≤ c1.toNat ∧ c1.toNat ≤ 191:=by omega
  by_cases l2:c2.toNat < 128
  · rw [eno (by rw [P]; omega)]; exact ⟨_,rp_3l2 c c1 c2 (t) hc hc2 (by simp) a1 l2⟩
  by_cases h2:191 < c2.toNat
  · rw [eno (by rw [P]; omega)]; exact ⟨_,rp_3h2 c c1 c2 (t) hc hc2 (by simp) a1 h2⟩
  have a2:128 ≤ c2.toNat ∧ c2.toNat ≤ 191:=by omega
  have hv:((((c.toNat:Int) - 224) * 64 + ((c1.toNat:Int) - 128)) * 64 + ((c2.toNat:Int) - 128)) = (x:Int):=by omega
  by_cases w1:x < 2048
  · rw [eno (by rw [P]; omega)]; exact ⟨_,rp_3least c c1 c2 t hc hc2 a1 a2 (by rw [hv]; omega)⟩
  by_cases w2:x < 55296
  · rw [eyes (by rw [P]; omega)]; exact ⟨_,rp_3ok1 c c1 c2 t hc hc2 a1 a2 (by rw [hv]; omega)⟩
  by_cases w3:x ≤ 57343
  · rw [eno (by rw [P]; omega)]; exact ⟨_,rp_3sur c c1 c2 t hc hc2 a1 a2 (by rw [hv]; omega)⟩
  rw [eyes (by rw [P]; omega)]; exact ⟨_,rp_3ok2 c c1 c2 t hc hc2 a1 a2 (by rw [hv]; omega)⟩
theorem point_4 (c:UInt8) (t:B8) (hc:240 ≤ c.toNat) (hc2:c.toNat < 248):∃ v:Int,Pu tree.getF 232 [.str (c :: t)] (.tup [.int .u32 v,.int .i64 (ptF (c :: t):Int)]):=by
 have hcl:=c.toNat_lt
 have k1:¬ c.toNat < 128:=by omega
 have k2:¬ c.toNat / 32 = 6:=by omega
 have k3:¬ c.toNat / 16 = 14:=by omega
 have k4:c.toNat / 8 = 30:=by omega
 match t with
 | [] =>
  have e:ptF (c :: []) = 0:=by simp only [ptF]; rw [if_neg k1,if_neg k2,if_neg k3,if_pos k4]
  rw [e]; exact ⟨_,rp_4s c _ hc hc2 (by simp)⟩
 | [c1] =>
  have e:ptF (c :: [c1]) = 0:=by simp only [ptF]; rw [if_neg k1,if_neg k2,if_neg k3,if_pos k4]
  rw [e]; exact ⟨_,rp_4s c _ hc hc2 (by simp)⟩
 | [c1,c2] =>
  have e:ptF (c :: [c1,c2]) = 0:=by simp only [ptF]; rw [if_neg k1,if_neg k2,if_neg k3,if_pos k4]
  rw [e]; exact ⟨_,rp_4s c _ hc hc2 (by simp)⟩
 | c1 :: c2 :: c3 :: t =>
  have hcl1:=c1.toNat_lt
  have hcl2:=c2.toNat_lt
  have hcl3:=c3.toNat_lt
  obtain ⟨x,hx⟩:∃ x,(((c.toNat % 8) * 64 + c1.toNat % 64) * 64 + c2.toNat % 64) * 64 + c3.toNat % 64 = x:=⟨_,rfl⟩
  have P:=put4 (x:=x) (c:=c) (c1:=c1) (c2:=c2) (c3:=c3) (by omega)
  have ef:ptF (c :: c1 :: c2 :: c3 :: t) = if putB x = [c,c1,c2,c3] then 4 else 0:=by
   rw [← hx]; simp only [ptF]; rw [if_neg k1,if_neg k2,if_neg k3,if_pos k4]
  have eno:¬ putB x = [c,c1,c2,c3] → ptF (c :: c1 :: c2 :: c3 :: t) = 0:=fun h => by rw [ef,if_neg h]
  have eyes:putB x = [c,c1,c2,c3] → ptF (c :: c1 :: c2 :: c3 :: t) = 4:=fun h => by rw [ef,if_pos h]
  by_cases l1:c1.toNat < 128
  · rw [eno (by rw [P]; omega)]; exact ⟨_,rp_4l1 c c1 (c2 :: c3 :: t) hc hc2 (by simp)  l1⟩
  by_cases h1:191 < c1.toNat
  · rw [eno (by rw [P]; omega)]; exact ⟨_,rp_4h1 c c1 (c2 :: c3 :: t) hc hc2 (by simp)  h1⟩
  have a1:128 ≤ c1.toNat ∧ c1.toNat ≤ 191:=by omega
  by_cases l2:c2.toNat < 128
  · rw [eno (by rw [P]; omega)]; exact ⟨_,rp_4l2 c c1 c2 (c3 :: t) hc hc2 (by simp) a1 l2⟩
  by_cases h2:191 < c2.toNat
  · rw [eno (by rw [P]; omega)]; exact ⟨_,rp_4h2 c c1 c2 (c3 :: t) hc hc2 (by simp) a1 h2⟩
  have a2:128 ≤ c2.toNat ∧ c2.toNat ≤ 191:=by omega
  by_cases l3:c3.toNat < 128
  · rw [eno (by rw [P]; omega)]; exact ⟨_,rp_4l3 c c1 c2 c3 (t) hc hc2 (by simp) a1 a2 l3⟩
  by_cases h3:191 < c3.toNat
  · rw [eno (by rw [P]; omega)]; exact ⟨_,rp_4h3 c c1 c2 c3 (t) hc hc2 (by simp) a1 a2 h3⟩
  have a3:128 ≤ c3.toNat ∧ c3.toNat ≤ 191:=by omega
  have hv:(((((c.toNat:Int) - 240) * 64 + ((c1.toNat:Int) - 128)) * 64 + ((c2.toNat:Int) - 128)) * 64 + ((c3.toNat:Int) - 128)) = (x:Int):=by omega
  by_cases w1:x < 65536
  · rw [eno (by rw [P]; omega)]; exact ⟨_,rp_4least c c1 c2 c3 t hc hc2 a1 a2 a3 (by rw [hv]; omega)⟩
  by_cases w2:1114111 < x
  · rw [eno (by rw [P]; omega)]; exact ⟨_,rp_4most c c1 c2 c3 t hc hc2 a1 a2 a3 (by rw [hv]; omega)⟩
  rw [eyes (by rw [P]; omega)]; exact ⟨_,rp_4ok2 c c1 c2 c3 t hc hc2 a1 a2 a3 (by rw [hv]; omega)⟩
theorem point_R (s:B8):∃ v:Int,Pu tree.getF 232 [.str s] (.tup [.int .u32 v,.int .i64 (ptF s:Int)]):=by
 cases s with
 | nil => exact ⟨_,rp_nil⟩
 | cons c t =>
  by_cases h1:c.toNat < 128
  · have e:ptF (c :: t) = 1:=by simp only [ptF]; rw [if_pos h1]
    rw [e]; exact ⟨_,rp_1 c t h1⟩
  by_cases h2:c.toNat < 192
  · have e:ptF (c :: t) = 0:=by simp only [ptF]; rw [if_neg h1,if_neg (by omega),if_neg (by omega),if_neg (by omega)]
    rw [e]; exact ⟨_,rp_lo c t (by omega) h2⟩
  by_cases h3:c.toNat < 224
  · exact point_2 c t (by omega) h3
  by_cases h4:c.toNat < 240
  · exact point_3 c t (by omega) h4
  by_cases h5:c.toNat < 248
  · exact point_4 c t (by omega) h5
  have e:ptF (c :: t) = 0:=by simp only [ptF]; rw [if_neg h1,if_neg (by omega),if_neg (by omega),if_neg (by omega)]
  rw [e]; exact ⟨_,rp_hi c t (by omega)⟩
end Go.Proofs.YtcokdlfmnhjngaaGreat.IrE
