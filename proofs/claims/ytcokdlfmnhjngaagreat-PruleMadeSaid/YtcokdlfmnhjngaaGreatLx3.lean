/- What the functions of the law 'PruleMade' do: part 3 of 8. -/
import Derived.Test.YtcokdlfmnhjngaaGreatLx2
namespace Go.Proofs.YtcokdlfmnhjngaaGreat.IrE
open Go Go.CI
open Go.LexF hiding spacesB lettersB
set_option maxRecDepth 100000
set_option maxHeartbeats 4000000
set_option linter.unusedVariables false
set_option linter.unusedSimpArgs false
attribute [local irreducible] W Wo Wc WoR
abbrev zKh:CCode:=(.loop true (.seq (.seq (.R [.v 0,.g (.len true (.loc 0)),.x .gtr 0 (.k 0)] [(1,2)]) (.cond (.var 1) .skip (.exit 0))) (.block 1 (.seq (.R [.v 0,.c 232 [(.loc 0)],.m (.loc 0),.e 0 0,.e 1 1,.m (.loc 1),.m (.loc 1)] [(2,6)]) (.seq (.seq (.R [.v 2,.x .eql 0 (.k 0)] [(3,1)]) (.cond (.var 3) (.seq (.R [.m (.b false)] [(4,0)]) .ret) .skip)) (.R [.v 0,.v 2,.g (.slc 0 (.loc 1) (some (.loc 0)) none),.m (.loc 0)] [(0,3)]))))))
theorem rvalid_loop (Q:QT):∀ (m:Nat) (s:B8),s.length ≤ m → s.length ≤ 70000 → ∀ (h:CHeap) (v1 v2 v3 v4:CVal),Fit h →
    (∀ n' ty v0 v1 v2 v3,h.next ≤ n' → zA9 ty n' → zB7 s = false → Q .ret ⟨[v0,v1,v2,v3,.bool false],⟨h.ents,n',ty⟩,[]⟩) →
    (∀ n' ty v0 v1 v2 v3 v4,h.next ≤ n' → zA9 ty n' → zB7 s = true → Q (.exit 0) ⟨[v0,v1,v2,v3,v4],⟨h.ents,n',ty⟩,[]⟩) →
    W tree.getF zKh ⟨[.str s,v1,v2,v3,v4],h,[]⟩ Q:=by
 intro m
 induction m with
 | zero =>
  intro s hm hl h v1 v2 v3 v4 hf hk1 hk2
  obtain rfl:s = []:=List.length_eq_zero_iff.1 (by omega)
  obtain ⟨hu,hut,hX⟩:=fx4 hf
  refine W.loop ?_
  try refine wx_ ?_
  exact hk2 _ _ _ _ _ _ _ (by omega) ut_ (by rw [zB7]; rfl)
 | succ m ih =>
  intro s hm hl h v1 v2 v3 v4 hf hk1 hk2
  obtain ⟨hu,hut,hX⟩:=fx4 hf
  cases s with
  | nil =>
   refine W.loop ?_
   try refine wx_ ?_
   exact hk2 _ _ _ _ _ _ _ (by omega) ut_ (by rw [zB7]; rfl)
  | cons c t =>
   obtain ⟨rv,P⟩:=point_R (c :: t)
   have hle:=ptF_le (c :: t)
   simp only [List.length_cons] at hm hl hle
   have htk:(c :: t).take (t.length + 1) = c :: t:=List.take_of_length_le (by simp)
   by_cases hz:ptF (c :: t) = 0
   · rw [hz] at P
     refine W.loop ?_
     repeat (first | refine wx_ ?_ | (refine P _ ?_ _ fun n1 tyn1 hn1 hun1 => ⟨rfl,?_⟩; exact fit_; (try dsimp only at hn1)) | (refine W.ret ?_; (try simp only [zAd,zA3,zAb]); refine hk1 _ _ _ _ _ _ ?_ ?_ ?_; omega; exact ut_; rw [zB7,dif_pos hz]; rfl))
   · obtain ⟨n,hn⟩:∃ n,ptF (c :: t) = n:=⟨_,rfl⟩
     have hvd:zB7 (c :: t) = zB7 ((c :: t).drop n):=by
      conv => lhs; rw [zB7]
      rw [dif_neg hz,hn]
     rw [hvd] at hk1 hk2
     rw [hn] at P hz hle
     have hn0:¬ ((n:Int) = 0):=by omega
     refine W.loop ?_
     have hZ:=j3_ hX htk hn0
     repeat (first | refine wk_ ?_ | (refine P _ ?_ _ fun n1 tyn1 hn1 hun1 => ⟨rfl,?_⟩; exact fit_; (try dsimp only at hn1)))
     show W tree.getF zKh (dropped true _ _) Q
     generalize e:dropped .. = r9
     simp (disch:=omega) [hX] at e
     subst e
     refine ih ((c :: t).drop n) (by rw [List.length_drop]; simp; omega) (by rw [List.length_drop]; simp; omega) _ _ _ _ _ ?_ ?_ ?_
     · exact fit_
     · intro n' ty w0 w1 w2 w3 g1 g3 g2; exact hk1 n' ty w0 w1 w2 w3 (by dsimp only at g1; omega) g3 g2
     · intro n' ty w0 w1 w2 w3 w4 g1 g3 g2; exact hk2 n' ty w0 w1 w2 w3 w4 (by dsimp only at g1; omega) g3 g2
theorem valid_R (s:B8) (hl:s.length < 70000):Pu tree.getF 163 [.str s] (.bool (zB7 s)):=by
 intro h hf K hk
 obtain ⟨hu,hut,hX⟩:=fx4 hf
 refine mk_ 163 c163 (s_ ?_)
 try refine wx_ ?_
 refine rvalid_loop _ s.length s (Nat.le_refl _) (by omega) _ _ _ _ _ ?_ ?_ ?_
 · exact fit_
 · intro n' ty w0 w1 w2 w3 g1 g3 g2
   try dsimp only at g1
   rw [g2] at hk
   try simp only [zAd,zA3,zAb]
   refine endW.of (.inl rfl) rfl ?_
   generalize e:zB4 .. = r
   simp (disch:=omega) [hX] at e
   subst e
   (try dsimp only)
   refine hk _ _ ?_ ?_
   omega
   exact ut_
 · intro n' ty w0 w1 w2 w3 w4 g1 g3 g2
   try dsimp only at g1
   rw [g2] at hk
   repeat (first | refine wx_ ?_ | (refine rx_ ?_; (refine hk _ _ ?_ ?_; omega; exact ut_)))
theorem textF_shift (q:UInt8) (m:Nat):∀ (n:Nat) (r acc:B8) (k:Nat),r.length ≤ n → zBe q r acc (k + m) = (zBe q r acc k).map (fun x => (x.1,x.2 + m)):=by
 intro n
 induction n with
 | zero =>
  intro r acc k h
  obtain rfl:r = []:=List.length_eq_zero_iff.1 (by omega)
  simp [zBe]
 | succ n ih =>
  intro r acc k h
  cases r with
  | nil => simp [zBe]
  | cons c t =>
   simp only [List.length_cons] at h
   unfold zBe
   by_cases h1:c = q
   · rw [if_pos h1,if_pos h1]; simp; omega
   rw [if_neg h1,if_neg h1]
   by_cases h2:c = 10
   · rw [if_pos h2,if_pos h2]; rfl
   rw [if_neg h2,if_neg h2]
   by_cases h3:c = 92
   · rw [if_pos h3,if_pos h3]
     cases t with
     | nil => rfl
     | cons x u =>
      dsimp only
      cases meantF x with
      | none => rfl
      | some w =>
       dsimp only
       have:=ih u (acc ++ [w]) (k + 2) (by simp only [List.length_cons] at h; omega)
       rw [← this]
       congr 1
       omega
   · rw [if_neg h3,if_neg h3]
     have:=ih t (acc ++ [c]) (k + 1) (by omega)
     rw [← this]
     congr 1
     omega
theorem wQU1 {P:Prop} (h:P:=by repeat (first | refine st_ rfl ?_ | ((first | refine rg_ ?_ | refine go_ ?_); refine gw_ (by simp (disch:=omega) [hX,hg,hY,hce,hc0,hsl,hto,hcut,hto9]; rfl) ?_) | ((first | (refine W.ret ?_; (try simp only [zAd,zA3,zAb]); refine endW.of (.inl rfl) rfl ?_) | refine endW.of (.inr rfl) rfl ?_); generalize e:zB4 .. = r; simp (disch:=omega) [hX,hg,hY,hce,hc0,hsl,hto,hcut,hto9] at e; subst e; (refine hk _ _ ?_ ?_; omega; exact ut_)))):P:=h
theorem wQU2 {P:Prop} (h:P:=by repeat (first | refine st_ rfl ?_ | ((first | refine rg_ ?_ | refine go_ ?_); refine gw_ (by simp (disch:=omega) [hX,hg,hY,hce,hc0,hsl,hto]; rfl) ?_) | ((first | (refine W.ret ?_; (try simp only [zAd,zA3,zAb]); refine endW.of (.inl rfl) rfl ?_) | refine endW.of (.inr rfl) rfl ?_); generalize e:zB4 .. = r; simp (disch:=omega) [hX,hg,hY,hce,hc0,hsl,hto] at e; subst e; (refine hk1 _ _ ?_ ?_; omega; exact ut_)))):P:=h
theorem wQU3 {P:Prop} (h:P:=by repeat (first | refine st_ rfl ?_ | ((first | refine rg_ ?_ | refine go_ ?_); refine gw_ (by simp (disch:=omega) [hX,hg,hY,hce,hc0,hsl,hto]; rfl) ?_) | ((first | (refine W.ret ?_; (try simp only [zAd,zA3,zAb]); refine endW.of (.inl rfl) rfl ?_) | refine endW.of (.inr rfl) rfl ?_); generalize e:zB4 .. = r; simp (disch:=omega) [hX,hg,hY,hce,hc0,hsl,hto] at e; subst e; (refine hk2 _ _ ?_ ?_; omega; exact ut_)))):P:=h
theorem nmR_le (s:B8):nmR s ≤ s.length:=by
 induction s with
 | nil => exact Nat.le_refl _
 | cons c r ih =>
  unfold nmR
  split
  · simp only [List.length_cons]; omega
  · exact Nat.zero_le _
theorem word_e (s:B8) (hs:s.length < 60000) (i:Nat) (hi:i = s.length) (t:Int) (h:CHeap) (p d:Nat) (hf:Fit h) (hg:zA1 h.ents p = some (lx s (i:Int) 0 t)) (hp:p < h.next) (K:KT)
    (hk:∀ n' ty,h.next ≤ n' → zA9 ty n' → K (.agg [.int .i64 5,.str [],.int .u64 0,.int .i64 (i:Int)]) ⟨h.ents,n',ty⟩):Wc tree.getF 139 [.ptr p d 0] h K:=by
 obtain ⟨hu,hut,hX⟩:=fx4 hf
 have hY:=fx5 hf hg
 have hie:(i:Int) = (s.length:Int):=by omega
 refine mk_ 139 c139 (s_ ?_)
 have hZ:=j3_ hX hg hY
 repeat (first | refine wk_ ?_ | (refine rk_ ?_; (refine hk _ _ ?_ ?_; omega; exact ut_)))
theorem word_nm (s:B8) (hs:s.length < 60000) (i:Nat) (c:UInt8) (r:B8) (hd:s.drop i = c :: r) (hlen:i + (c :: r).length = s.length) (t:Int) (hl:letB c = true) (h:CHeap) (p d:Nat) (hf:Fit h) (hg:zA1 h.ents p = some (lx s (i:Int) 0 t)) (hp:p < h.next) (K:KT) (hk:∀ n' ty,h.next ≤ n' → zA9 ty n' → K (.agg [.int .i64 1,.str ((c :: r).take (1 + nmR r)),.int .u64 0,.int .i64 (i:Int)]) ⟨zA2 h.ents p (lx s ((i + 1 + nmR r:Nat):Int) 0 t),n',ty⟩):Wc tree.getF 139 [.ptr p d 0] h K:=by
 obtain ⟨hu,hut,hX⟩:=fx4 hf
 have hY:=fx5 hf hg; have ⟨hG,hD2,hC2,hN2⟩:=hY
 have hc0:=zB0 hd
 obtain ⟨hi,hce⟩:=List.getElem?_eq_some_iff.1 hc0
 have hcl:=c.toNat_lt
 have hine:¬ ((i:Int) = (s.length:Int)):=by omega
 have LF:=zB5 c
 have DF:=zBq c
 have hsl:(s.take (i + 1)).drop i = [c]:=by rw [List.drop_take,show i + 1 - i = 1 by omega,hd]; rfl
 have hto:((i:Int) + 1).toNat = i + 1:=by omega
 rw [hl] at LF
 refine mk_ 139 c139 (s_ ?_)
 have hZ:=j7_ hX hg hY hce hc0 hsl hto
 repeat (first | refine wk_ ?_ | (refine LF _ ?_ _ fun n1 tyn1 hn1 hun1 => ⟨rfl,?_⟩; exact fit_; (try dsimp only at hn1)) | (refine DF _ ?_ _ fun n1 tyn1 hn1 hun1 => ⟨rfl,?_⟩; exact fit_; (try dsimp only at hn1)))
 refine ref_name s hs p d t _ _ _ _ _ _ _ _ _ _ _ r (i + 1) (zB9 hd) (by simp only [List.length_cons] at hlen; omega) _ _ ?_ ?_ ?_ ?_
 · (simp (disch:=omega) [zA1,zA2,zBh,zBi,zA4,hg,hG])
 · exact fit_
 · exact om_
 · intro n' ty w6 g1 g2
   try dsimp only at g1
   have hnl:=nmR_le r
   have hlen1:=hlen
   simp only [List.length_cons] at hlen1
   have hcut:(s.take (i + 1 + nmR r)).drop i = (c :: r).take (1 + nmR r):=by rw [List.drop_take,hd]; congr 1; omega
   obtain ⟨e9,he9⟩:∃ e9,i + 1 + nmR r = e9:=⟨_,rfl⟩
   have hto9:((e9:Nat):Int).toNat = e9:=by omega
   simp only [he9] at hk hcut ⊢
   exact wQU1
theorem word_dot (s:B8) (hs:s.length < 60000) (i:Nat) (c x:UInt8) (r0 r:B8) (hr:r = x :: r0) (hd:s.drop i = c :: r) (hlen:i + (c :: r).length = s.length) (t:Int) (hl:letB c = false) (h46:c.toNat = 46) (hx:letB x = true) (h:CHeap) (p d:Nat) (hf:Fit h) (hg:zA1 h.ents p = some (lx s (i:Int) 0 t)) (hp:p < h.next) (K:KT) (hk:∀ n' ty,h.next ≤ n' → zA9 ty n' → K (.agg [.int .i64 1,.str ((c :: r).take (1 + nmR r)),.int .u64 0,.int .i64 (i:Int)]) ⟨zA2 h.ents p (lx s ((i + 1 + nmR r:Nat):Int) 0 t),n',ty⟩):Wc tree.getF 139 [.ptr p d 0] h K:=by
 obtain ⟨hu,hut,hX⟩:=fx4 hf
 have hY:=fx5 hf hg; have ⟨hG,hD2,hC2,hN2⟩:=hY
 have hc0:=zB0 hd
 obtain ⟨hi,hce⟩:=List.getElem?_eq_some_iff.1 hc0
 have hcl:=c.toNat_lt
 have hine:¬ ((i:Int) = (s.length:Int)):=by omega
 have LF:=zB5 c
 have DF:=zBq c
 have hsl:(s.take (i + 1)).drop i = [c]:=by rw [List.drop_take,show i + 1 - i = 1 by omega,hd]; rfl
 have hto:((i:Int) + 1).toNat = i + 1:=by omega
 have hx1:s[i + 1]? = some x:=by have:=zB9 hd; rw [hr] at this; exact zB0 this
 have B1:∀ (h:CHeap) (hf:Fit h) (hg:zA1 h.ents p = some (lx s (i:Int) 0 t)) (hp:p < h.next) (K:KT) (hk:∀ n' ty,h.next ≤ n' → zA9 ty n' → K (.int .u8 (x.toNat:Int)) ⟨h.ents,n',ty⟩),Wc tree.getF 189 [.ptr p d 0,.int .i64 1] h K:=fun h hf hg hp K hk => zId s i 1 0 t x hs (by omega) hx1 h p d hf hg hp K hk
 have LX:=zB5 x
 rw [hl] at LF
 rw [hx] at LX
 refine mk_ 139 c139 (s_ ?_)
 have hZ:=j7_ hX hg hY hce hc0 hsl hto
 repeat (first | refine wk_ ?_ | (refine LF _ ?_ _ fun n1 tyn1 hn1 hun1 => ⟨rfl,?_⟩; exact fit_; (try dsimp only at hn1)) | (refine B1 _ ?_ ?_ ?_ _ fun n1 tyn1 hn1 hun1 => ⟨rfl,?_⟩; exact fit_; exact ge_; exact om_; (try dsimp only at hn1)) | (refine LX _ ?_ _ fun n1 tyn1 hn1 hun1 => ⟨rfl,?_⟩; exact fit_; (try dsimp only at hn1)) | (refine DF _ ?_ _ fun n1 tyn1 hn1 hun1 => ⟨rfl,?_⟩; exact fit_; (try dsimp only at hn1)))
 refine ref_name s hs p d t _ _ _ _ _ _ _ _ _ _ _ r (i + 1) (zB9 hd) (by simp only [List.length_cons] at hlen; omega) _ _ ?_ ?_ ?_ ?_
 · (simp (disch:=omega) [zA1,zA2,zBh,zBi,zA4,hg,hG])
 · exact fit_
 · exact om_
 · intro n' ty w6 g1 g2
   try dsimp only at g1
   have hnl:=nmR_le r
   have hlen1:=hlen
   simp only [List.length_cons] at hlen1
   have hcut:(s.take (i + 1 + nmR r)).drop i = (c :: r).take (1 + nmR r):=by rw [List.drop_take,hd]; congr 1; omega
   obtain ⟨e9,he9⟩:∃ e9,i + 1 + nmR r = e9:=⟨_,rfl⟩
   have hto9:((e9:Nat):Int).toNat = e9:=by omega
   simp only [he9] at hk hcut ⊢
   exact wQU1
theorem word_num (s:B8) (hs:s.length < 60000) (i:Nat) (c:UInt8) (r:B8) (hd:s.drop i = c :: r) (hlen:i + (c :: r).length = s.length) (t:Int) (hl:letB c = false) (hdg:digB c = true) (hne:¬ c.toNat = 46) (h:CHeap) (p d:Nat) (hf:Fit h) (hg:zA1 h.ents p = some (lx s (i:Int) 0 t)) (hp:p < h.next) (K:KT)
    (hk1:∀ n' ty (v len:Nat),h.next ≤ n' → zA9 ty n' → zK3 (c :: r) = .inr (v,len) → K (.agg [.int .i64 2,.str [],.int .u64 (v:Int),.int .i64 (i:Int)]) ⟨zA2 h.ents p (lx s ((i + len:Nat):Int) 0 t),n',ty⟩)
    (hk2:∀ n' ty (e:Nat) (j:Int),h.next ≤ n' → zA9 ty n' → zK3 (c :: r) = .inl e → K (.agg [.int .i64 0,.str [],.int .u64 0,.int .i64 0]) ⟨zA2 h.ents p (lx s j (e:Int) (i:Int)),n',ty⟩):Wc tree.getF 139 [.ptr p d 0] h K:=by
 obtain ⟨hu,hut,hX⟩:=fx4 hf
 have hY:=fx5 hf hg
 have hc0:=zB0 hd
 obtain ⟨hi,hce⟩:=List.getElem?_eq_some_iff.1 hc0
 have hcl:=c.toNat_lt
 have hine:¬ ((i:Int) = (s.length:Int)):=by omega
 have LF:=zB5 c
 have DF:=zBq c
 have hsl:(s.take (i + 1)).drop i = [c]:=by rw [List.drop_take,show i + 1 - i = 1 by omega,hd]; rfl
 have hto:((i:Int) + 1).toNat = i + 1:=by omega
 rw [hl] at LF
 rw [hdg] at DF
 refine mk_ 139 c139 (s_ ?_)
 have hZ:=j7_ hX hg hY hce hc0 hsl hto
 repeat (first | refine wk_ ?_ | (refine LF _ ?_ _ fun n1 tyn1 hn1 hun1 => ⟨rfl,?_⟩; exact fit_; (try dsimp only at hn1)) | (refine DF _ ?_ _ fun n1 tyn1 hn1 hun1 => ⟨rfl,?_⟩; exact fit_; (try dsimp only at hn1)))
 refine number_L s hs i c r hd hlen t _ p d ?_ ?_ ?_ _ (fun n1 ty1 v len h1 h2 e1 => ⟨rfl,?_⟩) (fun n1 ty1 e j h1 h2 e1 => ⟨rfl,?_⟩); exact fit_; exact ge_; exact om_; all_goals (try dsimp only at h1)
 · obtain ⟨e9,he9⟩:∃ e9,i + len = e9:=⟨_,rfl⟩
   replace hk1:=fun n' ty g1 g2 => hk1 n' ty v len g1 g2 e1
   simp only [he9] at hk1 ⊢
   exact wQU2
 · replace hk2:=fun n' ty g1 g2 => hk2 n' ty e j g1 g2 e1
   exact wQU3
theorem word_txt (s:B8) (hs:s.length < 60000) (i:Nat) (c:UInt8) (r:B8) (hd:s.drop i = c :: r) (hlen:i + (c :: r).length = s.length) (t:Int) (hl:letB c = false) (hdg:digB c = false) (hq:c.toNat = 34 ∨ c.toNat = 39) (h:CHeap) (p d:Nat) (hf:Fit h) (hg:zA1 h.ents p = some (lx s (i:Int) 0 t)) (hp:p < h.next) (K:KT)
    (hk1:∀ n' ty txt (k:Nat),h.next ≤ n' → zA9 ty n' → zBe c r [] (i + 1) = some (txt,k) → zB7 txt = true → K (.agg [.int .i64 3,.str txt,.int .u64 0,.int .i64 (i:Int)]) ⟨zA2 h.ents p (lx s (k:Int) 0 t),n',ty⟩)
    (hk2:∀ n' ty (j:Int),h.next ≤ n' → zA9 ty n' → (zBe c r [] (i + 1) = none ∨ ∃ txt k,zBe c r [] (i + 1) = some (txt,k) ∧ zB7 txt = false) → K (.agg [.int .i64 0,.str [],.int .u64 0,.int .i64 0]) ⟨zA2 h.ents p (lx s j 2 (i:Int)),n',ty⟩):Wc tree.getF 139 [.ptr p d 0] h K:=by
 obtain ⟨hu,hut,hX⟩:=fx4 hf
 have hY:=fx5 hf hg
 have hc0:=zB0 hd
 obtain ⟨hi,hce⟩:=List.getElem?_eq_some_iff.1 hc0
 have hcl:=c.toNat_lt
 have hine:¬ ((i:Int) = (s.length:Int)):=by omega
 have LF:=zB5 c
 have DF:=zBq c
 have hsl:(s.take (i + 1)).drop i = [c]:=by rw [List.drop_take,show i + 1 - i = 1 by omega,hd]; rfl
 have hto:((i:Int) + 1).toNat = i + 1:=by omega
 rw [hl] at LF
 rw [hdg] at DF
 rcases hq with hq | hq
 · refine mk_ 139 c139 ?_
   generalize e:zCq .. = r
   simp (disch:=omega) [hX,hg,hY] at e
   subst e
   have hZ:=j7_ hX hg hY hce hc0 hsl hto
   repeat (first | refine wk_ ?_ | (refine LF _ ?_ _ fun n1 tyn1 hn1 hun1 => ⟨rfl,?_⟩; exact fit_; (try dsimp only at hn1)) | (refine DF _ ?_ _ fun n1 tyn1 hn1 hun1 => ⟨rfl,?_⟩; exact fit_; (try dsimp only at hn1)))
   refine text_L zB7 valid_R s hs i c r hd hlen t _ p d ?_ ?_ ?_ _ (fun n1 ty1 txt k h1 h2 e1 e2 => ⟨rfl,?_⟩) (fun n1 ty1 j h1 h2 e1 => ⟨rfl,?_⟩); exact fit_; exact ge_; exact om_; all_goals (try dsimp only at h1)
   · replace hk1:=fun n' ty g1 g2 => hk1 n' ty txt k g1 g2 e1 e2
     exact wQU2
   · replace hk2:=fun n' ty g1 g2 => hk2 n' ty j g1 g2 e1
     exact wQU3
 · refine mk_ 139 c139 ?_
   generalize e:zCq .. = r
   simp (disch:=omega) [hX,hg,hY] at e
   subst e
   have hZ:=j7_ hX hg hY hce hc0 hsl hto
   repeat (first | refine wk_ ?_ | (refine LF _ ?_ _ fun n1 tyn1 hn1 hun1 => ⟨rfl,?_⟩; exact fit_; (try dsimp only at hn1)) | (refine DF _ ?_ _ fun n1 tyn1 hn1 hun1 => ⟨rfl,?_⟩; exact fit_; (try dsimp only at hn1)))
   refine text_L zB7 valid_R s hs i c r hd hlen t _ p d ?_ ?_ ?_ _ (fun n1 ty1 txt k h1 h2 e1 e2 => ⟨rfl,?_⟩) (fun n1 ty1 j h1 h2 e1 => ⟨rfl,?_⟩); exact fit_; exact ge_; exact om_; all_goals (try dsimp only at h1)
   · replace hk1:=fun n' ty g1 g2 => hk1 n' ty txt k g1 g2 e1 e2
     exact wQU2
   · replace hk2:=fun n' ty g1 g2 => hk2 n' ty j g1 g2 e1
     exact wQU3
theorem wQV1 {P:Prop} (h:P:=by refine mk_ 139 c139 (s_ ?_); repeat (first | refine st_ rfl ?_ | ((first | refine rg_ ?_ | refine go_ ?_); refine gw_ (by simp (disch:=omega) [hX,hg,hY,hce,hc0,hsl,hto,zL8,zLd,tn40,tn41,tn91,tn93,tn61,tn59,tn44,tn60,tn62,tn45,sg0,sg1,sg2,sg3,sg4,sg5,sg6,sg7,sg8,sg9,sg10,sg11]; rfl) ?_) | (refine W.loop ?_; try (generalize e:dropped .. = r; simp (disch:=omega) [hX,hg,hY,hce,hc0,hsl,hto,zL8,zLd,tn40,tn41,tn91,tn93,tn61,tn59,tn44,tn60,tn62,tn45,sg0,sg1,sg2,sg3,sg4,sg5,sg6,sg7,sg8,sg9,sg10,sg11] at e; subst e; try dsimp only)) | (refine LF _ ?_ _ fun n1 tyn1 hn1 hun1 => ⟨rfl,?_⟩; exact fit_; (try dsimp only at hn1)) | (refine DF _ ?_ _ fun n1 tyn1 hn1 hun1 => ⟨rfl,?_⟩; exact fit_; (try dsimp only at hn1)) | ((first | (refine W.ret ?_; (try simp only [zAd,zA3,zAb]); refine endW.of (.inl rfl) rfl ?_) | refine endW.of (.inr rfl) rfl ?_); generalize e:zB4 .. = r; simp (disch:=omega) [hX,hg,hY,hce,hc0,hsl,hto,zL8,zLd,tn40,tn41,tn91,tn93,tn61,tn59,tn44,tn60,tn62,tn45,sg0,sg1,sg2,sg3,sg4,sg5,sg6,sg7,sg8,sg9,sg10,sg11] at e; subst e; (refine hk _ _ ?_ ?_; omega; exact ut_)))):P:=h
theorem wQV2 {P:Prop} (h:P:=by refine mk_ 139 c139 (s_ ?_); repeat (first | refine st_ rfl ?_ | ((first | refine rg_ ?_ | refine go_ ?_); refine gw_ (by simp (disch:=omega) [hX,hg,hY,hce,hc0,hsl,hto,zL8,zLd,tn40,tn41,tn91,tn93,tn61,tn59,tn44,tn60,tn62,tn45,sg0,sg1,sg2,sg3,sg4,sg5,sg6,sg7,sg8,sg9,sg10,sg11]; rfl) ?_) | (refine W.loop ?_; try (generalize e:dropped .. = r; simp (disch:=omega) [hX,hg,hY,hce,hc0,hsl,hto,zL8,zLd,tn40,tn41,tn91,tn93,tn61,tn59,tn44,tn60,tn62,tn45,sg0,sg1,sg2,sg3,sg4,sg5,sg6,sg7,sg8,sg9,sg10,sg11] at e; subst e; try dsimp only)) | (refine LF _ ?_ _ fun n1 tyn1 hn1 hun1 => ⟨rfl,?_⟩; exact fit_; (try dsimp only at hn1)) | (refine B1 _ ?_ ?_ ?_ _ fun n1 tyn1 hn1 hun1 => ⟨rfl,?_⟩; exact fit_; exact ge_; exact om_; (try dsimp only at hn1)) | (refine LX _ ?_ _ fun n1 tyn1 hn1 hun1 => ⟨rfl,?_⟩; exact fit_; (try dsimp only at hn1)) | (refine DF _ ?_ _ fun n1 tyn1 hn1 hun1 => ⟨rfl,?_⟩; exact fit_; (try dsimp only at hn1)) | (refine zEc s (i:Int) 0 t _ _ _ p d ?_ ?_ ?_ _ fun n3 tyn3 hn3 hun3 => ⟨rfl,?_⟩; exact fit_; exact ge_; exact om_; (try dsimp only at hn3)) | ((first | (refine W.ret ?_; (try simp only [zAd,zA3,zAb]); refine endW.of (.inl rfl) rfl ?_) | refine endW.of (.inr rfl) rfl ?_); generalize e:zB4 .. = r; simp (disch:=omega) [hX,hg,hY,hce,hc0,hsl,hto,zL8,zLd,tn40,tn41,tn91,tn93,tn61,tn59,tn44,tn60,tn62,tn45,sg0,sg1,sg2,sg3,sg4,sg5,sg6,sg7,sg8,sg9,sg10,sg11] at e; subst e; (refine hk _ _ ?_ ?_; omega; exact ut_)))):P:=h
theorem zL8:UInt8.toNat 123 = 123:=rfl
theorem zLd:UInt8.toNat 125 = 125:=rfl
theorem tn40:UInt8.toNat 40 = 40:=rfl
theorem tn41:UInt8.toNat 41 = 41:=rfl
theorem tn91:UInt8.toNat 91 = 91:=rfl
theorem tn93:UInt8.toNat 93 = 93:=rfl
theorem tn61:UInt8.toNat 61 = 61:=rfl
theorem tn59:UInt8.toNat 59 = 59:=rfl
theorem tn44:UInt8.toNat 44 = 44:=rfl
theorem tn60:UInt8.toNat 60 = 60:=rfl
theorem tn62:UInt8.toNat 62 = 62:=rfl
theorem tn45:UInt8.toNat 45 = 45:=rfl
theorem sg0:([123,125,40,41,91,93,61,59,44,60,62,45]:B8)[0]? = some 123:=rfl
theorem sg1:([125,40,41,91,93,61,59,44,60,62,45]:B8)[0]? = some 125:=rfl
theorem sg2:([40,41,91,93,61,59,44,60,62,45]:B8)[0]? = some 40:=rfl
theorem sg3:([41,91,93,61,59,44,60,62,45]:B8)[0]? = some 41:=rfl
theorem sg4:([91,93,61,59,44,60,62,45]:B8)[0]? = some 91:=rfl
theorem sg5:([93,61,59,44,60,62,45]:B8)[0]? = some 93:=rfl
theorem sg6:([61,59,44,60,62,45]:B8)[0]? = some 61:=rfl
theorem sg7:([59,44,60,62,45]:B8)[0]? = some 59:=rfl
theorem sg8:([44,60,62,45]:B8)[0]? = some 44:=rfl
theorem sg9:([60,62,45]:B8)[0]? = some 60:=rfl
theorem sg10:([62,45]:B8)[0]? = some 62:=rfl
theorem sg11:([45]:B8)[0]? = some 45:=rfl
theorem word_s123 (s:B8) (hs:s.length < 60000) (i:Nat) (c:UInt8) (r:B8) (hd:s.drop i = c :: r) (hlen:i + (c :: r).length = s.length) (t:Int) (hl:letB c = false) (hdg:digB c = false) (hcg:c.toNat = 123) (h:CHeap) (p d:Nat) (hf:Fit h) (hg:zA1 h.ents p = some (lx s (i:Int) 0 t)) (hp:p < h.next) (K:KT) (hk:∀ n' ty,h.next ≤ n' → zA9 ty n' → K (.agg [.int .i64 4,.str [c],.int .u64 0,.int .i64 (i:Int)]) ⟨zA2 h.ents p (lx s ((i + 1:Nat):Int) 0 t),n',ty⟩):Wc tree.getF 139 [.ptr p d 0] h K:=by
 obtain ⟨hu,hut,hX⟩:=fx4 hf
 have hY:=fx5 hf hg
 have hc0:=zB0 hd
 obtain ⟨hi,hce⟩:=List.getElem?_eq_some_iff.1 hc0
 have hcl:=c.toNat_lt
 have hine:¬ ((i:Int) = (s.length:Int)):=by omega
 have LF:=zB5 c
 have DF:=zBq c
 have hsl:(s.take (i + 1)).drop i = [c]:=by rw [List.drop_take,show i + 1 - i = 1 by omega,hd]; rfl
 have hto:((i:Int) + 1).toNat = i + 1:=by omega
 rw [hl] at LF
 rw [hdg] at DF
 have e1:((i + 1:Nat):Int) = (i:Int) + 1:=by omega
 rw [e1] at hk
 exact wQV1
theorem word_s125 (s:B8) (hs:s.length < 60000) (i:Nat) (c:UInt8) (r:B8) (hd:s.drop i = c :: r) (hlen:i + (c :: r).length = s.length) (t:Int) (hl:letB c = false) (hdg:digB c = false) (hcg:c.toNat = 125) (h:CHeap) (p d:Nat) (hf:Fit h) (hg:zA1 h.ents p = some (lx s (i:Int) 0 t)) (hp:p < h.next) (K:KT) (hk:∀ n' ty,h.next ≤ n' → zA9 ty n' → K (.agg [.int .i64 4,.str [c],.int .u64 0,.int .i64 (i:Int)]) ⟨zA2 h.ents p (lx s ((i + 1:Nat):Int) 0 t),n',ty⟩):Wc tree.getF 139 [.ptr p d 0] h K:=by
 obtain ⟨hu,hut,hX⟩:=fx4 hf
 have hY:=fx5 hf hg
 have hc0:=zB0 hd
 obtain ⟨hi,hce⟩:=List.getElem?_eq_some_iff.1 hc0
 have hcl:=c.toNat_lt
 have hine:¬ ((i:Int) = (s.length:Int)):=by omega
 have LF:=zB5 c
 have DF:=zBq c
 have hsl:(s.take (i + 1)).drop i = [c]:=by rw [List.drop_take,show i + 1 - i = 1 by omega,hd]; rfl
 have hto:((i:Int) + 1).toNat = i + 1:=by omega
 rw [hl] at LF
 rw [hdg] at DF
 have e1:((i + 1:Nat):Int) = (i:Int) + 1:=by omega
 rw [e1] at hk
 exact wQV1
theorem word_s40 (s:B8) (hs:s.length < 60000) (i:Nat) (c:UInt8) (r:B8) (hd:s.drop i = c :: r) (hlen:i + (c :: r).length = s.length) (t:Int) (hl:letB c = false) (hdg:digB c = false) (hcg:c.toNat = 40) (h:CHeap) (p d:Nat) (hf:Fit h) (hg:zA1 h.ents p = some (lx s (i:Int) 0 t)) (hp:p < h.next) (K:KT) (hk:∀ n' ty,h.next ≤ n' → zA9 ty n' → K (.agg [.int .i64 4,.str [c],.int .u64 0,.int .i64 (i:Int)]) ⟨zA2 h.ents p (lx s ((i + 1:Nat):Int) 0 t),n',ty⟩):Wc tree.getF 139 [.ptr p d 0] h K:=by
 obtain ⟨hu,hut,hX⟩:=fx4 hf
 have hY:=fx5 hf hg
 have hc0:=zB0 hd
 obtain ⟨hi,hce⟩:=List.getElem?_eq_some_iff.1 hc0
 have hcl:=c.toNat_lt
 have hine:¬ ((i:Int) = (s.length:Int)):=by omega
 have LF:=zB5 c
 have DF:=zBq c
 have hsl:(s.take (i + 1)).drop i = [c]:=by rw [List.drop_take,show i + 1 - i = 1 by omega,hd]; rfl
 have hto:((i:Int) + 1).toNat = i + 1:=by omega
 rw [hl] at LF
 rw [hdg] at DF
 have e1:((i + 1:Nat):Int) = (i:Int) + 1:=by omega
 rw [e1] at hk
 exact wQV1
theorem word_s41 (s:B8) (hs:s.length < 60000) (i:Nat) (c:UInt8) (r:B8) (hd:s.drop i = c :: r) (hlen:i + (c :: r).length = s.length) (t:Int) (hl:letB c = false) (hdg:digB c = false) (hcg:c.toNat = 41) (h:CHeap) (p d:Nat) (hf:Fit h) (hg:zA1 h.ents p = some (lx s (i:Int) 0 t)) (hp:p < h.next) (K:KT) (hk:∀ n' ty,h.next ≤ n' → zA9 ty n' → K (.agg [.int .i64 4,.str [c],.int .u64 0,.int .i64 (i:Int)]) ⟨zA2 h.ents p (lx s ((i + 1:Nat):Int) 0 t),n',ty⟩):Wc tree.getF 139 [.ptr p d 0] h K:=by
 obtain ⟨hu,hut,hX⟩:=fx4 hf
 have hY:=fx5 hf hg
 have hc0:=zB0 hd
 obtain ⟨hi,hce⟩:=List.getElem?_eq_some_iff.1 hc0
 have hcl:=c.toNat_lt
 have hine:¬ ((i:Int) = (s.length:Int)):=by omega
 have LF:=zB5 c
 have DF:=zBq c
 have hsl:(s.take (i + 1)).drop i = [c]:=by rw [List.drop_take,show i + 1 - i = 1 by omega,hd]; rfl
 have hto:((i:Int) + 1).toNat = i + 1:=by omega
 rw [hl] at LF
 rw [hdg] at DF
 have e1:((i + 1:Nat):Int) = (i:Int) + 1:=by omega
 rw [e1] at hk
 exact wQV1
theorem word_s91 (s:B8) (hs:s.length < 60000) (i:Nat) (c:UInt8) (r:B8) (hd:s.drop i = c :: r) (hlen:i + (c :: r).length = s.length) (t:Int) (hl:letB c = false) (hdg:digB c = false) (hcg:c.toNat = 91) (h:CHeap) (p d:Nat) (hf:Fit h) (hg:zA1 h.ents p = some (lx s (i:Int) 0 t)) (hp:p < h.next) (K:KT) (hk:∀ n' ty,h.next ≤ n' → zA9 ty n' → K (.agg [.int .i64 4,.str [c],.int .u64 0,.int .i64 (i:Int)]) ⟨zA2 h.ents p (lx s ((i + 1:Nat):Int) 0 t),n',ty⟩):Wc tree.getF 139 [.ptr p d 0] h K:=by
 obtain ⟨hu,hut,hX⟩:=fx4 hf
 have hY:=fx5 hf hg
 have hc0:=zB0 hd
 obtain ⟨hi,hce⟩:=List.getElem?_eq_some_iff.1 hc0
 have hcl:=c.toNat_lt
 have hine:¬ ((i:Int) = (s.length:Int)):=by omega
 have LF:=zB5 c
 have DF:=zBq c
 have hsl:(s.take (i + 1)).drop i = [c]:=by rw [List.drop_take,show i + 1 - i = 1 by omega,hd]; rfl
 have hto:((i:Int) + 1).toNat = i + 1:=by omega
 rw [hl] at LF
 rw [hdg] at DF
 have e1:((i + 1:Nat):Int) = (i:Int) + 1:=by omega
 rw [e1] at hk
 exact wQV1
theorem word_s93 (s:B8) (hs:s.length < 60000) (i:Nat) (c:UInt8) (r:B8) (hd:s.drop i = c :: r) (hlen:i + (c :: r).length = s.length) (t:Int) (hl:letB c = false) (hdg:digB c = false) (hcg:c.toNat = 93) (h:CHeap) (p d:Nat) (hf:Fit h) (hg:zA1 h.ents p = some (lx s (i:Int) 0 t)) (hp:p < h.next) (K:KT) (hk:∀ n' ty,h.next ≤ n' → zA9 ty n' → K (.agg [.int .i64 4,.str [c],.int .u64 0,.int .i64 (i:Int)]) ⟨zA2 h.ents p (lx s ((i + 1:Nat):Int) 0 t),n',ty⟩):Wc tree.getF 139 [.ptr p d 0] h K:=by
 obtain ⟨hu,hut,hX⟩:=fx4 hf
 have hY:=fx5 hf hg
 have hc0:=zB0 hd
 obtain ⟨hi,hce⟩:=List.getElem?_eq_some_iff.1 hc0
 have hcl:=c.toNat_lt
 have hine:¬ ((i:Int) = (s.length:Int)):=by omega
 have LF:=zB5 c
 have DF:=zBq c
 have hsl:(s.take (i + 1)).drop i = [c]:=by rw [List.drop_take,show i + 1 - i = 1 by omega,hd]; rfl
 have hto:((i:Int) + 1).toNat = i + 1:=by omega
 rw [hl] at LF
 rw [hdg] at DF
 have e1:((i + 1:Nat):Int) = (i:Int) + 1:=by omega
 rw [e1] at hk
 exact wQV1
theorem word_s61 (s:B8) (hs:s.length < 60000) (i:Nat) (c:UInt8) (r:B8) (hd:s.drop i = c :: r) (hlen:i + (c :: r).length = s.length) (t:Int) (hl:letB c = false) (hdg:digB c = false) (hcg:c.toNat = 61) (h:CHeap) (p d:Nat) (hf:Fit h) (hg:zA1 h.ents p = some (lx s (i:Int) 0 t)) (hp:p < h.next) (K:KT) (hk:∀ n' ty,h.next ≤ n' → zA9 ty n' → K (.agg [.int .i64 4,.str [c],.int .u64 0,.int .i64 (i:Int)]) ⟨zA2 h.ents p (lx s ((i + 1:Nat):Int) 0 t),n',ty⟩):Wc tree.getF 139 [.ptr p d 0] h K:=by
 obtain ⟨hu,hut,hX⟩:=fx4 hf
 have hY:=fx5 hf hg
 have hc0:=zB0 hd
 obtain ⟨hi,hce⟩:=List.getElem?_eq_some_iff.1 hc0
 have hcl:=c.toNat_lt
 have hine:¬ ((i:Int) = (s.length:Int)):=by omega
 have LF:=zB5 c
 have DF:=zBq c
 have hsl:(s.take (i + 1)).drop i = [c]:=by rw [List.drop_take,show i + 1 - i = 1 by omega,hd]; rfl
 have hto:((i:Int) + 1).toNat = i + 1:=by omega
 rw [hl] at LF
 rw [hdg] at DF
 have e1:((i + 1:Nat):Int) = (i:Int) + 1:=by omega
 rw [e1] at hk
 exact wQV1
theorem word_s59 (s:B8) (hs:s.length < 60000) (i:Nat) (c:UInt8) (r:B8) (hd:s.drop i = c :: r) (hlen:i + (c :: r).length = s.length) (t:Int) (hl:letB c = false) (hdg:digB c = false) (hcg:c.toNat = 59) (h:CHeap) (p d:Nat) (hf:Fit h) (hg:zA1 h.ents p = some (lx s (i:Int) 0 t)) (hp:p < h.next) (K:KT) (hk:∀ n' ty,h.next ≤ n' → zA9 ty n' → K (.agg [.int .i64 4,.str [c],.int .u64 0,.int .i64 (i:Int)]) ⟨zA2 h.ents p (lx s ((i + 1:Nat):Int) 0 t),n',ty⟩):Wc tree.getF 139 [.ptr p d 0] h K:=by
 obtain ⟨hu,hut,hX⟩:=fx4 hf
 have hY:=fx5 hf hg
 have hc0:=zB0 hd
 obtain ⟨hi,hce⟩:=List.getElem?_eq_some_iff.1 hc0
 have hcl:=c.toNat_lt
 have hine:¬ ((i:Int) = (s.length:Int)):=by omega
 have LF:=zB5 c
 have DF:=zBq c
 have hsl:(s.take (i + 1)).drop i = [c]:=by rw [List.drop_take,show i + 1 - i = 1 by omega,hd]; rfl
 have hto:((i:Int) + 1).toNat = i + 1:=by omega
 rw [hl] at LF
 rw [hdg] at DF
 have e1:((i + 1:Nat):Int) = (i:Int) + 1:=by omega
 rw [e1] at hk
 exact wQV1
theorem word_s44 (s:B8) (hs:s.length < 60000) (i:Nat) (c:UInt8) (r:B8) (hd:s.drop i = c :: r) (hlen:i + (c :: r).length = s.length) (t:Int) (hl:letB c = false) (hdg:digB c = false) (hcg:c.toNat = 44) (h:CHeap) (p d:Nat) (hf:Fit h) (hg:zA1 h.ents p = some (lx s (i:Int) 0 t)) (hp:p < h.next) (K:KT) (hk:∀ n' ty,h.next ≤ n' → zA9 ty n' → K (.agg [.int .i64 4,.str [c],.int .u64 0,.int .i64 (i:Int)]) ⟨zA2 h.ents p (lx s ((i + 1:Nat):Int) 0 t),n',ty⟩):Wc tree.getF 139 [.ptr p d 0] h K:=by
 obtain ⟨hu,hut,hX⟩:=fx4 hf
 have hY:=fx5 hf hg
 have hc0:=zB0 hd
 obtain ⟨hi,hce⟩:=List.getElem?_eq_some_iff.1 hc0
 have hcl:=c.toNat_lt
 have hine:¬ ((i:Int) = (s.length:Int)):=by omega
 have LF:=zB5 c
 have DF:=zBq c
 have hsl:(s.take (i + 1)).drop i = [c]:=by rw [List.drop_take,show i + 1 - i = 1 by omega,hd]; rfl
 have hto:((i:Int) + 1).toNat = i + 1:=by omega
 rw [hl] at LF
 rw [hdg] at DF
 have e1:((i + 1:Nat):Int) = (i:Int) + 1:=by omega
 rw [e1] at hk
 exact wQV1
theorem word_s60 (s:B8) (hs:s.length < 60000) (i:Nat) (c:UInt8) (r:B8) (hd:s.drop i = c :: r) (hlen:i + (c :: r).length = s.length) (t:Int) (hl:letB c = false) (hdg:digB c = false) (hcg:c.toNat = 60) (h:CHeap) (p d:Nat) (hf:Fit h) (hg:zA1 h.ents p = some (lx s (i:Int) 0 t)) (hp:p < h.next) (K:KT) (hk:∀ n' ty,h.next ≤ n' → zA9 ty n' → K (.agg [.int .i64 4,.str [c],.int .u64 0,.int .i64 (i:Int)]) ⟨zA2 h.ents p (lx s ((i + 1:Nat):Int) 0 t),n',ty⟩):Wc tree.getF 139 [.ptr p d 0] h K:=by
 obtain ⟨hu,hut,hX⟩:=fx4 hf
 have hY:=fx5 hf hg
 have hc0:=zB0 hd
 obtain ⟨hi,hce⟩:=List.getElem?_eq_some_iff.1 hc0
 have hcl:=c.toNat_lt
 have hine:¬ ((i:Int) = (s.length:Int)):=by omega
 have LF:=zB5 c
 have DF:=zBq c
 have hsl:(s.take (i + 1)).drop i = [c]:=by rw [List.drop_take,show i + 1 - i = 1 by omega,hd]; rfl
 have hto:((i:Int) + 1).toNat = i + 1:=by omega
 rw [hl] at LF
 rw [hdg] at DF
 have e1:((i + 1:Nat):Int) = (i:Int) + 1:=by omega
 rw [e1] at hk
 exact wQV1
theorem word_s62 (s:B8) (hs:s.length < 60000) (i:Nat) (c:UInt8) (r:B8) (hd:s.drop i = c :: r) (hlen:i + (c :: r).length = s.length) (t:Int) (hl:letB c = false) (hdg:digB c = false) (hcg:c.toNat = 62) (h:CHeap) (p d:Nat) (hf:Fit h) (hg:zA1 h.ents p = some (lx s (i:Int) 0 t)) (hp:p < h.next) (K:KT) (hk:∀ n' ty,h.next ≤ n' → zA9 ty n' → K (.agg [.int .i64 4,.str [c],.int .u64 0,.int .i64 (i:Int)]) ⟨zA2 h.ents p (lx s ((i + 1:Nat):Int) 0 t),n',ty⟩):Wc tree.getF 139 [.ptr p d 0] h K:=by
 obtain ⟨hu,hut,hX⟩:=fx4 hf
 have hY:=fx5 hf hg
 have hc0:=zB0 hd
 obtain ⟨hi,hce⟩:=List.getElem?_eq_some_iff.1 hc0
 have hcl:=c.toNat_lt
 have hine:¬ ((i:Int) = (s.length:Int)):=by omega
 have LF:=zB5 c
 have DF:=zBq c
 have hsl:(s.take (i + 1)).drop i = [c]:=by rw [List.drop_take,show i + 1 - i = 1 by omega,hd]; rfl
 have hto:((i:Int) + 1).toNat = i + 1:=by omega
 rw [hl] at LF
 rw [hdg] at DF
 have e1:((i + 1:Nat):Int) = (i:Int) + 1:=by omega
 rw [e1] at hk
 exact wQV1
theorem word_s45 (s:B8) (hs:s.length < 60000) (i:Nat) (c:UInt8) (r:B8) (hd:s.drop i = c :: r) (hlen:i + (c :: r).length = s.length) (t:Int) (hl:letB c = false) (hdg:digB c = false) (hcg:c.toNat = 45) (h:CHeap) (p d:Nat) (hf:Fit h) (hg:zA1 h.ents p = some (lx s (i:Int) 0 t)) (hp:p < h.next) (K:KT) (hk:∀ n' ty,h.next ≤ n' → zA9 ty n' → K (.agg [.int .i64 4,.str [c],.int .u64 0,.int .i64 (i:Int)]) ⟨zA2 h.ents p (lx s ((i + 1:Nat):Int) 0 t),n',ty⟩):Wc tree.getF 139 [.ptr p d 0] h K:=by
 obtain ⟨hu,hut,hX⟩:=fx4 hf
 have hY:=fx5 hf hg
 have hc0:=zB0 hd
 obtain ⟨hi,hce⟩:=List.getElem?_eq_some_iff.1 hc0
 have hcl:=c.toNat_lt
 have hine:¬ ((i:Int) = (s.length:Int)):=by omega
 have LF:=zB5 c
 have DF:=zBq c
 have hsl:(s.take (i + 1)).drop i = [c]:=by rw [List.drop_take,show i + 1 - i = 1 by omega,hd]; rfl
 have hto:((i:Int) + 1).toNat = i + 1:=by omega
 rw [hl] at LF
 rw [hdg] at DF
 have e1:((i + 1:Nat):Int) = (i:Int) + 1:=by omega
 rw [e1] at hk
 exact wQV1
theorem word_bad (s:B8) (hs:s.length < 60000) (i:Nat) (c:UInt8) (r:B8) (hd:s.drop i = c :: r) (hlen:i + (c :: r).length = s.length) (t:Int) (hl:letB c = false) (hdg:digB c = false) (hno:¬ (c.toNat = 34 ∨ c.toNat = 39 ∨ c.toNat = 123 ∨ c.toNat = 125 ∨ c.toNat = 40 ∨ c.toNat = 41 ∨ c.toNat = 91 ∨ c.toNat = 93 ∨ c.toNat = 61 ∨ c.toNat = 59 ∨ c.toNat = 44 ∨ c.toNat = 60 ∨ c.toNat = 62 ∨ c.toNat = 45)) (hne:¬ c.toNat = 46) (h:CHeap) (p d:Nat) (hf:Fit h) (hg:zA1 h.ents p = some (lx s (i:Int) 0 t)) (hp:p < h.next) (K:KT) (hk:∀ n' ty,h.next ≤ n' → zA9 ty n' → K (.agg [.int .i64 0,.str [],.int .u64 0,.int .i64 0]) ⟨zA2 h.ents p (lx s (i:Int) 2 (i:Int)),n',ty⟩):Wc tree.getF 139 [.ptr p d 0] h K:=by
 obtain ⟨hu,hut,hX⟩:=fx4 hf
 have hY:=fx5 hf hg
 have hc0:=zB0 hd
 obtain ⟨hi,hce⟩:=List.getElem?_eq_some_iff.1 hc0
 have hcl:=c.toNat_lt
 have hine:¬ ((i:Int) = (s.length:Int)):=by omega
 have LF:=zB5 c
 have DF:=zBq c
 have hsl:(s.take (i + 1)).drop i = [c]:=by rw [List.drop_take,show i + 1 - i = 1 by omega,hd]; rfl
 have hto:((i:Int) + 1).toNat = i + 1:=by omega
 rw [hl] at LF
 rw [hdg] at DF
 refine mk_ 139 c139 (s_ ?_)
 repeat (first | refine st_ rfl ?_ | ((first | refine rg_ ?_ | refine go_ ?_); refine gw_ (by simp (disch:=omega) [hX,hg,hY,hce,hc0,hsl,hto,zL8,zLd,tn40,tn41,tn91,tn93,tn61,tn59,tn44,tn60,tn62,tn45,sg0,sg1,sg2,sg3,sg4,sg5,sg6,sg7,sg8,sg9,sg10,sg11]; rfl) ?_) | (refine W.loop ?_; try (generalize e:dropped .. = r; simp (disch:=omega) [hX,hg,hY,hce,hc0,hsl,hto,zL8,zLd,tn40,tn41,tn91,tn93,tn61,tn59,tn44,tn60,tn62,tn45,sg0,sg1,sg2,sg3,sg4,sg5,sg6,sg7,sg8,sg9,sg10,sg11] at e; subst e; try dsimp only)) | (refine LF _ ?_ _ fun n1 tyn1 hn1 hun1 => ⟨rfl,?_⟩; exact fit_; (try dsimp only at hn1)) | (refine DF _ ?_ _ fun n1 tyn1 hn1 hun1 => ⟨rfl,?_⟩; exact fit_; (try dsimp only at hn1)) | (refine zEc s (i:Int) 0 t _ _ _ p d ?_ ?_ ?_ _ fun n3 tyn3 hn3 hun3 => ⟨rfl,?_⟩; exact fit_; exact ge_; exact om_; (try dsimp only at hn3)) | ((first | (refine W.ret ?_; (try simp only [zAd,zA3,zAb]); refine endW.of (.inl rfl) rfl ?_) | refine endW.of (.inr rfl) rfl ?_); generalize e:zB4 .. = r; simp (disch:=omega) [hX,hg,hY,hce,hc0,hsl,hto,zL8,zLd,tn40,tn41,tn91,tn93,tn61,tn59,tn44,tn60,tn62,tn45,sg0,sg1,sg2,sg3,sg4,sg5,sg6,sg7,sg8,sg9,sg10,sg11] at e; subst e; (refine hk _ _ ?_ ?_; omega; exact ut_)))
theorem word_dot0 (s:B8) (hs:s.length < 60000) (i:Nat) (c:UInt8) (r:B8) (hr:r = []) (hd:s.drop i = c :: r) (hlen:i + (c :: r).length = s.length) (t:Int) (hl:letB c = false) (hdg:digB c = false) (hno:¬ (c.toNat = 34 ∨ c.toNat = 39 ∨ c.toNat = 123 ∨ c.toNat = 125 ∨ c.toNat = 40 ∨ c.toNat = 41 ∨ c.toNat = 91 ∨ c.toNat = 93 ∨ c.toNat = 61 ∨ c.toNat = 59 ∨ c.toNat = 44 ∨ c.toNat = 60 ∨ c.toNat = 62 ∨ c.toNat = 45)) (h46:c.toNat = 46) (h:CHeap) (p d:Nat) (hf:Fit h) (hg:zA1 h.ents p = some (lx s (i:Int) 0 t)) (hp:p < h.next) (K:KT) (hk:∀ n' ty,h.next ≤ n' → zA9 ty n' → K (.agg [.int .i64 0,.str [],.int .u64 0,.int .i64 0]) ⟨zA2 h.ents p (lx s (i:Int) 2 (i:Int)),n',ty⟩):Wc tree.getF 139 [.ptr p d 0] h K:=by
 obtain ⟨hu,hut,hX⟩:=fx4 hf
 have hY:=fx5 hf hg
 have hc0:=zB0 hd
 obtain ⟨hi,hce⟩:=List.getElem?_eq_some_iff.1 hc0
 have hcl:=c.toNat_lt
 have hine:¬ ((i:Int) = (s.length:Int)):=by omega
 have LF:=zB5 c
 have DF:=zBq c
 have hsl:(s.take (i + 1)).drop i = [c]:=by rw [List.drop_take,show i + 1 - i = 1 by omega,hd]; rfl
 have hto:((i:Int) + 1).toNat = i + 1:=by omega
 have hlen1:i + 1 = s.length:=by rw [hr] at hlen; simpa using hlen
 have B1:∀ (h:CHeap) (hf:Fit h) (hg:zA1 h.ents p = some (lx s (i:Int) 0 t)) (hp:p < h.next) (K:KT) (hk:∀ n' ty,h.next ≤ n' → zA9 ty n' → K (.int .u8 0) ⟨h.ents,n',ty⟩),Wc tree.getF 189 [.ptr p d 0,.int .i64 1] h K:=fun h hf hg hp K hk => zJu s i 1 0 t hs (by omega) (by omega) (by omega) h p d hf hg hp K hk
 rw [hl] at LF
 rw [hdg] at DF
 have LX:=zIv
 exact wQV2
theorem word_dotn (s:B8) (hs:s.length < 60000) (i:Nat) (c x:UInt8) (r0 r:B8) (hr:r = x :: r0) (hd:s.drop i = c :: r) (hlen:i + (c :: r).length = s.length) (t:Int) (hl:letB c = false) (hdg:digB c = false) (hno:¬ (c.toNat = 34 ∨ c.toNat = 39 ∨ c.toNat = 123 ∨ c.toNat = 125 ∨ c.toNat = 40 ∨ c.toNat = 41 ∨ c.toNat = 91 ∨ c.toNat = 93 ∨ c.toNat = 61 ∨ c.toNat = 59 ∨ c.toNat = 44 ∨ c.toNat = 60 ∨ c.toNat = 62 ∨ c.toNat = 45)) (h46:c.toNat = 46) (hx:letB x = false) (h:CHeap) (p d:Nat) (hf:Fit h) (hg:zA1 h.ents p = some (lx s (i:Int) 0 t)) (hp:p < h.next) (K:KT) (hk:∀ n' ty,h.next ≤ n' → zA9 ty n' → K (.agg [.int .i64 0,.str [],.int .u64 0,.int .i64 0]) ⟨zA2 h.ents p (lx s (i:Int) 2 (i:Int)),n',ty⟩):Wc tree.getF 139 [.ptr p d 0] h K:=by
 obtain ⟨hu,hut,hX⟩:=fx4 hf
 have hY:=fx5 hf hg
 have hc0:=zB0 hd
 obtain ⟨hi,hce⟩:=List.getElem?_eq_some_iff.1 hc0
 have hcl:=c.toNat_lt
 have hine:¬ ((i:Int) = (s.length:Int)):=by omega
 have LF:=zB5 c
 have DF:=zBq c
 have hsl:(s.take (i + 1)).drop i = [c]:=by rw [List.drop_take,show i + 1 - i = 1 by omega,hd]; rfl
 have hto:((i:Int) + 1).toNat = i + 1:=by omega
 have hx1:s[i + 1]? = some x:=by have:=zB9 hd; rw [hr] at this; exact zB0 this
 have B1:∀ (h:CHeap) (hf:Fit h) (hg:zA1 h.ents p = some (lx s (i:Int) 0 t)) (hp:p < h.next) (K:KT) (hk:∀ n' ty,h.next ≤ n' → zA9 ty n' → K (.int .u8 (x.toNat:Int)) ⟨h.ents,n',ty⟩),Wc tree.getF 189 [.ptr p d 0,.int .i64 1] h K:=fun h hf hg hp K hk => zId s i 1 0 t x hs (by omega) hx1 h p d hf hg hp K hk
 have LX:=zB5 x
 rw [hl] at LF
 rw [hdg] at DF
 rw [hx] at LX
 exact wQV2
theorem dig_eq (c:UInt8):D10.contains c = digB c:=by
 have:=zDn (p:=fun c => D10.contains c == digB c) (by decide +kernel) c
 simpa using this
theorem eq_of_n {c:UInt8} {n:Nat} (hn:n < 256) (h:c.toNat = n):c = UInt8.ofNat n:=by
 apply UInt8.toNat_inj.1
 rw [h,UInt8.toNat_ofNat',Nat.mod_eq_of_lt hn]
theorem nameF_let (c:UInt8) (r:B8) (h:letB c = true):zE8 (c :: r) = 1 + nmR r:=by
 have h46:¬ c = 46:=by intro e; subst e; exact absurd h (by decide)
 have hw:zEv (c :: r) = (fr zB2 (c :: r)).length:=by rw [zFz,if_pos h]
 have hf:fr zB2 (c :: r) = c :: fr zB2 r:=by unfold fr; rw [List.takeWhile_cons,if_pos (by rw [nam_eq,h]; rfl)]
 simp only [zE8]
 rw [if_neg h46,hw,if_neg (by rw [hf]; simp),nmR_eq _ r (Nat.le_refl _),drop_bk]
 have:bk zB2 (c :: r) = bk zB2 r:=by unfold bk; rw [List.dropWhile_cons,if_pos (by rw [nam_eq,h]; rfl)]
 rw [this,hf,List.length_cons]
 omega
theorem nameF_dot (x:UInt8) (r:B8) (h:letB x = true):zE8 (46 :: x :: r) = 1 + nmR (x :: r):=by
 have hw:zEv (x :: r) = (fr zB2 (x :: r)).length:=by rw [zFz,if_pos h]
 have h1:=nam_fr (r:=r) h
 simp only [zE8]
 rw [if_pos trivial,zHa,if_pos rfl,hw,if_neg (by omega),nmR_eq _ (x :: r) (Nat.le_refl _),drop_bk]
 omega
theorem zKl (r:B8) (h:letB (r.headD 0) = false):zE8 (46 :: r) = 0:=by
 simp only [zE8]
 have hw:zEv r = 0:=by rw [zKe,h]; rfl
 rw [if_pos trivial,zHa,if_pos rfl,hw,if_pos rfl]
theorem nameF_no (c:UInt8) (r:B8) (h:letB c = false) (h46:¬ c.toNat = 46):zE8 (c :: r) = 0:=by
 simp only [zE8]
 have hw:zEv (c :: r) = 0:=by rw [zFz,h]; rfl
 rw [if_neg (fun e => h46 (by rw [e]; rfl)),hw,if_pos rfl]
theorem zKj (v:B8 → Bool) (c:UInt8) (r:B8) (n:Nat) (h:zE8 (c :: r) = n + 1):zCm v (c :: r) = .tok 1 ((c :: r).take (n + 1)) 0 (n + 1):=by
 simp only [zCm]
 rw [h,if_pos (by omega)]
theorem wordW_num (v:B8 → Bool) (c:UInt8) (r:B8) (h:zE8 (c :: r) = 0) (hd:digB c = true):zCm v (c :: r) = numW (c :: r):=by
 simp only [zCm]
 rw [h,if_neg (by omega),if_pos (by rw [dig_eq]; exact hd)]
theorem wordW_txt (v : B8 → Bool) (c : UInt8) (r : B8) (h : zE8 (c :: r) = 0) (hd : digB c = false) (hq : c = 34 ∨ c = 39) : zCm v (c :: r) = match zBe c r [] 0 with
      | none => .err 2
      | some (t,k) => if v t then .tok 3 t 0 (k + 1) else .err 2:=by
 simp only [zCm]
 rw [h,if_neg (by omega),if_neg (by rw [dig_eq,hd]; decide),if_pos hq]
 cases zBe c r [] 0 <;> rfl
theorem wordW_sign (v:B8 → Bool) (c:UInt8) (r:B8) (h:zE8 (c :: r) = 0) (hd:digB c = false) (hq:¬ (c = 34 ∨ c = 39)) (hg:zIi.contains c = true):zCm v (c :: r) = .tok 4 [c] 0 1:=by
 simp only [zCm]
 rw [h,if_neg (by omega),if_neg (by rw [dig_eq,hd]; decide),if_neg hq,if_pos hg]
theorem wordW_bad (v:B8 → Bool) (c:UInt8) (r:B8) (h:zE8 (c :: r) = 0) (hd:digB c = false) (hq:¬ (c = 34 ∨ c = 39)) (hg:zIi.contains c = false):zCm v (c :: r) = .err 2:=by
 simp only [zCm]
 rw [h,if_neg (by omega),if_neg (by rw [dig_eq,hd]; decide),if_neg hq,if_neg (by rw [hg]; decide)]
theorem zLe (c:UInt8):zIi.contains c = true ↔ (c.toNat = 123 ∨ c.toNat = 125 ∨ c.toNat = 40 ∨ c.toNat = 41 ∨ c.toNat = 91 ∨ c.toNat = 93 ∨ c.toNat = 61 ∨ c.toNat = 59 ∨ c.toNat = 44 ∨ c.toNat = 60 ∨ c.toNat = 62 ∨ c.toNat = 45):=by
 have:=zDn (p:=fun c => zIi.contains c == decide (c.toNat = 123 ∨ c.toNat = 125 ∨ c.toNat = 40 ∨ c.toNat = 41 ∨ c.toNat = 91 ∨ c.toNat = 93 ∨ c.toNat = 61 ∨ c.toNat = 59 ∨ c.toNat = 44 ∨ c.toNat = 60 ∨ c.toNat = 62 ∨ c.toNat = 45)) (by decide +kernel) c
 rw [beq_iff_eq] at this
 rw [this]; exact decide_eq_true_iff
theorem word_L (s:B8) (hs:s.length < 60000) (i:Nat) (c:UInt8) (r:B8) (hd:s.drop i = c :: r) (hlen:i + (c :: r).length = s.length) (t:Int) (h:CHeap) (p d:Nat) (hf:Fit h) (hg:zA1 h.ents p = some (lx s (i:Int) 0 t)) (hp:p < h.next) (K:KT)
    (hk1:∀ n' ty (k:Nat) (txt:B8) (n len:Nat),h.next ≤ n' → zA9 ty n' → zCm zB7 (c :: r) = .tok k txt n len → K (.agg [.int .i64 (k:Int),.str txt,.int .u64 (n:Int),.int .i64 (i:Int)]) ⟨zA2 h.ents p (lx s ((i + len:Nat):Int) 0 t),n',ty⟩)
    (hk2:∀ n' ty (e:Nat) (j:Int),h.next ≤ n' → zA9 ty n' → zCm zB7 (c :: r) = .err e → K (.agg [.int .i64 0,.str [],.int .u64 0,.int .i64 0]) ⟨zA2 h.ents p (lx s j (e:Int) (i:Int)),n',ty⟩):Wc tree.getF 139 [.ptr p d 0] h K:=by
 by_cases hl:letB c = true
 · have e1:=nameF_let c r hl
   have e2:=zKj zB7 c r (nmR r) (by omega)
   refine word_nm s hs i c r hd hlen t hl h p d hf hg hp K ?_
   intro n' ty g1 g2
   have:=hk1 n' ty 1 _ 0 _ g1 g2 e2
   rw [show nmR r + 1 = 1 + nmR r by omega,show i + (1 + nmR r) = i + 1 + nmR r by omega] at this
   exact this
 rw [Bool.not_eq_true] at hl
 have bad:∀ (h0:zE8 (c :: r) = 0) (hdg:digB c = false) (hno:¬ (c.toNat = 34 ∨ c.toNat = 39 ∨ c.toNat = 123 ∨ c.toNat = 125 ∨ c.toNat = 40 ∨ c.toNat = 41 ∨ c.toNat = 91 ∨ c.toNat = 93 ∨ c.toNat = 61 ∨ c.toNat = 59 ∨ c.toNat = 44 ∨ c.toNat = 60 ∨ c.toNat = 62 ∨ c.toNat = 45)),zCm zB7 (c :: r) = .err 2:=by
  intro h0 hdg hno
  refine wordW_bad _ _ _ h0 hdg ?_ ?_
  · rintro (e | e)
    · exact hno (.inl (by rw [e]; rfl))
    · exact hno (.inr (.inl (by rw [e]; rfl)))
  · rw [← Bool.not_eq_true,zLe]
    exact fun e => hno (.inr (.inr e))
 by_cases h46:c.toNat = 46
 · have hc:c = 46:=eq_of_n (by decide) h46
   have hdg:digB c = false:=by rw [hc]; decide
   have hno:¬ (c.toNat = 34 ∨ c.toNat = 39 ∨ c.toNat = 123 ∨ c.toNat = 125 ∨ c.toNat = 40 ∨ c.toNat = 41 ∨ c.toNat = 91 ∨ c.toNat = 93 ∨ c.toNat = 61 ∨ c.toNat = 59 ∨ c.toNat = 44 ∨ c.toNat = 60 ∨ c.toNat = 62 ∨ c.toNat = 45):=by omega
   cases hr:r with
   | nil =>
    refine word_dot0 s hs i c r hr hd hlen t hl hdg hno h46 h p d hf hg hp K ?_
    intro n' ty g1 g2
    exact hk2 n' ty 2 _ g1 g2 (bad (by rw [hc,hr]; exact zKl [] (by decide)) hdg hno)
   | cons x r0 =>
    by_cases hx:letB x = true
    · have e2:=zKj zB7 c r (nmR r) (by rw [hc,hr,nameF_dot x r0 hx]; omega)
      refine word_dot s hs i c x r0 r hr hd hlen t hl h46 hx h p d hf hg hp K ?_
      intro n' ty g1 g2
      have:=hk1 n' ty 1 _ 0 _ g1 g2 e2
      rw [show nmR r + 1 = 1 + nmR r by omega,show i + (1 + nmR r) = i + 1 + nmR r by omega] at this
      exact this
    · rw [Bool.not_eq_true] at hx
      refine word_dotn s hs i c x r0 r hr hd hlen t hl hdg hno h46 hx h p d hf hg hp K ?_
      intro n' ty g1 g2
      exact hk2 n' ty 2 _ g1 g2 (bad (by rw [hc,hr]; exact zKl (x :: r0) hx) hdg hno)
 have h0:=nameF_no c r hl h46
 by_cases hdg:digB c = true
 · have e1:=wordW_num zB7 c r h0 hdg
   rw [numW_eq] at e1
   refine word_num s hs i c r hd hlen t hl hdg h46 h p d hf hg hp K ?_ ?_
   · intro n' ty v len g1 g2 g3
     rw [g3] at e1
     exact hk1 n' ty 2 _ _ _ g1 g2 e1
   · intro n' ty e j g1 g2 g3
     rw [g3] at e1
     exact hk2 n' ty e j g1 g2 e1
 rw [Bool.not_eq_true] at hdg
 by_cases hq:c.toNat = 34 ∨ c.toNat = 39
 · have hq':c = 34 ∨ c = 39:=by
    rcases hq with e | e
    · exact .inl (eq_of_n (by decide) e)
    · exact .inr (eq_of_n (by decide) e)
   have e1:=wordW_txt zB7 c r h0 hdg hq'
   have e2:=textF_shift c (i + 1) _ r [] 0 (Nat.le_refl _)
   rw [Nat.zero_add] at e2
   refine word_txt s hs i c r hd hlen t hl hdg hq h p d hf hg hp K ?_ ?_
   · intro n' ty txt k g1 g2 g3 g4
     rw [g3] at e2
     cases hz:zBe c r [] 0 with
     | none => rw [hz] at e2; cases e2
     | some y =>
      obtain ⟨t0,k0⟩:=y
      rw [hz] at e2 e1
      simp only [Option.map_some,Option.some.injEq,Prod.mk.injEq] at e2
      obtain ⟨rfl,rfl⟩:=e2
      dsimp only at e1
      rw [g4,if_pos rfl] at e1
      have:=hk1 n' ty 3 _ 0 _ g1 g2 e1
      rw [show i + (k0 + 1) = k0 + (i + 1) by omega] at this
      exact this
   · intro n' ty j g1 g2 g3
     refine hk2 n' ty 2 j g1 g2 ?_
     rw [e1]
     cases hz:zBe c r [] 0 with
     | none => rfl
     | some y =>
      obtain ⟨t0,k0⟩:=y
      rw [hz] at e2
      rcases g3 with g3 | ⟨txt,k,g3,g4⟩
      · rw [g3] at e2; cases e2
      · rw [g3] at e2
        simp only [Option.map_some,Option.some.injEq,Prod.mk.injEq] at e2
        obtain ⟨rfl,rfl⟩:=e2
        dsimp only
        rw [g4]; rfl
 have hq':¬ (c = 34 ∨ c = 39):=by
  rintro (e | e)
  · exact hq (.inl (by rw [e]; rfl))
  · exact hq (.inr (by rw [e]; rfl))
 by_cases hsg:zIi.contains c = true
 · have e1:=wordW_sign zB7 c r h0 hdg hq' hsg
   have hk:∀ n' ty,h.next ≤ n' → zA9 ty n' → K (.agg [.int .i64 4,.str [c],.int .u64 0,.int .i64 (i:Int)]) ⟨zA2 h.ents p (lx s ((i + 1:Nat):Int) 0 t),n',ty⟩:=fun n' ty g1 g2 => hk1 n' ty 4 _ 0 _ g1 g2 e1
   rcases (zLe c).1 hsg with e | e | e | e | e | e | e | e | e | e | e | e
   · exact word_s123 s hs i c r hd hlen t hl hdg e h p d hf hg hp K hk
   · exact word_s125 s hs i c r hd hlen t hl hdg e h p d hf hg hp K hk
   · exact word_s40 s hs i c r hd hlen t hl hdg e h p d hf hg hp K hk
   · exact word_s41 s hs i c r hd hlen t hl hdg e h p d hf hg hp K hk
   · exact word_s91 s hs i c r hd hlen t hl hdg e h p d hf hg hp K hk
   · exact word_s93 s hs i c r hd hlen t hl hdg e h p d hf hg hp K hk
   · exact word_s61 s hs i c r hd hlen t hl hdg e h p d hf hg hp K hk
   · exact word_s59 s hs i c r hd hlen t hl hdg e h p d hf hg hp K hk
   · exact word_s44 s hs i c r hd hlen t hl hdg e h p d hf hg hp K hk
   · exact word_s60 s hs i c r hd hlen t hl hdg e h p d hf hg hp K hk
   · exact word_s62 s hs i c r hd hlen t hl hdg e h p d hf hg hp K hk
   · exact word_s45 s hs i c r hd hlen t hl hdg e h p d hf hg hp K hk
 · have hno:¬ (c.toNat = 34 ∨ c.toNat = 39 ∨ c.toNat = 123 ∨ c.toNat = 125 ∨ c.toNat = 40 ∨ c.toNat = 41 ∨ c.toNat = 91 ∨ c.toNat = 93 ∨ c.toNat = 61 ∨ c.toNat = 59 ∨ c.toNat = 44 ∨ c.toNat = 60 ∨ c.toNat = 62 ∨ c.toNat = 45):=by
    rw [zLe] at hsg
    omega
   refine word_bad s hs i c r hd hlen t hl hdg hno h46 h p d hf hg hp K ?_
   intro n' ty g1 g2
   exact hk2 n' ty 2 _ g1 g2 (bad h0 hdg hno)
structure Sr (n0:Nat) (E0:EE) (p:Nat) (o:CObj) (L:CVal) (ts:List CVal) (h:CHeap):Prop where
 g:zA1 h.ents p = some o
 l:L = .nils ∧ ts = [] ∨ ∃ i v,L = .imm (.own i v) 4 ts ∧ zA1 h.ents i = some (.tok v) ∧ i ≠ p ∧ n0 ≤ i ∧ i < h.next
 d:Over n0 E0 h.ents
 n:n0 ≤ p
 lt:p < h.next
 f:Fit h
theorem Sr.upd {n0:Nat} {E0:EE} {p:Nat} {o o':CObj} {L:CVal} {ts:List CVal} {h:CHeap} {n':Nat} {ty:NN} (S:Sr n0 E0 p o L ts h) (hn:h.next ≤ n') (ht:zA9 ty n') :
    Sr n0 E0 p o' L ts ⟨zA2 h.ents p o',n',ty⟩ where
 g:=zA6 S.g
 l:=by
  rcases S.l with h1 | ⟨i,v,h1,h2,h3,h4,h5⟩
  · exact .inl h1
  · exact .inr ⟨i,v,h1,(zA0 h3).trans h2,h3,h4,om_⟩
 d:=S.d.set S.n
 n:=S.n
 lt:=by have:=S.lt; exact om_
 f:=⟨S.f.1.set.le hn,ht⟩
theorem Sr.app0 {n0:Nat} {E0:EE} {p:Nat} {o:CObj} {h:CHeap} {n' i:Nat} {ty:NN} {x:CVal} {ts:List CVal} (S:Sr n0 E0 p o .nils ts h) (hi:h.next ≤ i) (hn:i < n') (ht:zA9 ty n') :
    Sr n0 E0 p o (.imm (.own i 0) 4 [x]) [x] ⟨(i,.tok 0) :: h.ents,n',ty⟩:=by
 have hlt:=S.lt
 have hn0:=S.n
 have hip:(i == p) = false:=by simp; omega
 exact {
  g:=by simp only [zA1,hip,Bool.false_eq_true,if_false]; exact S.g
  l:=.inr ⟨i,0,rfl,by simp [zA1],by omega,by omega,hn⟩
  d:=S.d.cons (by omega)
  n:=S.n
  lt:=om_
  f:=⟨Under.cons hn (S.f.1.le om_),ht⟩ }
theorem Sr.app1 {n0:Nat} {E0:EE} {p:Nat} {o:CObj} {h:CHeap} {n' i v:Nat} {ty:NN} {x:CVal} {ts:List CVal} {L:CVal} (S:Sr n0 E0 p o L ts h) (ht:zA1 h.ents i = some (.tok v)) (hip:i ≠ p) (hi0:n0 ≤ i) (hin:i < h.next) (hn:h.next ≤ n') (hty:zA9 ty n') :
    Sr n0 E0 p o (.imm (.own i (v + 1)) 4 (ts ++ [x])) (ts ++ [x]) ⟨zA2 h.ents i (.tok (v + 1)),n',ty⟩:=by
 have hlt:=S.lt
 exact {
  g:=(zA0 (Ne.symm hip)).trans S.g
  l:=.inr ⟨i,v + 1,rfl,zA6 ht,hip,hi0,om_⟩
  d:=S.d.set hi0
  n:=S.n
  lt:=om_
  f:=⟨S.f.1.set.le hn,hty⟩ }
theorem wordW_kind {c:UInt8} {r:B8} {k n len:Nat} {t:B8} (h:zCm zB7 (c :: r) = .tok k t n len):k ≤ 4:=by
 unfold zCm at h
 dsimp only at h
 split at h
 · cases h; omega
 · split at h
   · have:=numW_tok (by assumption) h; omega
   · split at h
     · cases ht:zBe c r [] 0 with
       | none => rw [ht] at h; cases h
       | some x =>
        obtain ⟨tt,kk⟩:=x
        rw [ht] at h
        dsimp only at h
        split at h
        · cases h; omega
        · cases h
     · split at h
       · cases h; omega
       · cases h
def zHh (total m:Nat) (r:B8):Except (Nat × Nat) (List Tok):=match zBp r with
 | (w,false) => .error (2,total - w.length)
 | (w,true) => lexW total m w
abbrev zCj:CCode:=(.loop true (.block 1 (.seq (.R [.v 2,.c 138 [(.loc 0)]] []) (.seq (.R [.g (.build [(.int .i64 0),(.str []),(.int .u64 0),(.int .i64 0)] []),.o 142606340,.u 4 0 1] [(4,1)]) (.seq (.seq (.R [.v 2,.n 0,.f 2 0,.l 0,.x .eql 0 (.k 0)] [(3,4)]) (.cond (.var 3) (.R [.v 2,.c 139 [(.loc 0)],.t 4 4 0] []) .skip)) (.seq (.seq (.R [.v 2,.n 0,.f 2 0,.l 0,.x .neq 0 (.k 0)] [(5,4)]) (.cond (.var 5) (.seq (.R [.v 2,.n 0,.f 2 0,.l 0,.v 2,.n 0,.f 3 0,.l 0,.m (.const .nils),.m (.loc 5),.m (.loc 2)] [(8,8),(9,9),(10,10)]) .ret) .skip)) (.seq (.R [.v 6,.y 4 4,.g (.lit .imm true [(.int .i64 0),(.str []),(.int .u64 0),(.int .i64 0)] 1 [(0,(.loc 0))]),.d 0 4 2 0,.m (.loc 0)] [(6,4)]) (.seq (.R [.k 0 4,.l 0,.x .eql 0 (.k 5)] [(7,2)]) (.cond (.var 7) (.seq (.R [.v 6,.m (.loc 0),.m (.k 0),.m (.k 0)] [(8,1),(9,2),(10,3)]) .ret) .skip)))))))))
theorem rl_sp_n {n0:Nat} {E0:EE} (p d:Nat) (s:B8) (hs:s.length < 60000) (t:Int) (v1 v3 v4 v5 v7 v8 v9 v10:CVal) (Q:QT) (h:CHeap) (hf:Fit h) (i:Nat) (hg:zA1 h.ents p = some (lx s (i:Int) 0 t)) (hp:p < h.next) (hov:Over n0 E0 h.ents) (hn0:n0 ≤ p)  (j:Nat) (SP:∀ (h:CHeap) (hf:Fit h) (hg:zA1 h.ents p = some (lx s (i:Int) 0 t)) (hp:p < h.next) (K:KT) (hk:∀ n' ty,h.next ≤ n' → zA9 ty n' → K (.tup []) ⟨zA2 h.ents p (lx s (s.length:Int) 2 (j:Int)),n',ty⟩),Wc tree.getF 138 [.ptr p d 0] h K)
    (hk:∀ w3 w4 w5 w6 w7 h',Over n0 E0 h'.ents → zA9 h'.tys h'.next → h.next ≤ h'.next → Q .ret ⟨[.str s,v1,.ptr p d 0,w3,w4,w5,w6,w7,.nils,.int .i64 2,.int .i64 (j:Int)],h',[]⟩):W tree.getF zCj ⟨[.str s,v1,.ptr p d 0,v3,v4,v5,.nils,v7,v8,v9,v10],h,[]⟩ Q:=by
 obtain ⟨hu,hut,hX⟩:=fx4 hf
 have hY:=fx5 hf hg
 refine W.loop ?_
 have hZ:=j3_ hX hg hY
 repeat (first | refine wk_ ?_ | (refine SP _ ?_ ?_ ?_ _ fun n1 tyn1 hn1 hun1 => ⟨rfl,?_⟩; exact fit_; exact ge_; exact om_; (try dsimp only at hn1)))
 all_goals ((try refine W.ret ?_); (try simp only [zAd,zA3,zAb]); refine hk _ _ _ _ _ _ ?_ ?_ ?_; ((repeat (first | exact hov | refine Over.set ?_ (by omega) | refine Over.cons ?_ (by omega)))); exact ut_; (exact om_))
theorem rl_end_n {n0:Nat} {E0:EE} (p d:Nat) (s:B8) (hs:s.length < 60000) (t:Int) (v1 v3 v4 v5 v7 v8 v9 v10:CVal) (Q:QT) (h:CHeap) (hf:Fit h) (i:Nat) (hg:zA1 h.ents p = some (lx s (i:Int) 0 t)) (hp:p < h.next) (hov:Over n0 E0 h.ents) (hn0:n0 ≤ p)  (j:Nat) (SP:∀ (h:CHeap) (hf:Fit h) (hg:zA1 h.ents p = some (lx s (i:Int) 0 t)) (hp:p < h.next) (K:KT) (hk:∀ n' ty,h.next ≤ n' → zA9 ty n' → K (.tup []) ⟨zA2 h.ents p (lx s (j:Int) 0 t),n',ty⟩),Wc tree.getF 138 [.ptr p d 0] h K) (WD:∀ (h:CHeap) (hf:Fit h) (hg:zA1 h.ents p = some (lx s (j:Int) 0 t)) (hp:p < h.next) (K:KT) (hk:∀ n' ty,h.next ≤ n' → zA9 ty n' → K (.agg [.int .i64 5,.str [],.int .u64 0,.int .i64 (j:Int)]) ⟨h.ents,n',ty⟩),Wc tree.getF 139 [.ptr p d 0] h K)
    (hk:∀ w3 w4 w5 w6 w7 h' q v,Over n0 E0 h'.ents → zA1 h'.ents q = some (.tok v) → n0 ≤ q → zA9 h'.tys h'.next → h.next ≤ h'.next → Q .ret ⟨[.str s,v1,.ptr p d 0,w3,w4,w5,w6,w7,.imm (.own q v) 4 ([] ++ [.agg [.int .i64 5,.str [],.int .u64 0,.int .i64 (j:Int)]]),.int .i64 0,.int .i64 0],h',[]⟩):W tree.getF zCj ⟨[.str s,v1,.ptr p d 0,v3,v4,v5,.nils,v7,v8,v9,v10],h,[]⟩ Q:=by
 obtain ⟨hu,hut,hX⟩:=fx4 hf
 have hY:=fx5 hf hg
 refine W.loop ?_
 have hZ:=j3_ hX hg hY
 repeat (first | refine wk_ ?_ | (refine SP _ ?_ ?_ ?_ _ fun n1 tyn1 hn1 hun1 => ⟨rfl,?_⟩; exact fit_; exact ge_; exact om_; (try dsimp only at hn1)) | (refine WD _ ?_ ?_ ?_ _ fun n2 tyn2 hn2 hun2 => ⟨rfl,?_⟩; exact fit_; exact ge_; exact om_; (try dsimp only at hn2)))
 all_goals ((try refine W.ret ?_); (try simp only [zAd,zA3,zAb]); refine hk _ _ _ _ _ _ _ _ ?_ ?_ ?_ ?_ ?_; ((repeat (first | exact hov | refine Over.set ?_ (by omega) | refine Over.cons ?_ (by omega)))); (simp (disch:=omega) [hX,hg,hY]); omega; exact ut_; (exact om_))
theorem rl_bad_n {n0:Nat} {E0:EE} (p d:Nat) (s:B8) (hs:s.length < 60000) (t:Int) (v1 v3 v4 v5 v7 v8 v9 v10:CVal) (Q:QT) (h:CHeap) (hf:Fit h) (i:Nat) (hg:zA1 h.ents p = some (lx s (i:Int) 0 t)) (hp:p < h.next) (hov:Over n0 E0 h.ents) (hn0:n0 ≤ p)  (j e:Nat) (he:0 < e) (SP:∀ (h:CHeap) (hf:Fit h) (hg:zA1 h.ents p = some (lx s (i:Int) 0 t)) (hp:p < h.next) (K:KT) (hk:∀ n' ty,h.next ≤ n' → zA9 ty n' → K (.tup []) ⟨zA2 h.ents p (lx s (j:Int) 0 t),n',ty⟩),Wc tree.getF 138 [.ptr p d 0] h K) (WD:∀ (h:CHeap) (hf:Fit h) (hg:zA1 h.ents p = some (lx s (j:Int) 0 t)) (hp:p < h.next) (K:KT) (hk:∀ n' ty (x:Int),h.next ≤ n' → zA9 ty n' → K (.agg [.int .i64 0,.str [],.int .u64 0,.int .i64 0]) ⟨zA2 h.ents p (lx s x (e:Int) (j:Int)),n',ty⟩),Wc tree.getF 139 [.ptr p d 0] h K)
    (hk:∀ w3 w4 w5 w6 w7 h',Over n0 E0 h'.ents → zA9 h'.tys h'.next → h.next ≤ h'.next → Q .ret ⟨[.str s,v1,.ptr p d 0,w3,w4,w5,w6,w7,.nils,.int .i64 (e:Int),.int .i64 (j:Int)],h',[]⟩):W tree.getF zCj ⟨[.str s,v1,.ptr p d 0,v3,v4,v5,.nils,v7,v8,v9,v10],h,[]⟩ Q:=by
 obtain ⟨hu,hut,hX⟩:=fx4 hf
 have hY:=fx5 hf hg
 have hez:¬ (e:Int) = 0:=by omega
 refine W.loop ?_
 have hZ:=j4_ hX hg hY hez
 repeat (first | refine wk_ ?_ | (refine SP _ ?_ ?_ ?_ _ fun n1 tyn1 hn1 hun1 => ⟨rfl,?_⟩; exact fit_; exact ge_; exact om_; (try dsimp only at hn1)) | (refine WD _ ?_ ?_ ?_ _ fun n2 tyn2 x2 hn2 hun2 => ⟨rfl,?_⟩; exact fit_; exact ge_; exact om_; (try dsimp only at hn2)))
 all_goals ((try refine W.ret ?_); (try simp only [zAd,zA3,zAb]); refine hk _ _ _ _ _ _ ?_ ?_ ?_; ((repeat (first | exact hov | refine Over.set ?_ (by omega) | refine Over.cons ?_ (by omega)))); exact ut_; (exact om_))
theorem rl_tok_n {n0:Nat} {E0:EE} (p d:Nat) (s:B8) (hs:s.length < 60000) (t:Int) (v1 v3 v4 v5 v7 v8 v9 v10:CVal) (Q:QT) (h:CHeap) (hf:Fit h) (i:Nat) (hg:zA1 h.ents p = some (lx s (i:Int) 0 t)) (hp:p < h.next) (hov:Over n0 E0 h.ents) (hn0:n0 ≤ p)  (j k n j2:Nat) (tx:B8) (hk5:k ≤ 4) (SP:∀ (h:CHeap) (hf:Fit h) (hg:zA1 h.ents p = some (lx s (i:Int) 0 t)) (hp:p < h.next) (K:KT) (hk:∀ n' ty,h.next ≤ n' → zA9 ty n' → K (.tup []) ⟨zA2 h.ents p (lx s (j:Int) 0 t),n',ty⟩),Wc tree.getF 138 [.ptr p d 0] h K) (WD:∀ (h:CHeap) (hf:Fit h) (hg:zA1 h.ents p = some (lx s (j:Int) 0 t)) (hp:p < h.next) (K:KT) (hk:∀ n' ty,h.next ≤ n' → zA9 ty n' → K (.agg [.int .i64 (k:Int),.str tx,.int .u64 (n:Int),.int .i64 (j:Int)]) ⟨zA2 h.ents p (lx s (j2:Int) 0 t),n',ty⟩),Wc tree.getF 139 [.ptr p d 0] h K)
    (hk:∀ q n' ty w3 w4 w5 w7,h.next ≤ q → q < n' → zA9 ty n' → W tree.getF zCj ⟨[.str s,v1,.ptr p d 0,w3,w4,w5,.imm (.own q 0) 4 [.agg [.int .i64 (k:Int),.str tx,.int .u64 (n:Int),.int .i64 (j:Int)]],w7,v8,v9,v10],⟨(q,.tok 0) :: zA2 h.ents p (lx s (j2:Int) 0 t),n',ty⟩,[]⟩ Q):W tree.getF zCj ⟨[.str s,v1,.ptr p d 0,v3,v4,v5,.nils,v7,v8,v9,v10],h,[]⟩ Q:=by
 obtain ⟨hu,hut,hX⟩:=fx4 hf
 have hY:=fx5 hf hg
 refine W.loop ?_
 have hZ:=j3_ hX hg hY
 repeat (first | refine wk_ ?_ | (refine SP _ ?_ ?_ ?_ _ fun n1 tyn1 hn1 hun1 => ⟨rfl,?_⟩; exact fit_; exact ge_; exact om_; (try dsimp only at hn1)) | (refine WD _ ?_ ?_ ?_ _ fun n2 tyn2 hn2 hun2 => ⟨rfl,?_⟩; exact fit_; exact ge_; exact om_; (try dsimp only at hn2)))
 show W tree.getF zCj (dropped true _ _) Q
 generalize e:dropped .. = r0
 simp (disch:=omega) [hX,hg,hY] at e
 subst e
 try dsimp only
 refine hk _ _ _ _ _ _ _ ?_ ?_ ?_
 · exact om_
 · exact om_
 · exact ut_
theorem rl_sp_o {n0:Nat} {E0:EE} (p d:Nat) (s:B8) (hs:s.length < 60000) (t:Int) (v1 v3 v4 v5 v7 v8 v9 v10:CVal) (Q:QT) (h:CHeap) (hf:Fit h) (i:Nat) (hg:zA1 h.ents p = some (lx s (i:Int) 0 t)) (hp:p < h.next) (hov:Over n0 E0 h.ents) (hn0:n0 ≤ p) (iq vq:Nat) (ts:List CVal) (hts:ts.length < 100000) (hti:zA1 h.ents iq = some (.tok vq)) (hip:iq ≠ p) (hi0:n0 ≤ iq) (hin:iq < h.next) (j:Nat) (SP:∀ (h:CHeap) (hf:Fit h) (hg:zA1 h.ents p = some (lx s (i:Int) 0 t)) (hp:p < h.next) (K:KT) (hk:∀ n' ty,h.next ≤ n' → zA9 ty n' → K (.tup []) ⟨zA2 h.ents p (lx s (s.length:Int) 2 (j:Int)),n',ty⟩),Wc tree.getF 138 [.ptr p d 0] h K)
    (hk:∀ w3 w4 w5 w6 w7 h',Over n0 E0 h'.ents → zA9 h'.tys h'.next → h.next ≤ h'.next → Q .ret ⟨[.str s,v1,.ptr p d 0,w3,w4,w5,w6,w7,.nils,.int .i64 2,.int .i64 (j:Int)],h',[]⟩):W tree.getF zCj ⟨[.str s,v1,.ptr p d 0,v3,v4,v5,.imm (.own iq vq) 4 ts,v7,v8,v9,v10],h,[]⟩ Q:=by
 obtain ⟨hu,hut,hX⟩:=fx4 hf
 have hY:=fx5 hf hg; have ⟨hG,hD2,hC2,hN2⟩:=hY
 have hti2:∀ x,zA1 (zA2 h.ents p x) iq = some (.tok vq):=fun x => (zA0 hip).trans hti
 have hip2:¬ p = iq:=fun e => hip e.symm
 have hti3:∀ x y,zA1 (zA2 (zA2 h.ents p x) iq y) iq = some y:=fun x y => zA6 (hti2 x)
 have hpg:∀ x y,zA1 (zA2 (zA2 h.ents p x) iq y) p = some x:=fun x y => (zA0 hip2).trans (hG x)
 have hC3:∀ x y m,h.next ≤ m → zAc (zA2 (zA2 h.ents p x) iq y) m = zA2 (zA2 h.ents p x) iq y:=fun x y m hm => zAj (hu.set.set.le hm)
 refine W.loop ?_
 have hZ:=j10_ hX hg hY hti hti2 hti3 hip hip2 hpg hC3
 repeat (first | refine wk_ ?_ | (refine SP _ ?_ ?_ ?_ _ fun n1 tyn1 hn1 hun1 => ⟨rfl,?_⟩; exact fit_; exact ge_; exact om_; (try dsimp only at hn1)))
 all_goals ((try refine W.ret ?_); (try simp only [zAd,zA3,zAb]); refine hk _ _ _ _ _ _ ?_ ?_ ?_; ((repeat (first | exact hov | refine Over.set ?_ (by omega) | refine Over.cons ?_ (by omega)))); exact ut_; (exact om_))
theorem rl_end_o {n0:Nat} {E0:EE} (p d:Nat) (s:B8) (hs:s.length < 60000) (t:Int) (v1 v3 v4 v5 v7 v8 v9 v10:CVal) (Q:QT) (h:CHeap) (hf:Fit h) (i:Nat) (hg:zA1 h.ents p = some (lx s (i:Int) 0 t)) (hp:p < h.next) (hov:Over n0 E0 h.ents) (hn0:n0 ≤ p) (iq vq:Nat) (ts:List CVal) (hts:ts.length < 100000) (hti:zA1 h.ents iq = some (.tok vq)) (hip:iq ≠ p) (hi0:n0 ≤ iq) (hin:iq < h.next) (j:Nat) (SP:∀ (h:CHeap) (hf:Fit h) (hg:zA1 h.ents p = some (lx s (i:Int) 0 t)) (hp:p < h.next) (K:KT) (hk:∀ n' ty,h.next ≤ n' → zA9 ty n' → K (.tup []) ⟨zA2 h.ents p (lx s (j:Int) 0 t),n',ty⟩),Wc tree.getF 138 [.ptr p d 0] h K) (WD:∀ (h:CHeap) (hf:Fit h) (hg:zA1 h.ents p = some (lx s (j:Int) 0 t)) (hp:p < h.next) (K:KT) (hk:∀ n' ty,h.next ≤ n' → zA9 ty n' → K (.agg [.int .i64 5,.str [],.int .u64 0,.int .i64 (j:Int)]) ⟨h.ents,n',ty⟩),Wc tree.getF 139 [.ptr p d 0] h K)
    (hk:∀ w3 w4 w5 w6 w7 h' q v,Over n0 E0 h'.ents → zA1 h'.ents q = some (.tok v) → n0 ≤ q → zA9 h'.tys h'.next → h.next ≤ h'.next → Q .ret ⟨[.str s,v1,.ptr p d 0,w3,w4,w5,w6,w7,.imm (.own q v) 4 (ts ++ [.agg [.int .i64 5,.str [],.int .u64 0,.int .i64 (j:Int)]]),.int .i64 0,.int .i64 0],h',[]⟩):W tree.getF zCj ⟨[.str s,v1,.ptr p d 0,v3,v4,v5,.imm (.own iq vq) 4 ts,v7,v8,v9,v10],h,[]⟩ Q:=by
 obtain ⟨hu,hut,hX⟩:=fx4 hf
 have hY:=fx5 hf hg; have ⟨hG,hD2,hC2,hN2⟩:=hY
 have hti2:∀ x,zA1 (zA2 h.ents p x) iq = some (.tok vq):=fun x => (zA0 hip).trans hti
 have hip2:¬ p = iq:=fun e => hip e.symm
 have hti3:∀ x y,zA1 (zA2 (zA2 h.ents p x) iq y) iq = some y:=fun x y => zA6 (hti2 x)
 have hpg:∀ x y,zA1 (zA2 (zA2 h.ents p x) iq y) p = some x:=fun x y => (zA0 hip2).trans (hG x)
 have hC3:∀ x y m,h.next ≤ m → zAc (zA2 (zA2 h.ents p x) iq y) m = zA2 (zA2 h.ents p x) iq y:=fun x y m hm => zAj (hu.set.set.le hm)
 refine W.loop ?_
 have hZ:=j10_ hX hg hY hti hti2 hti3 hip hip2 hpg hC3
 repeat (first | refine wk_ ?_ | (refine SP _ ?_ ?_ ?_ _ fun n1 tyn1 hn1 hun1 => ⟨rfl,?_⟩; exact fit_; exact ge_; exact om_; (try dsimp only at hn1)) | (refine WD _ ?_ ?_ ?_ _ fun n2 tyn2 hn2 hun2 => ⟨rfl,?_⟩; exact fit_; exact ge_; exact om_; (try dsimp only at hn2)))
 all_goals ((try refine W.ret ?_); (try simp only [zAd,zA3,zAb]); refine hk _ _ _ _ _ _ _ _ ?_ ?_ ?_ ?_ ?_; ((repeat (first | exact hov | refine Over.set ?_ (by omega) | refine Over.cons ?_ (by omega)))); (simp (disch:=omega) [hX,hg,hY,hti,hti2,hti3,hip,hip2,hpg,hC3]); omega; exact ut_; (exact om_))
theorem rl_bad_o {n0:Nat} {E0:EE} (p d:Nat) (s:B8) (hs:s.length < 60000) (t:Int) (v1 v3 v4 v5 v7 v8 v9 v10:CVal) (Q:QT) (h:CHeap) (hf:Fit h) (i:Nat) (hg:zA1 h.ents p = some (lx s (i:Int) 0 t)) (hp:p < h.next) (hov:Over n0 E0 h.ents) (hn0:n0 ≤ p) (iq vq:Nat) (ts:List CVal) (hts:ts.length < 100000) (hti:zA1 h.ents iq = some (.tok vq)) (hip:iq ≠ p) (hi0:n0 ≤ iq) (hin:iq < h.next) (j e:Nat) (he:0 < e) (SP:∀ (h:CHeap) (hf:Fit h) (hg:zA1 h.ents p = some (lx s (i:Int) 0 t)) (hp:p < h.next) (K:KT) (hk:∀ n' ty,h.next ≤ n' → zA9 ty n' → K (.tup []) ⟨zA2 h.ents p (lx s (j:Int) 0 t),n',ty⟩),Wc tree.getF 138 [.ptr p d 0] h K) (WD:∀ (h:CHeap) (hf:Fit h) (hg:zA1 h.ents p = some (lx s (j:Int) 0 t)) (hp:p < h.next) (K:KT) (hk:∀ n' ty (x:Int),h.next ≤ n' → zA9 ty n' → K (.agg [.int .i64 0,.str [],.int .u64 0,.int .i64 0]) ⟨zA2 h.ents p (lx s x (e:Int) (j:Int)),n',ty⟩),Wc tree.getF 139 [.ptr p d 0] h K)
    (hk:∀ w3 w4 w5 w6 w7 h',Over n0 E0 h'.ents → zA9 h'.tys h'.next → h.next ≤ h'.next → Q .ret ⟨[.str s,v1,.ptr p d 0,w3,w4,w5,w6,w7,.nils,.int .i64 (e:Int),.int .i64 (j:Int)],h',[]⟩):W tree.getF zCj ⟨[.str s,v1,.ptr p d 0,v3,v4,v5,.imm (.own iq vq) 4 ts,v7,v8,v9,v10],h,[]⟩ Q:=by
 obtain ⟨hu,hut,hX⟩:=fx4 hf
 have hY:=fx5 hf hg; have ⟨hG,hD2,hC2,hN2⟩:=hY
 have hti2:∀ x,zA1 (zA2 h.ents p x) iq = some (.tok vq):=fun x => (zA0 hip).trans hti
 have hip2:¬ p = iq:=fun e => hip e.symm
 have hti3:∀ x y,zA1 (zA2 (zA2 h.ents p x) iq y) iq = some y:=fun x y => zA6 (hti2 x)
 have hpg:∀ x y,zA1 (zA2 (zA2 h.ents p x) iq y) p = some x:=fun x y => (zA0 hip2).trans (hG x)
 have hC3:∀ x y m,h.next ≤ m → zAc (zA2 (zA2 h.ents p x) iq y) m = zA2 (zA2 h.ents p x) iq y:=fun x y m hm => zAj (hu.set.set.le hm)
 have hez:¬ (e:Int) = 0:=by omega
 refine W.loop ?_
 have hZ:=j11_ hX hg hY hti hti2 hti3 hip hip2 hpg hC3 hez
 repeat (first | refine wk_ ?_ | (refine SP _ ?_ ?_ ?_ _ fun n1 tyn1 hn1 hun1 => ⟨rfl,?_⟩; exact fit_; exact ge_; exact om_; (try dsimp only at hn1)) | (refine WD _ ?_ ?_ ?_ _ fun n2 tyn2 x2 hn2 hun2 => ⟨rfl,?_⟩; exact fit_; exact ge_; exact om_; (try dsimp only at hn2)))
 all_goals ((try refine W.ret ?_); (try simp only [zAd,zA3,zAb]); refine hk _ _ _ _ _ _ ?_ ?_ ?_; ((repeat (first | exact hov | refine Over.set ?_ (by omega) | refine Over.cons ?_ (by omega)))); exact ut_; (exact om_))
theorem rl_tok_o {n0:Nat} {E0:EE} (p d:Nat) (s:B8) (hs:s.length < 60000) (t:Int) (v1 v3 v4 v5 v7 v8 v9 v10:CVal) (Q:QT) (h:CHeap) (hf:Fit h) (i:Nat) (hg:zA1 h.ents p = some (lx s (i:Int) 0 t)) (hp:p < h.next) (hov:Over n0 E0 h.ents) (hn0:n0 ≤ p) (iq vq:Nat) (ts:List CVal) (hts:ts.length < 100000) (hti:zA1 h.ents iq = some (.tok vq)) (hip:iq ≠ p) (hi0:n0 ≤ iq) (hin:iq < h.next) (j k n j2:Nat) (tx:B8) (hk5:k ≤ 4) (SP:∀ (h:CHeap) (hf:Fit h) (hg:zA1 h.ents p = some (lx s (i:Int) 0 t)) (hp:p < h.next) (K:KT) (hk:∀ n' ty,h.next ≤ n' → zA9 ty n' → K (.tup []) ⟨zA2 h.ents p (lx s (j:Int) 0 t),n',ty⟩),Wc tree.getF 138 [.ptr p d 0] h K) (WD:∀ (h:CHeap) (hf:Fit h) (hg:zA1 h.ents p = some (lx s (j:Int) 0 t)) (hp:p < h.next) (K:KT) (hk:∀ n' ty,h.next ≤ n' → zA9 ty n' → K (.agg [.int .i64 (k:Int),.str tx,.int .u64 (n:Int),.int .i64 (j:Int)]) ⟨zA2 h.ents p (lx s (j2:Int) 0 t),n',ty⟩),Wc tree.getF 139 [.ptr p d 0] h K)
    (hk:∀ n' ty w3 w4 w5 w7,h.next ≤ n' → zA9 ty n' → W tree.getF zCj ⟨[.str s,v1,.ptr p d 0,w3,w4,w5,.imm (.own iq (vq + 1)) 4 (ts ++ [.agg [.int .i64 (k:Int),.str tx,.int .u64 (n:Int),.int .i64 (j:Int)]]),w7,v8,v9,v10],⟨zA2 (zA2 h.ents p (lx s (j2:Int) 0 t)) iq (.tok (vq + 1)),n',ty⟩,[]⟩ Q):W tree.getF zCj ⟨[.str s,v1,.ptr p d 0,v3,v4,v5,.imm (.own iq vq) 4 ts,v7,v8,v9,v10],h,[]⟩ Q:=by
 obtain ⟨hu,hut,hX⟩:=fx4 hf
 have hY:=fx5 hf hg; have ⟨hG,hD2,hC2,hN2⟩:=hY
 have hti2:∀ x,zA1 (zA2 h.ents p x) iq = some (.tok vq):=fun x => (zA0 hip).trans hti
 have hip2:¬ p = iq:=fun e => hip e.symm
 have hti3:∀ x y,zA1 (zA2 (zA2 h.ents p x) iq y) iq = some y:=fun x y => zA6 (hti2 x)
 have hpg:∀ x y,zA1 (zA2 (zA2 h.ents p x) iq y) p = some x:=fun x y => (zA0 hip2).trans (hG x)
 have hC3:∀ x y m,h.next ≤ m → zAc (zA2 (zA2 h.ents p x) iq y) m = zA2 (zA2 h.ents p x) iq y:=fun x y m hm => zAj (hu.set.set.le hm)
 refine W.loop ?_
 have hZ:=j10_ hX hg hY hti hti2 hti3 hip hip2 hpg hC3
 repeat (first | refine wk_ ?_ | (refine SP _ ?_ ?_ ?_ _ fun n1 tyn1 hn1 hun1 => ⟨rfl,?_⟩; exact fit_; exact ge_; exact om_; (try dsimp only at hn1)) | (refine WD _ ?_ ?_ ?_ _ fun n2 tyn2 hn2 hun2 => ⟨rfl,?_⟩; exact fit_; exact ge_; exact om_; (try dsimp only at hn2)))
 show W tree.getF zCj (dropped true _ _) Q
 generalize e:dropped .. = r0
 simp (disch:=omega) [hX,hg,hY,hti,hti2,hti3,hip,hip2,hpg,hC3] at e
 subst e
 try dsimp only
 refine hk _ _ _ _ _ _ ?_ ?_
 · exact om_
 · exact ut_
theorem rlex_loop {n0:Nat} {E0:EE} (p d:Nat) (s:B8) (hs:s.length < 60000) (t:Int) (v1 v8 v9 v10:CVal) (Q:QT):∀ (m i:Nat) (r:B8),r.length < m → s.drop i = r → i + r.length = s.length → ∀ (L:CVal) (ts:List CVal) (v3 v4 v5 v7:CVal) (h:CHeap),ts.length + r.length < 90000 → Sr n0 E0 p (lx s (i:Int) 0 t) L ts h →
    (hk1:∀ l w3 w4 w5 w6 w7 h' q v,zHh s.length m r = .ok l → Over n0 E0 h'.ents → zA1 h'.ents q = some (.tok v) → n0 ≤ q → zA9 h'.tys h'.next → h.next ≤ h'.next → Q .ret ⟨[.str s,v1,.ptr p d 0,w3,w4,w5,w6,w7,.imm (.own q v) 4 (ts ++ l.map tokV ++ [tokC 5 [] 0 s.length]),.int .i64 0,.int .i64 0],h',[]⟩) →
    (hk2:∀ (e k:Nat) w3 w4 w5 w6 w7 h',zHh s.length m r = .error (e,k) → Over n0 E0 h'.ents → zA9 h'.tys h'.next → h.next ≤ h'.next → Q .ret ⟨[.str s,v1,.ptr p d 0,w3,w4,w5,w6,w7,.nils,.int .i64 (e:Int),.int .i64 (k:Int)],h',[]⟩) →
    W tree.getF zCj ⟨[.str s,v1,.ptr p d 0,v3,v4,v5,L,v7,v8,v9,v10],h,[]⟩ Q:=by
 intro m
 induction m with
 | zero => intro i r hm; omega
 | succ m ih =>
  intro i r hm hd hlen L ts v3 v4 v5 v7 h hts S hk1 hk2
  have hg:=S.g
  have hf:=S.f
  have hp:=S.lt
  have hov:=S.d
  have hn0:=S.n
  cases hsk:zBp r with
  | mk w b =>
   obtain ⟨j,hj⟩:∃ j,s.length - w.length = j:=⟨_,rfl⟩
   have hwl:=zIu _ r (Nat.le_refl _)
   rw [hsk] at hwl
   dsimp only at hwl
   have hdj:=skip_suffix s i r w b hd hlen hsk
   rw [hj] at hdj
   have hlj:j + w.length = s.length:=by omega
   have hrr:zHh s.length (m + 1) r = if b then lexW s.length (m + 1) w else .error (2,j):=by unfold zHh; rw [hsk]; cases b <;> simp [hj]
   cases b with
   | false =>
    rw [show (if false = true then lexW s.length (m + 1) w else Except.error (2,j)) = .error (2,j) from rfl] at hrr
    have SP:∀ (h:CHeap) (hf:Fit h) (hg:zA1 h.ents p = some (lx s (i:Int) 0 t)) (hp:p < h.next) (K:KT) (hk:∀ n' ty,h.next ≤ n' → zA9 ty n' → K (.tup []) ⟨zA2 h.ents p (lx s (s.length:Int) 2 (j:Int)),n',ty⟩),Wc tree.getF 138 [.ptr p d 0] h K:=fun h hf hg hp K hk => space_L s hs i r hd hlen t h p d hf hg hp K (fun n' ty g1 g2 g3 => by rw [hsk] at g3; cases g3) (fun n' ty g1 g2 _ => by rw [hsk]; dsimp only; rw [hj]; exact hk n' ty g1 g2)
    rcases S.l with ⟨rfl,rfl⟩ | ⟨iq,vq,rfl,hti,hip,hi0,hin⟩
    · exact rl_sp_n p d s hs t v1 v3 v4 v5 v7 v8 v9 v10 Q h hf i hg hp hov hn0 j SP (fun w3 w4 w5 w6 w7 h' e1 e2 e3 => hk2 2 j w3 w4 w5 w6 w7 h' hrr e1 e2 e3)
    · exact rl_sp_o p d s hs t v1 v3 v4 v5 v7 v8 v9 v10 Q h hf i hg hp hov hn0 iq vq ts (by omega) hti hip hi0 hin j SP (fun w3 w4 w5 w6 w7 h' e1 e2 e3 => hk2 2 j w3 w4 w5 w6 w7 h' hrr e1 e2 e3)
   | true =>
    rw [if_pos rfl] at hrr
    have SP:∀ (h:CHeap) (hf:Fit h) (hg:zA1 h.ents p = some (lx s (i:Int) 0 t)) (hp:p < h.next) (K:KT) (hk:∀ n' ty,h.next ≤ n' → zA9 ty n' → K (.tup []) ⟨zA2 h.ents p (lx s (j:Int) 0 t),n',ty⟩),Wc tree.getF 138 [.ptr p d 0] h K:=fun h hf hg hp K hk => space_L s hs i r hd hlen t h p d hf hg hp K (fun n' ty g1 g2 _ => by rw [hsk]; dsimp only; rw [hj]; exact hk n' ty g1 g2) (fun n' ty g1 g2 g3 => by rw [hsk] at g3; cases g3)
    cases w with
    | nil =>
        have hje:j = s.length:=by simpa using hlj
        have hrr':zHh s.length (m + 1) r = .ok []:=by rw [hrr]; simp [lexW]
        have WD:∀ (h:CHeap) (hf:Fit h) (hg:zA1 h.ents p = some (lx s (j:Int) 0 t)) (hp:p < h.next) (K:KT) (hk:∀ n' ty,h.next ≤ n' → zA9 ty n' → K (.agg [.int .i64 5,.str [],.int .u64 0,.int .i64 (j:Int)]) ⟨h.ents,n',ty⟩),Wc tree.getF 139 [.ptr p d 0] h K:=fun h hf hg hp K hk => word_e s hs j hje t h p d hf hg hp K hk
        rcases S.l with ⟨rfl,rfl⟩ | ⟨iq,vq,rfl,hti,hip,hi0,hin⟩
        · exact rl_end_n p d s hs t v1 v3 v4 v5 v7 v8 v9 v10 Q h hf i hg hp hov hn0 j SP WD (fun w3 w4 w5 w6 w7 h' q v e1 e2 e3 e4 e5 => by have:=hk1 [] w3 w4 w5 w6 w7 h' q v hrr' e1 e2 e3 e4 e5; rw [hje]; exact this)
        · exact rl_end_o p d s hs t v1 v3 v4 v5 v7 v8 v9 v10 Q h hf i hg hp hov hn0 iq vq ts (by omega) hti hip hi0 hin j SP WD (fun w3 w4 w5 w6 w7 h' q v e1 e2 e3 e4 e5 => by have:=hk1 [] w3 w4 w5 w6 w7 h' q v hrr' e1 e2 e3 e4 e5; rw [hje]; rw [List.map_nil,List.append_nil] at this; exact this)
    | cons c u =>
        have hposn:s.length - (c :: u).length = j:=hj
        cases hw:zCm zB7 (c :: u) with
        | err e =>
         have he:=wordW_err hw
         have hrr':zHh s.length (m + 1) r = .error (e,j):=by rw [hrr]; simp only [lexW,hw,hposn]
         have WD:∀ (h:CHeap) (hf:Fit h) (hg:zA1 h.ents p = some (lx s (j:Int) 0 t)) (hp:p < h.next) (K:KT) (hk:∀ n' ty (x:Int),h.next ≤ n' → zA9 ty n' → K (.agg [.int .i64 0,.str [],.int .u64 0,.int .i64 0]) ⟨zA2 h.ents p (lx s x (e:Int) (j:Int)),n',ty⟩),Wc tree.getF 139 [.ptr p d 0] h K:=fun h hf hg hp K hk => word_L s hs j c u hdj hlj t h p d hf hg hp K (fun n' ty k tx n len g1 g2 g3 => by rw [hw] at g3; cases g3) (fun n' ty e' x g1 g2 g3 => by rw [hw] at g3; cases g3; exact hk n' ty x g1 g2)
         rcases S.l with ⟨rfl,rfl⟩ | ⟨iq,vq,rfl,hti,hip,hi0,hin⟩
         · exact rl_bad_n p d s hs t v1 v3 v4 v5 v7 v8 v9 v10 Q h hf i hg hp hov hn0 j e (by omega) SP WD (fun w3 w4 w5 w6 w7 h' e1 e2 e3 => hk2 e j w3 w4 w5 w6 w7 h' hrr' e1 e2 e3)
         · exact rl_bad_o p d s hs t v1 v3 v4 v5 v7 v8 v9 v10 Q h hf i hg hp hov hn0 iq vq ts (by omega) hti hip hi0 hin j e (by omega) SP WD (fun w3 w4 w5 w6 w7 h' e1 e2 e3 => hk2 e j w3 w4 w5 w6 w7 h' hrr' e1 e2 e3)
        | tok k tx n len =>
         obtain ⟨j2,hj2⟩:∃ j2,j + len = j2:=⟨_,rfl⟩
         have hl:=wordW_tok hw
         have hkk:=wordW_kind hw
         simp only [List.length_cons] at hl hlj hwl
         have hd2:s.drop j2 = (c :: u).drop len:=by rw [← hj2,← hdj,List.drop_drop]
         have hl2:j2 + ((c :: u).drop len).length = s.length:=by rw [List.length_drop]; simp only [List.length_cons]; omega
         have hm2:((c :: u).drop len).length < m:=by rw [List.length_drop]; simp only [List.length_cons]; omega
         have hrE:∀ x,zHh s.length m ((c :: u).drop len) = .error x → zHh s.length (m + 1) r = .error x:=by
          intro x hx
          rw [hrr]
          unfold zHh at hx
          simp only [lexW,hw]
          cases hsk2:zBp ((c :: u).drop len) with
          | mk w2 b2 =>
           rw [hsk2] at hx
           cases b2 with
           | false => exact hx
           | true => dsimp only at hx ⊢; rw [hx]
         have hrO:∀ l,zHh s.length m ((c :: u).drop len) = .ok l → zHh s.length (m + 1) r = .ok ((k,tx,n,j) :: l):=by
          intro l hx
          rw [hrr]
          unfold zHh at hx
          simp only [lexW,hw]
          cases hsk2:zBp ((c :: u).drop len) with
          | mk w2 b2 =>
           rw [hsk2] at hx
           cases b2 with
           | false => cases hx
           | true => dsimp only at hx ⊢; rw [hx]; dsimp only; rw [hposn]
         have hlj:j + (c :: u).length = s.length:=by simp only [List.length_cons]; omega
         have WD:∀ (h:CHeap) (hf:Fit h) (hg:zA1 h.ents p = some (lx s (j:Int) 0 t)) (hp:p < h.next) (K:KT) (hk:∀ n' ty,h.next ≤ n' → zA9 ty n' → K (.agg [.int .i64 (k:Int),.str tx,.int .u64 (n:Int),.int .i64 (j:Int)]) ⟨zA2 h.ents p (lx s (j2:Int) 0 t),n',ty⟩),Wc tree.getF 139 [.ptr p d 0] h K:=fun h hf hg hp K hk => word_L s hs j c u hdj hlj t h p d hf hg hp K (fun n' ty k' tx' n'' len' g1 g2 g3 => by rw [hw] at g3; cases g3; have:=hk n' ty g1 g2; rw [← hj2] at this; exact this) (fun n' ty e' x g1 g2 g3 => by rw [hw] at g3; cases g3)
         rcases S.l with ⟨rfl,rfl⟩ | ⟨iq,vq,rfl,hti,hip,hi0,hin⟩
         · refine rl_tok_n p d s hs t v1 v3 v4 v5 v7 v8 v9 v10 Q h hf i hg hp hov hn0 j k n j2 tx hkk SP WD ?_
           intro q n' ty w3 w4 w5 w7 g1 g2 g3
           refine ih j2 _ hm2 hd2 hl2 _ _ _ _ _ _ _ ?_ ((S.upd (o':=lx s (j2:Int) 0 t) (Nat.le_refl _) S.f.2).app0 (x:=.agg [.int .i64 (k:Int),.str tx,.int .u64 (n:Int),.int .i64 (j:Int)]) (i:=q) (n':=n') (ty:=ty) g1 g2 g3) ?_ ?_
           · simp only [List.length_cons,List.length_nil]; omega
           · intro l w3 w4 w5 w6 w7 h' q v e0 e1 e2 e3 e4 e5
             exact hk1 _ w3 w4 w5 w6 w7 h' q v (hrO l e0) e1 e2 e3 e4 (by (try dsimp only at e5); omega)
           · intro e k2 w3 w4 w5 w6 w7 h' e0 e1 e2 e3
             exact hk2 e k2 w3 w4 w5 w6 w7 h' (hrE _ e0) e1 e2 (by (try dsimp only at e3); omega)
         · refine rl_tok_o p d s hs t v1 v3 v4 v5 v7 v8 v9 v10 Q h hf i hg hp hov hn0 iq vq ts (by omega) hti hip hi0 hin j k n j2 tx hkk SP WD ?_
           intro n' ty w3 w4 w5 w7 g1 g3
           have Su:=S.upd (o':=lx s (j2:Int) 0 t) (n':=h.next) (ty:=h.tys) (Nat.le_refl _) S.f.2
           refine ih j2 _ hm2 hd2 hl2 _ _ _ _ _ _ _ ?_ (Su.app1 (x:=.agg [.int .i64 (k:Int),.str tx,.int .u64 (n:Int),.int .i64 (j:Int)]) (n':=n') (ty:=ty) ((zA0 hip).trans hti) hip hi0 hin g1 g3) ?_ ?_
           · rw [List.length_append]; simp only [List.length_cons,List.length_nil]; omega
           · intro l w3 w4 w5 w6 w7 h' q v e0 e1 e2 e3 e4 e5
             have:=hk1 _ w3 w4 w5 w6 w7 h' q v (hrO l e0) e1 e2 e3 e4 (by (try dsimp only at e5); omega)
             simpa [List.append_assoc] using this
           · intro e k2 w3 w4 w5 w6 w7 h' e0 e1 e2 e3
             exact hk2 e k2 w3 w4 w5 w6 w7 h' (hrE _ e0) e1 e2 (by (try dsimp only at e3); omega)
theorem Sr.mk0 {h:CHeap} {p n':Nat} {o:CObj} {ty:NN} (hf:Fit h) (hp:h.next ≤ p) (hn:p < n') (ht:zA9 ty n'):Sr h.next h.ents p o .nils [] ⟨(p,o) :: h.ents,n',ty⟩ where
 g:=by simp [zA1]
 l:=.inl ⟨rfl,rfl⟩
 d:=⟨[(p,o)],rfl,fun x hx => by simp at hx; subst hx; exact hp,hf.1⟩
 n:=hp
 lt:=hn
 f:=⟨Under.cons hn (hf.1.le om_),ht⟩
theorem rlex_long (s:B8) (hl:3000 < s.length):Pu tree.getF 68 [.str s] (.tup [.nils,.int .i64 3,.int .i64 0]):=by
 intro h hf K hk
 obtain ⟨hu,hut,hX⟩:=fx4 hf
 refine mk_ 68 c68 (s_ ?_)
 repeat (first | refine wx_ ?_ | (refine W.loop ?_; try (generalize e:dropped .. = r; simp (disch:=omega) [hX] at e; subst e; try dsimp only)) | (refine rx_ ?_; (refine hk _ _ ?_ ?_; omega; exact ut_)))
theorem restR_lexF (s:B8) (hl:¬ 3000 < s.length):lexF s = match zHh s.length (s.length + 1) s with
    | .error x => .error x
    | .ok l => .ok (l ++ [(5,[],0,s.length)]):=by
 unfold lexF zHh
 rw [if_neg hl]
 cases zBp s with
 | mk w b => cases b <;> rfl
theorem lex_R (s:B8) (hs:s.length < 60000):Pu tree.getF 68 [.str s] (lexV s):=by
 by_cases hlong:3000 < s.length
 · have:lexV s = .tup [.nils,.int .i64 3,.int .i64 0]:=by unfold lexV lexF; rw [if_pos hlong]; rfl
   rw [this]; exact rlex_long s hlong
 · have hV:lexV s = lexV s:=rfl
   conv at hV => rhs; unfold lexV; rw [restR_lexF s hlong]
   intro h hf K hk
   obtain ⟨hu,hut,hX⟩:=fx4 hf
   refine mk_ 68 c68 (s_ ?_)
   try refine wx_ ?_
   refine rlex_loop (n0:=h.next) (E0:=h.ents) _ _ s hs 0 _ _ _ _ _ (s.length + 1) 0 s (by omega) rfl (by simp) _ [] _ _ _ _ _ (by simp only [List.length_nil]; omega) (Sr.mk0 ⟨hu,hut⟩ ?_ ?_ ?_) ?_ ?_
   · exact om_
   · exact om_
   · exact ut_
   · intro l w3 w4 w5 w6 w7 h' q v e0 e1 e2 e3 e4 e5
     try dsimp only at e5
     rw [e0] at hV
     dsimp only at hV
     rw [hV,List.map_append] at hk
     have hd:=e1.drop
     (try simp only [zAd,zA3,zAb])
     refine endW.of (.inl rfl) rfl ?_
     generalize e:zB4 .. = r0
     simp (disch:=omega) [hd,e2] at e
     subst e
     (try dsimp only)
     refine hk _ _ ?_ ?_
     · omega
     · exact e4
   · intro e k w3 w4 w5 w6 w7 h' e0 e1 e2 e3
     try dsimp only at e3
     rw [e0] at hV
     dsimp only at hV
     rw [hV] at hk
     have hd:=e1.drop
     (try simp only [zAd,zA3,zAb])
     refine endW.of (.inl rfl) rfl ?_
     generalize e9:zB4 _ _ _ = r0
     simp (disch:=omega) [hd] at e9
     subst e9
     (try dsimp only)
     refine hk _ _ ?_ ?_
     · omega
     · exact e2
end Go.Proofs.YtcokdlfmnhjngaaGreat.IrE
namespace Go.Proofs.YtcokdlfmnhjngaaGreat.IrE
open Go Go.CI
open Go.LexF hiding spacesB lettersB
set_option maxRecDepth 100000
set_option maxHeartbeats 4000000
set_option linter.unusedVariables false
set_option linter.unusedSimpArgs false
def brk (c:UInt8):Bool:=!(zB2 ++ [46]).contains c
def Brk (R:B8):Prop:=∀ c r,R = c :: r → brk c = true
structure TokOk (x:B8) (k:Nat) (tx:B8) (n:Nat) (fr:Bool):Prop where
 ne:x ≠ []
 w:∀ R,fr = true ∨ Brk R → zCm zB7 (x ++ R) = .tok k tx n x.length
 s:∀ R,zBp (x ++ R) = (x ++ R,true)
 kk:k ≤ 4
def GapOk (g:B8):Prop:=∀ T,zBp (g ++ T) = zBp T
structure Cel where
 x:B8
 k:Nat
 tx:B8
 n:Nat
 g:B8
 fr:Bool
def rnd:List Cel → B8
 | [] => []
 | p :: r => p.x ++ (p.g ++ rnd r)
def WF:List Cel → Prop
 | [] => True
 | p :: r => TokOk p.x p.k p.tx p.n p.fr ∧ GapOk p.g ∧ (p.fr = true ∨ Brk (p.g ++ rnd r)) ∧ WF r
def toks:Nat → List Cel → List Tok
 | _,[] => []
 | a,p :: r => (p.k,p.tx,p.n,a) :: toks (a + (p.x.length + p.g.length)) r
theorem skip_rnd:∀ ps,WF ps → zBp (rnd ps) = (rnd ps,true)
 | [],_ => zFq
 | p :: r,h => h.1.s _
theorem lex_cells:∀ (ps:List Cel),WF ps → ∀ (total a m:Nat),total = a + (rnd ps).length → (rnd ps).length < m → lexW total m (rnd ps) = .ok (toks a ps)
 | [],_,total,a,m,_,_ => by cases m <;> rfl
 | p :: r,h,total,a,m,ht,hm => by
  obtain ⟨h1,h2,h3,h4⟩:=h
  cases m with
  | zero => omega
  | succ m =>
   have hs:=skip_rnd r h4
   have hw:=h1.w _ h3
   have hne:=h1.ne
   have hlen:(rnd (p :: r)).length = p.x.length + (p.g.length + (rnd r).length):=by simp [rnd]
   have ih:=lex_cells r h4 total (a + (p.x.length + p.g.length)) m (by omega) (by
    have:1 ≤ p.x.length:=by cases hx:p.x with
     | nil => exact absurd hx hne
     | cons c u => simp
    omega)
   have hg:=h2 (rnd r)
   have hd:(p.x ++ (p.g ++ rnd r)).drop p.x.length = p.g ++ rnd r:=List.drop_left
   show lexW total (m + 1) (p.x ++ (p.g ++ rnd r)) = _
   have htl:total - (p.x ++ (p.g ++ rnd r)).length = a:=by
    have:(p.x ++ (p.g ++ rnd r)).length = (rnd (p :: r)).length:=rfl
    omega
   cases hx:p.x ++ (p.g ++ rnd r) with
   | nil => exact absurd (List.append_eq_nil_iff.1 hx).1 hne
   | cons c u =>
    rw [hx] at hw hd htl
    simp only [lexW,hw]
    rw [hd,hg,hs]
    dsimp only
    rw [ih,htl]
    rfl
theorem lexF_cells (ps:List Cel) (h:WF ps) (hl:(rnd ps).length ≤ 3000):lexF (rnd ps) = .ok (toks 0 ps ++ [(5,[],0,(rnd ps).length)]):=by
 unfold lexF
 rw [if_neg (by omega),skip_rnd ps h]
 dsimp only
 rw [lex_cells ps h _ 0 _ (by omega) (by omega)]
theorem Brk.nil:Brk []:=fun c r e => by cases e
theorem rnd_app:∀ (a b:List Cel),rnd (a ++ b) = rnd a ++ rnd b
 | [],_ => rfl
 | p :: r,b => by simp only [List.cons_append,rnd,rnd_app r b,List.append_assoc]
theorem zJ4 {p:UInt8 → Bool} (h:(List.range 256).all (fun k => p (UInt8.ofNat k)) = true) (c:UInt8):p c = true:=by
 have h1:=List.all_eq_true.1 h c.toNat (List.mem_range.2 c.toNat_lt)
 rwa [show UInt8.ofNat c.toNat = c by simp] at h1
def nameB:B8 → Bool
 | [] => false
 | c :: r => Go.LexF.lettersB.contains c && r.all (fun d => zB2.contains d)
def numB:B8 → Bool
 | [] => false
 | c :: r => (D10.contains c && c != 48) && r.all (fun d => D10.contains d)
theorem fr_all (cs:B8):∀ (x R:B8),(∀ d ∈ x,cs.contains d = true) → (∀ c r,R = c :: r → cs.contains c = false) → fr cs (x ++ R) = x
 | [],R,_,h => by
  cases R with
  | nil => rfl
  | cons c r =>
   have:=h c r rfl
   show fr cs (c :: r) = []
   unfold fr
   rw [List.takeWhile_cons,this]; rfl
 | d :: x,R,h,h2 => by
  have h1:=h d (by simp)
  have ih:=fr_all cs x R (fun e he => h e (by simp [he])) h2
  show fr cs (d :: (x ++ R)) = d :: x
  unfold fr at ih ⊢
  rw [List.takeWhile_cons,h1,if_pos rfl,ih]
theorem zDo {c:UInt8} (h:brk c = true):zB2.contains c = false ∧ c ≠ 46 ∧ D10.contains c = false ∧ D8.contains c = false ∧ zB3.contains c = false ∧ c ≠ 120 ∧ c ≠ 88 ∧ (zB2 ++ [46]).contains c = false:=by
 have:=zJ4 (p:=fun c => !(brk c) || (!(zB2.contains c) && c != 46 && !(D10.contains c) && !(D8.contains c) && !(zB3.contains c) && c != 120 && c != 88 && !((zB2 ++ [46]).contains c))) (by decide +kernel) c
 rw [h] at this
 simp only [Bool.not_true,Bool.false_or,Bool.and_eq_true,Bool.not_eq_true',bne_iff_ne,ne_eq] at this
 obtain ⟨⟨⟨⟨⟨⟨⟨h1,h2⟩,h3⟩,h4⟩,h5⟩,h6⟩,h7⟩,h8⟩:=this
 exact ⟨h1,h2,h3,h4,h5,h6,h7,h8⟩
theorem zJw {c:UInt8} (h1:Go.LexF.spacesB.contains c = false) (h2:c ≠ 47) (r:B8):zBp (c :: r) = (c :: r,true):=by
 rw [zE4,h1,if_neg h2]; rfl
theorem let_props {c:UInt8} (h:Go.LexF.lettersB.contains c = true):Go.LexF.spacesB.contains c = false ∧ c ≠ 47 ∧ c ≠ 46 ∧ zB2.contains c = true:=by
 have:=zJ4 (p:=fun c => !(Go.LexF.lettersB.contains c) || (!(Go.LexF.spacesB.contains c) && c != 47 && c != 46 && zB2.contains c)) (by decide +kernel) c
 rw [h] at this
 simp only [Bool.not_true,Bool.false_or,Bool.and_eq_true,Bool.not_eq_true',bne_iff_ne,ne_eq] at this
 obtain ⟨⟨⟨h1,h2⟩,h3⟩,h4⟩:=this
 exact ⟨h1,h2,h3,h4⟩
theorem tailF_brk {R:B8} (h:Brk R):zHa R = 0:=by
 cases R with
 | nil => rw [zHa]
 | cons c r => rw [zHa,if_neg (zDo (h c r rfl)).2.1]
theorem zAv {x:B8} (h:nameB x = true):TokOk x 1 x 0 false:=by
 cases x with
 | nil => cases h
 | cons c r =>
  simp only [nameB,Bool.and_eq_true] at h
  obtain ⟨h1,h2⟩:=h
  obtain ⟨p1,p2,p3,p4⟩:=let_props h1
  have hall:∀ d ∈ c :: r,zB2.contains d = true:=by
   intro d hd
   rcases List.mem_cons.1 hd with rfl | hd
   · exact p4
   · exact List.all_eq_true.1 h2 d hd
  refine ⟨by simp,fun R hR => ?_,fun R => zJw p1 p2 _,by omega⟩
  replace hR:=hR.resolve_left (by simp)
  have hf:=fr_all zB2 (c :: r) R hall (fun c r e => (zDo (hR c r e)).1)
  have hw:zEv (c :: (r ++ R)) = (c :: r).length:=by
   simp only [zEv,h1,if_true]
   exact congrArg List.length hf
  have hn:zE8 (c :: (r ++ R)) = (c :: r).length:=by
   simp only [zE8]
   rw [if_neg p3,hw,if_neg (by simp)]
   have:(c :: (r ++ R)).drop (c :: r).length = R:=List.drop_left (l₁:=c :: r)
   rw [this,tailF_brk hR]
   rfl
  show zCm zB7 (c :: (r ++ R)) = _
  simp only [zCm]
  rw [hn,if_pos (by simp)]
  have:(c :: (r ++ R)).take (c :: r).length = c :: r:=List.take_left (l₁:=c :: r)
  rw [this]
theorem dig_props {c:UInt8} (h:D10.contains c = true):Go.LexF.spacesB.contains c = false ∧ c ≠ 47 ∧ c ≠ 46 ∧ Go.LexF.lettersB.contains c = false ∧ digF c ≤ 9:=by
 have:=zJ4 (p:=fun c => !(D10.contains c) || (!(Go.LexF.spacesB.contains c) && c != 47 && c != 46 && !(Go.LexF.lettersB.contains c) && decide (digF c ≤ 9))) (by decide +kernel) c
 rw [h] at this
 simp only [Bool.not_true,Bool.false_or,Bool.and_eq_true,Bool.not_eq_true',bne_iff_ne,ne_eq,decide_eq_true_eq] at this
 obtain ⟨⟨⟨⟨h1,h2⟩,h3⟩,h4⟩,h5⟩:=this
 exact ⟨h1,h2,h3,h4,h5⟩
theorem zHl {c:UInt8} {r:B8} (h1:c ≠ 46) (h2:Go.LexF.lettersB.contains c = false):zE8 (c :: r) = 0:=by
 have hw:zEv (c :: r) = 0:=by simp only [zEv]; rw [h2]; rfl
 simp only [zE8]
 rw [if_neg h1,hw,if_pos rfl]
theorem zKr:∀ (x:B8) (n:Nat),(∀ d ∈ x,D10.contains d = true) → valF 10 n x < (n + 1) * 10 ^ x.length
 | [],n,_ => by simp [valF]
 | d :: x,n,h => by
  have h1:=zKr x (n * 10 + digF d) (fun e he => h e (by simp [he]))
  have h2:=(dig_props (h d (by simp))).2.2.2.2
  simp only [valF,List.length_cons]
  refine Nat.lt_of_lt_of_le h1 ?_
  rw [Nat.pow_succ,Nat.mul_comm (10 ^ x.length) 10,← Nat.mul_assoc]
  exact Nat.mul_le_mul_right _ (by omega)
theorem num_ok {x:B8} (h:numB x = true) (hl:x.length ≤ 3):TokOk x 2 [] (valF 10 0 x) false:=by
 cases x with
 | nil => cases h
 | cons c r =>
  simp only [numB,Bool.and_eq_true,bne_iff_ne,ne_eq] at h
  obtain ⟨⟨h1,h0⟩,h2⟩:=h
  obtain ⟨p1,p2,p3,p4,p5⟩:=dig_props h1
  have hall:∀ d ∈ c :: r,D10.contains d = true:=by
   intro d hd
   rcases List.mem_cons.1 hd with rfl | hd
   · exact h1
   · exact List.all_eq_true.1 h2 d hd
  refine ⟨by simp,fun R hR => ?_,fun R => zJw p1 p2 _,by omega⟩
  replace hR:=hR.resolve_left (by simp)
  have hf:=fr_all D10 (c :: r) R hall (fun c r e => (zDo (hR c r e)).2.2.1)
  have hnf:numF (c :: (r ++ R)) = (10,0,c :: r):=by
   unfold numF
   rw [if_neg,if_neg]
   · exact congrArg (fun z => (10,0,z)) hf
   · simpa using h0
   · rintro ⟨h | h,_⟩
     · simp at h; exact h0 h.1
     · simp at h; exact h0 h.1
  have hv:=zKr (c :: r) 0 hall
  have hv2:valF 10 0 (c :: r) < 18446744073709551616:=by
   refine Nat.lt_of_lt_of_le hv ?_
   have:10 ^ (c :: r).length ≤ 10 ^ 3:=Nat.pow_le_pow_right (by omega) hl
   omega
  have hd:(c :: (r ++ R)).drop (0 + (c :: r).length) = R:=by rw [Nat.zero_add]; exact List.drop_left (l₁:=c :: r)
  show zCm zB7 (c :: (r ++ R)) = _
  simp only [zCm]
  rw [zHl p3 p4,if_neg (by omega),if_pos h1]
  unfold numW
  rw [hnf]
  dsimp only
  rw [if_neg (by omega),hd]
  cases R with
  | nil => simp
  | cons e u => dsimp only; rw [(zDo (hR e u rfl)).2.2.2.2.2.2.2]; simp
theorem zero_ok:TokOk [48] 2 [] 0 false:=by
 refine ⟨by simp,fun R hR => ?_,fun R => zJw (by decide) (by decide) _,by omega⟩
 replace hR:=hR.resolve_left (by simp)
 show zCm zB7 (48 :: R) = _
 have hnf:numF (48 :: R) = (8,0,[48]):=by
  unfold numF
  rw [if_neg,if_pos (show (48 :: R).head? = some 48 from rfl)]
  · refine congrArg (fun z => (8,0,z)) ?_
    exact fr_all D8 [48] R (by decide) (fun c r e => (zDo (hR c r e)).2.2.2.1)
  · rintro ⟨h | h,_⟩
    · cases R with
      | nil => simp at h
      | cons e u => simp at h; exact (zDo (hR e u rfl)).2.2.2.2.2.1 h
    · cases R with
      | nil => simp at h
      | cons e u => simp at h; exact (zDo (hR e u rfl)).2.2.2.2.2.2.1 h
 simp only [zCm]
 rw [zHl (by decide) (by decide),if_neg (by omega),if_pos (by decide)]
 unfold numW
 rw [hnf]
 dsimp only
 rw [if_neg (by decide)]
 cases R with
 | nil => rfl
 | cons e u =>
  have hb:=(zDo (hR e u rfl)).2.2.2.2.2.2.2
  simp only [List.length_cons,List.length_nil,Nat.zero_add,List.drop_succ_cons,List.drop_zero,hb,Bool.false_eq_true,if_false]
  rfl
theorem zAr {c:UInt8} (h:zIi.contains c = true):TokOk [c] 4 [c] 0 true:=by
 have:=zJ4 (p:=fun c => !(zIi.contains c) || (!(Go.LexF.spacesB.contains c) && c != 47 && c != 46 && !(Go.LexF.lettersB.contains c) && !(D10.contains c) && c != 34 && c != 39)) (by decide +kernel) c
 rw [h] at this
 simp only [Bool.not_true,Bool.false_or,Bool.and_eq_true,Bool.not_eq_true',bne_iff_ne,ne_eq] at this
 obtain ⟨⟨⟨⟨⟨⟨h1,h2⟩,h3⟩,h4⟩,h5⟩,h6⟩,h7⟩:=this
 refine ⟨by simp,fun R hR => ?_,fun R => zJw h1 h2 _,by omega⟩
 show zCm zB7 (c :: R) = _
 simp only [zCm]
 rw [zHl h3 h4,if_neg (by omega),h5,if_neg (by decide),if_neg (by rintro (e | e); exact h6 e; exact h7 e),if_pos h]
 rfl
theorem zDh {c:UInt8} {r:B8} (h:c.toNat < 128):zB7 (c :: r) = zB7 r:=by
 have e:ptF (c :: r) = 1:=by simp only [ptF]; rw [if_pos h]
 conv => lhs; rw [zB7]
 rw [dif_neg (by rw [e]; decide),e]
 rfl
theorem proto_ok:TokOk [34,112,114,111,116,111,51,34] 3 [112,114,111,116,111,51] 0 true:=by
 refine ⟨by simp,fun R hR => ?_,fun R => zJw (by decide) (by decide) _,by omega⟩
 show zCm zB7 (34 :: 112 :: 114 :: 111 :: 116 :: 111 :: 51 :: 34 :: R) = _
 have ht:zBe 34 (112 :: 114 :: 111 :: 116 :: 111 :: 51 :: 34 :: R) [] 0 = some ([112,114,111,116,111,51],7):=by
  have hl:zBe 34 (34 :: R) [112,114,111,116,111,51] 6 = some ([112,114,111,116,111,51],7):=by unfold zBe; rw [if_pos rfl]
  simp [zBe,hl]
 simp only [zCm]
 rw [zHl (by decide) (by decide),if_neg (by omega),if_neg (by decide),if_pos (by decide),ht]
 dsimp only
 have hv:zB7 [112,114,111,116,111,51] = true:=by
  rw [zDh (by decide),zDh (by decide),zDh (by decide),zDh (by decide),zDh (by decide),zDh (by decide),zB7]
  rfl
 rw [hv]; rfl
theorem zLu:GapOk []:=fun T => rfl
theorem gap_sp {c:UInt8} (h:Go.LexF.spacesB.contains c = true) {g:B8} (hg:GapOk g):GapOk (c :: g):=fun T => by
 show zBp (c :: (g ++ T)) = _
 rw [zE4,h,if_pos rfl,hg]
def Sep (p:Cel) (r:List Cel):Prop:=p.fr = true ∨ (∃ b g',p.g = b :: g' ∧ brk b = true) ∨ (p.g = [] ∧ ∃ q r',r = q :: r' ∧ ∃ b x',q.x = b :: x' ∧ brk b = true)
def WFB:List Cel → Prop
 | [] => True
 | p :: r => TokOk p.x p.k p.tx p.n p.fr ∧ GapOk p.g ∧ Sep p r ∧ WFB r
theorem brk_cons {b:UInt8} {r:B8} (h:brk b = true):Brk (b :: r):=fun c r' e => by cases e; exact h
theorem WFB.wf:∀ {ps:List Cel},WFB ps → WF ps
 | [],_ => trivial
 | p :: r,h => by
  obtain ⟨h1,h2,h3,h4⟩:=h
  refine ⟨h1,h2,?_,h4.wf⟩
  rcases h3 with h3 | ⟨b,g,e,hb⟩ | ⟨e,q,r',rfl,b,x',e2,hb⟩
  · exact .inl h3
  · rw [e]; exact .inr (brk_cons hb)
  · rw [e]
    refine .inr ?_
    show Brk (rnd (q :: r'))
    simp only [rnd,e2]
    exact brk_cons hb
theorem Sep.app {p:Cel} {r:List Cel} (h:Sep p r) (s:List Cel):Sep p (r ++ s):=by
 rcases h with h | h | ⟨e,q,r',rfl,hq⟩
 · exact .inl h
 · exact .inr (.inl h)
 · exact .inr (.inr ⟨e,q,r' ++ s,rfl,hq⟩)
theorem WFB.app:∀ {a b:List Cel},WFB a → WFB b → WFB (a ++ b)
 | [],_,_,h => h
 | p :: r,b,h,hb => ⟨h.1,h.2.1,h.2.2.1.app b,h.2.2.2.app hb⟩
def Blk (t:B8):Prop:=∃ ps,WFB ps ∧ rnd ps = t
theorem Blk.nil:Blk []:=⟨[],trivial,rfl⟩
theorem Blk.app {a b:B8} (ha:Blk a) (hb:Blk b):Blk (a ++ b):=by
 obtain ⟨p,h1,rfl⟩:=ha
 obtain ⟨q,h2,rfl⟩:=hb
 exact ⟨p ++ q,h1.app h2,rnd_app p q⟩
inductive Bits : B8 → Bool → Prop   -- the flag: it begins with what breaks words off
 | nil:Bits [] false
 | gap {x tx r:B8} {k n:Nat} {f b fr:Bool} {c:UInt8}:TokOk x k tx n fr → Go.LexF.spacesB.contains c = true → brk c = true → Bits r f → b = (match x with | [] => false | d :: _ => brk d) → Bits (x ++ c :: r) b
 | dir {x tx r:B8} {k n:Nat} {b f fr:Bool}:TokOk x k tx n fr → Bits r f → (fr || f) = true → b = (match x with | [] => false | d :: _ => brk d) → Bits (x ++ r) b
theorem Bits.cels {t:B8} {b:Bool} (h:Bits t b):∃ ps,WFB ps ∧ rnd ps = t ∧ (b = true → ∃ q r',ps = q :: r' ∧ ∃ c x',q.x = c :: x' ∧ brk c = true):=by
 induction h with
 | nil => exact ⟨[],trivial,rfl,fun h => by cases h⟩
 | @gap x tx r k n f b fr c h1 h2 h3 _ hb ih =>
  obtain ⟨ps,w,e,_⟩:=ih
  refine ⟨⟨x,k,tx,n,[c],fr⟩ :: ps,⟨h1,gap_sp h2 zLu,.inr (.inl ⟨c,[],rfl,h3⟩),w⟩,by simp [rnd,e],fun hbt => ⟨_,_,rfl,?_⟩⟩
  rw [hbt] at hb
  cases x with
  | nil => cases hb
  | cons d y => exact ⟨d,y,rfl,hb.symm⟩
 | @dir x tx r k n b f fr h1 _ ho hb ih =>
  obtain ⟨ps,w,e,hq⟩:=ih
  refine ⟨⟨x,k,tx,n,[],fr⟩ :: ps,⟨h1,zLu,?_,w⟩,by simp [rnd,e],fun hbt => ⟨_,_,rfl,?_⟩⟩
  · cases hfr:fr with
    | true => exact .inl rfl
    | false =>
     rw [hfr] at ho
     obtain ⟨q,r',hz,hz2⟩:=hq (by simpa using ho)
     exact .inr (.inr ⟨rfl,q,r',hz,hz2⟩)
  · rw [hbt] at hb
    cases x with
    | nil => cases hb
    | cons d y => exact ⟨d,y,rfl,hb.symm⟩
theorem Bits.blk {t:B8} {b:Bool} (h:Bits t b):Blk t:=by
 obtain ⟨ps,w,e,_⟩:=h.cels
 exact ⟨ps,w,e⟩
theorem dig_name {S:B8} (h:numB S = true):∀ d ∈ S,zB2.contains d = true:=by
 cases S with
 | nil => cases h
 | cons c r =>
  simp only [numB,Bool.and_eq_true] at h
  have f:∀ d,D10.contains d = true → zB2.contains d = true:=by
   intro d hd
   have:=zJ4 (p:=fun c => !(D10.contains c) || zB2.contains c) (by decide +kernel) d
   rw [hd] at this; simpa using this
  intro d hd
  rcases List.mem_cons.1 hd with rfl | hd
  · exact f _ h.1.1
  · exact f _ (List.all_eq_true.1 h.2 d hd)
theorem fname {c:UInt8} {S:B8} (hc:Go.LexF.lettersB.contains c = true) (h:numB S = true):nameB (c :: S) = true:=by
 simp only [nameB,hc,Bool.true_and]
 exact List.all_eq_true.2 (dig_name h)
end Go.Proofs.YtcokdlfmnhjngaaGreat.IrE
namespace Go.Proofs.YtcokdlfmnhjngaaGreat.IrE
open Go Go.CI
set_option maxRecDepth 100000
set_option maxHeartbeats 4000000
set_option linter.unusedVariables false
set_option linter.unusedSimpArgs false
attribute [local irreducible] W Wo Wc WoR
def Pe (f:Nat) (ar:List CVal) (v:CVal):Prop:=∀ (h:CHeap),Fit h → ∀ (K:KT),(∀ n',h.next ≤ n' → K v ⟨h.ents,n',h.tys⟩) → Wc tree.getF f ar h K
theorem un2_ {l:EE} {n:Nat} (h:Under l n:=by repeat (first | exact hu.le (by (try dsimp only); omega) | exact hu.set.le (by (try dsimp only); omega) | exact hu.set.set.le (by (try dsimp only); omega) | exact hu.set.set.set.le (by (try dsimp only); omega) | refine Under.cons (by (try dsimp only); omega) ?_ | exact Under.nil)):Under l n:=h
theorem ft_ {h:CHeap} (hf:Fit h:=by exact ⟨un2_,ut_⟩):Fit h:=hf
theorem pe_ {f:Nat} {ar:List CVal} {v:CVal} (H:Pe f ar v) {h:CHeap} {K:KT} (hk:∀ n2,h.next ≤ n2 → K v ⟨h.ents,n2,h.tys⟩) (hf:Fit h:=by exact ft_):Wc tree.getF f ar h K:=H h hf K hk
attribute [simp] zEx zDc
abbrev pk (L:CVal) (n:Int):CObj:=.cells [L,.int .i64 n]
def Nums (L:CVal):Prop:=L = .nils ∨ ∃ xs:List Int,L = .imm .none 1 (xs.map (CVal.int .u8)) ∧ xs.length ≤ 1000 ∧ ∀ x ∈ xs,0 ≤ x ∧ x < 256
theorem fxp {E:EE} {nx p:Nat} {o:CObj} (hu:Under E nx) (hg:zA1 E p = some o):(∀ x,zA1 (zA2 E p x) p = some x) ∧ (∀ x m,nx ≤ m → zBf (zA2 E p x) m = zA2 E p x) ∧ (∀ x m,nx ≤ m → zAc (zA2 E p x) m = zA2 E p x) ∧ (∀ x q,nx ≤ q → zA1 (zA2 E p x) q = none) :=
 ⟨fun x => zA6 hg,fun x m hm => zCa (hu.set.le hm),fun x m hm => zAj (hu.set.le hm),fun x q hq => zDl hu.set hq⟩
def PkC (f:Nat) (args:List CVal) (R:CVal → Prop):Prop:=∀ (E:EE) (nx:Nat) (ty:NN) (p d:Nat) (L:CVal) (o:CObj),Under E nx → zA9 ty nx → zA1 E p = some o → Nums L → ∀ (j:Int),0 ≤ j → j < 5000 → ∀ K:KT,
 (∀ n2 j2 v,nx ≤ n2 → 0 ≤ j2 → j2 < 5000 → R v → K v ⟨zA2 E p (pk L j2),n2,ty⟩) → Wc tree.getF f (.ptr p d 0 :: args) ⟨zA2 E p (pk L j),nx,ty⟩ K
theorem num_F (m:Int) (hm:1 ≤ m ∧ m ≤ 200):PkC 37 [.int .i64 m] fun v => ∃ k:Nat,v = .int .i64 (k:Int) ∧ (k:Int) < m:=by
 intro E nx ty p d L o hu hut hg hL j hj0 hj1 K hk
 have hY:=fxp hu hg
 have hm1:=hm.1
 have hm2:=hm.2
 rcases hL with rfl | ⟨xs,rfl,hxl,hx⟩
 · refine mk_ 37 c37 ?_
   generalize e:zCq .. = r
   simp (disch:=omega) [c37] at e
   subst e
   have hZ:=hY
   repeat (first
    | refine wk_ ?_
    | (refine rk_ ?_; exact hk _ _ _ om_ hj0 hj1 ⟨0,rfl,by omega⟩))
 · have hlen:(xs.map (CVal.int .u8)).length = xs.length:=by simp
   rcases Int.lt_or_le j xs.length with hlt | hge
   · obtain ⟨i,rfl⟩:∃ i:Nat,j = (i:Int):=⟨j.toNat,by omega⟩
     have hi:i < xs.length:=by omega
     have hxi:=hx xs[i] (List.getElem_mem hi)
     have hn:nth (xs.map (CVal.int .u8)) i = .int .u8 xs[i]:=zCs (CVal.int .u8) xs i _ (List.getElem?_eq_getElem hi)
     generalize xs[i] = a at *
     generalize xs.map (CVal.int .u8) = XS at *
     have hw:IntKind.i64.wrap a = a:=by simp [IntKind.wrap,IntKind.bits,IntKind.signed]; omega
     have ht0:=Int.tmod_nonneg m hxi.1
     have ht1:=Int.tmod_lt_of_pos a (show (0:Int) < m by omega)
     have hmz:(m == 0) = false:=beq_eq_false_iff_ne.2 (by omega)
     have hmz2:¬ m = 0:=by omega
     have hw2:IntKind.i64.wrap (a.tmod m) = a.tmod m:=by simp [IntKind.wrap,IntKind.bits,IntKind.signed]; omega
     have he:(i:Int) + 1 - 1 = (i:Int):=by omega
     refine mk_ 37 c37 (s_ ?_)
     have hZ:=j8_ hY hlen hn hw hw2 hmz hmz2 he
     repeat (first
      | refine wk_ ?_
      | (refine rk_ ?_; exact hk _ _ _ om_ (by omega) (by omega) ⟨(a.tmod m).toNat,by rw [Int.toNat_of_nonneg ht0],by omega⟩))
   · generalize xs.map (CVal.int .u8) = XS at *
     refine mk_ 37 c37 (s_ ?_)
     have hZ:=j2_ hY hlen
     repeat (first
      | refine wk_ ?_
      | (refine rk_ ?_; exact hk _ _ _ om_ hj0 hj1 ⟨0,rfl,by omega⟩))
def W18:List (B8):=[[105,110,116,51,50],[115,116,114,105,110,103],[105,110,116,54,52],[98,111,111,108],[98,121,116,101,115],[117,105,110,116,51,50],[117,105,110,116,54,52],[115,105,110,116,51,50],[115,105,110,116,54,52],[102,105,120,101,100,51,50],[102,105,120,101,100,54,52],[115,102,105,120,101,100,51,50],[115,102,105,120,101,100,54,52],[100,111,117,98,108,101],[102,108,111,97,116],[69],[73],[77]]
theorem word_F:PkC 130 [] fun v => ∃ t,t ∈ W18 ∧ v = .str t:=by
 intro E nx ty p d L o hu hut hg hL j hj0 hj1 K hk
 have hY:=fxp hu hg
 refine mk_ 130 c130 (s_ ?_)
 have hZ:=hY
 repeat (first
  | refine wk_ ?_
  | (refine num_F 18 (by decide) E _ _ p d L o (hu.le om_) (hut.le om_) hg hL j hj0 hj1 _ fun n2 j2 v g1 g2 g3 g4 => ?_; (obtain ⟨k,rfl,g5⟩:=g4); (refine ⟨rfl,?_⟩)))
 have k1:k < 18:=by omega
 have hwn:nth (W18.map CVal.str) k = .str (W18[k]?.getD []):=zCs CVal.str W18 k _ (by rw [List.getElem?_eq_getElem (show k < W18.length from k1)]; rfl)
 have hwm:W18[k]?.getD [] ∈ W18:=by rw [List.getElem?_eq_getElem (show k < W18.length from k1)]; exact List.getElem_mem _
 have hwl:(W18.map CVal.str).length = 18:=rfl
 rw [show W18.map CVal.str = [.str [105,110,116,51,50],.str [115,116,114,105,110,103],.str [105,110,116,54,52],.str [98,111,111,108],.str [98,121,116,101,115],.str [117,105,110,116,51,50],.str [117,105,110,116,54,52],.str [115,105,110,116,51,50],.str [115,105,110,116,54,52],.str [102,105,120,101,100,51,50],.str [102,105,120,101,100,54,52],.str [115,102,105,120,101,100,51,50],.str [115,102,105,120,101,100,54,52],.str [100,111,117,98,108,101],.str [102,108,111,97,116],.str [69],.str [73],.str [77]] from rfl] at hwn hwl
 generalize W18[k]?.getD [] = t at *
 have k2:(k:Int) < 18:=g5
 have hZ:=j4_ hY hwn k1 k2
 repeat (first
  | refine wk_ ?_
  | (refine rk_ ?_; exact hk _ _ _ (by (try dsimp only at g1 ⊢); omega) g2 g3 ⟨t,hwm,rfl⟩))
def dgt (r:Nat):UInt8:=UInt8.ofNat (48 + r)
def dg (n:Nat):B8:=if n < 10 then [dgt n] else if n < 100 then [dgt (n / 10),dgt (n % 10)] else [dgt (n / 100),dgt (n / 10 % 10),dgt (n % 10)]
end Go.Proofs.YtcokdlfmnhjngaaGreat.IrE
