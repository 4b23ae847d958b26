/- A deterministic interpreter over values, proved sound against the model's rules (part 5 of 7): what a run of it gives, a call in the model gives. -/
import Derived.Test.YtafeofghkhhhkaaGreatCi4
import Derived.LoopN
import Derived.Defers
import Derived.Lib.Bytealg
import Derived.Shelf.Spec.SlicesInsertGrow
set_option linter.unusedVariables false
set_option linter.unusedSimpArgs false
namespace Go.CI
open Go.RowKit
theorem cell_of_heap {w w':World} (h:w'.heap=w.heap) (a:Addr):w'.cell? a=w.cell? a:=by unfold World.cell?;rw [h]
theorem frozen_of_heap {w w':World} (h:w'.heap=w.heap) (a:Addr):w'.frozen? a=w.frozen? a:=by unfold World.frozen?;rw [h]
theorem Inv.of_heap {base:Base} {G:Gh} {h:CHeap} {w w':World} (I:Inv base G h w) (he:w'.heap=w.heap):Inv base G h w':=by
 obtain ⟨own,I⟩:=I
 have hl:∀ ab i,Live w ab i->Live w' ab i:=fun ab i ⟨⟨v,h1⟩,h2⟩=>⟨⟨v,by rw [cell_of_heap he];exact h1⟩,by rw [frozen_of_heap he];exact h2⟩
 have hh:∀ ab i c,Holds G w ab i c->Holds G w' ab i c:=fun ab i c ⟨v,h1,h2⟩=>⟨v,by rw [cell_of_heap he];exact h1,h2⟩
 refine ⟨own,fun ab o c hf=>⟨(I.fzs ab o c hf).1,hh _ _ _ (I.fzs ab o c hf).2⟩,fun b ab k hm=>⟨(I.mus b ab k hm).1,(I.mus b ab k hm).2.1,fun i hi=>⟨((I.mus b ab k hm).2.2.1 i hi).1,hl _ _ ((I.mus b ab k hm).2.2.1 i hi).2⟩,fun hk=>⟨((I.mus b ab k hm).2.2.2.1 hk).1,by rw [he];exact ((I.mus b ab k hm).2.2.2.1 hk).2⟩,fun hk=>by unfold World.shape?;rw [he];exact (I.mus b ab k hm).2.2.2.2 hk⟩,I.rws,I.tks,fun b o ho=>⟨(I.ents b o ho).1,?_⟩,fun ab o x hx=>by rw [he];exact I.old ab o x hx,by rw [he];exact I.top,I.nod,fun b v x hx=>⟨by rw [he];exact (I.cln b v x hx).1,fun st T n hs=>by rw [frozen_of_heap he];exact (I.cln b v x hx).2 st T n (by unfold World.shape? at hs ⊢;rw [<- he];exact hs)⟩,I.gls,I.tyk,fun b T ht v x hx=>⟨by unfold RowB;rw [he];exact (I.tys b T ht v x hx).1,(I.tys b T ht v x hx).2⟩⟩
 have hb:=(I.ents b o ho).2
 cases o with
 | cells cs=>exact fun ab k hm=>⟨(hb ab k hm).1,fun i c hi=>⟨((hb ab k hm).2 i c hi).1,hh _ _ _ ((hb ab k hm).2 i c hi).2⟩⟩
 | row ver es=>exact ⟨hb.1,fun ab ao k cap hr=>let ⟨h1,h2,h3,h4⟩:=hb.2 ab ao k cap hr;⟨h1,h2,fun i hi=>⟨(h3 i hi).1,hl _ _ (h3 i hi).2⟩,fun i e hie=>⟨(h4 i e hie).1,fun j c hj=>⟨((h4 i e hie).2 j c hj).1,hh _ _ _ ((h4 i e hie).2 j c hj).2⟩⟩⟩⟩
 | tok ver=>exact ⟨hb.1,fun ab e k room ht=>⟨(hb.2 ab e k room ht).1,fun i hi=>⟨((hb.2 ab e k room ht).2 i hi).1,hl _ _ ((hb.2 ab e k room ht).2 i hi).2⟩⟩⟩
 | frow ver es=>exact ⟨hb.1,fun ab ao k cap hr=>let ⟨h0,h1,h2,h3⟩:=hb.2 ab ao k cap hr;⟨h0,h1,fun i hi=>⟨(h2 i hi).1,by rw [he];exact (h2 i hi).2⟩,fun i e hie=>⟨(h3 i e hie).1,fun j c hj=>⟨((h3 i e hie).2 j c hj).1,hh _ _ _ ((h3 i e hie).2 j c hj).2⟩⟩⟩⟩
 | map ck kvs=>exact fun ab hm=>let ⟨es,h1,h2⟩:=hb ab hm;⟨es,by rw [he];exact h1,h2⟩
theorem Inv.bump {base:Base} {G:Gh} {h:CHeap} {w:World} (I:Inv base G h w) (n:Nat):Inv base G { h with next:=h.next+n } w:=by
 obtain ⟨own,I⟩:=I
 exact ⟨own,I.sub (h':={ h with next:=h.next+n }) (List.Sublist.refl _) (Nat.le_add_right _ _) rfl⟩
theorem Inv.freshAt {base:Base} {G:Gh} {h:CHeap} {w:World} (I:Inv base G h w) {i:Nat} (hi:h.next<=i) (n:Nat):zCw G { h with next:=h.next+n } i:=by
 obtain ⟨own,I⟩:=I
 refine ⟨?_,fun v=>?_,fun v=>?_,?_⟩
 . cases hm:G.mu i with
   | none=>rfl
   | some x=>have:=(I.mus i x.1 x.2 hm).1;omega
 . cases hm:G.rw i v with
   | none=>rfl
   | some x=>have:=I.rws i v x hm;omega
 . cases hm:G.tk i v with
   | none=>rfl
   | some x=>have:=I.tks i v x hm;omega
 . show h.get i=none
   cases hm:h.get i with
   | none=>rfl
   | some x=>have:=(I.ents i x hm).1;omega
theorem zKc {P:Program} {base:Base} {E:Env} {T:Nat->Option CFn} {ex:CCode->CSt->Option (CExit × CSt)} {rg:Nat} {ops:Array Oper} {draw:Bool} {cc:CCode} {st st':CSt} {x:CExit} (hE:E.P=P) (hglob:zDn E.H.globals base.gl) (hmixed:P.follows .mixedOrders=true)
    (hc:zJg E rg ops.toList draw=some cc) (hx:zAx T ex cc st=some (x,st')) (hsim:zGm P base (zDp T ex)) {G:Gh} {a:Act} {w:World} (A:AR E G st.tm st.defs a) (I:Inv base G st.h w) {Q:Exit->Act->World->Prop}
    (hQ:∀ G' a' w',AR E G' st'.tm st'.defs a'->Post base (fun _=>False) G st.h w G' st'.h w'->Q .normal a' w'):x=.normal/\(Code.region rg ops draw).wp P Q a w:=by
 unfold zJg at hc
 split at hc
 . rename_i cs hcs
   split at hc
   . rename_i hdst
     have C:=zSb hcs
     have main:∀ (wb:List (Nat × Nat)) (chk:List (Nat × Nat × Nat)) (sw:List (Nat × Nat)),wb=wbOf E.vars ops.toList->zAx T ex (.region cs wb chk sw) st=some (x,st') ->
         ∃ (tr:Nat->RS) (r:Nat->CVal),Run (zDp T ex) st.tm st.h.next cs tr r/\tr 0=⟨[],{ st.h with next:=st.h.next+cs.length },st.defs,[]⟩/\x=.normal/\st'=⟨zBu cs.length (tr cs.length).vals st.tm wb,(tr cs.length).h,(tr cs.length).defs⟩ /\
          chk.all (zF5 st.tm cs cs.length (tr cs.length).vals ((tr cs.length).h::(tr cs.length).hs).reverse)=true/\sw.all (zGk st.tm cs cs.length (tr cs.length).vals)=true:=by
      intro wb chk sw hwb hx
      simp only [zAx] at hx
      split at hx
      . rename_i s hs
        obtain ⟨tr,r,h0,hn,hst⟩:=zOo cs _ _ _ hs
        split at hx
        . rename_i hck
          simp only [Bool.and_eq_true] at hck
          cases hx
          refine ⟨tr,r,⟨by rw [h0],by rw [h0],hst⟩,h0,rfl,by rw [hn],?_,?_⟩
          . rw [hn];exact hck.1
          . rw [hn];exact hck.2
        . cases hx
      . cases hx
     have hres:∀ i,i<cs.length->st.h.next+i<({ st.h with next:=st.h.next+cs.length }:CHeap).next/\zCw G { st.h with next:=st.h.next+cs.length } (st.h.next+i):=fun i hi=>⟨by show st.h.next+i<st.h.next+cs.length;omega,I.freshAt (by omega) _⟩
     have hfin:∀ {w0:World} {tr:Nat->RS} {G':Gh} {w':World},w0.heap=w.heap->Below base w w0->Post base (fun k=>st.h.next<=k) G { st.h with next:=st.h.next+cs.length } w0 G' (tr cs.length).h w'->Post base (fun _=>False) G st.h w G' (tr cs.length).h w':=fun h1 h2 hp =>
      ⟨hp.le,hp.inv,h2.trans hp.below,Nat.le_trans (Nat.le_add_right _ _) hp.next,fun i hi _ hf=>hp.fresh i (Nat.lt_of_lt_of_le hi (Nat.le_add_right _ _)) (by omega) hf⟩
     have J0:∀ {w0:World} {tr:Nat->RS} {r:Nat->CVal} {sw:List (Nat × Nat)},w0.heap=w.heap->tr 0=⟨[],{ st.h with next:=st.h.next+cs.length },st.defs,[]⟩ ->
         J base ops (zDp T ex) st.tm st.h.next cs tr r sw G { st.h with next:=st.h.next+cs.length } w0 a (fun _=>false) a w0:=fun h1 h0 =>
      ⟨G,{ st.h with next:=st.h.next+cs.length },st.defs,.inl ⟨0,Nat.zero_le _,fun j _=>by simp,by rw [h0],by rw [h0]⟩,.refl ((I.of_heap h1).bump _),⟨fun t j hl=>absurd hl.mem (by simp),fun t _=>rfl⟩,A.defs,rfl⟩
     cases draw with
     | false =>
      simp only [Bool.false_eq_true,if_false] at hc
      cases hc
      obtain ⟨tr,r,R,h0,rfl,rfl,_,_⟩:=main _ _ _ rfl hx
      refine ⟨rfl,wp_region ?_⟩
      rw [List.range_eq_range']
      refine zR6 hE C hdst R hsim (by rw [h0];exact A) hres (fun a' w' HJ=>?_) ops.size 0 a w (by omega) ((J0 (tr:=tr) (r:=r) rfl h0).congr fun j=>by simp)
      obtain ⟨G',hp,hA⟩:=zUl C R (by rw [h0];exact A) (fun a b h=>by cases h) (fun i hi=>by simpa using hi) HJ
      exact hQ G' a' w' hA (hfin rfl (Below.refl _ _) hp)
     | true =>
      simp only [if_true] at hc
      split at hc
      . rename_i hok
        simp only [Bool.and_eq_true] at hok
        obtain ⟨hedges,htmps,hchain,hswaps⟩:=hok
        cases hc
        obtain ⟨tr,r,R,h0,rfl,rfl,hchk,hsw⟩:=main _ _ _ rfl hx
        refine ⟨rfl,wp_region_any hmixed ?_⟩
        have B:=zPt R hchain hswaps hchk hsw
        have hrep:∀ j,(Array.replicate ops.size false).getD j false=false:=fun j=>by
         by_cases hj:j<ops.size <;> simp [hj]
        refine zVv (zJj ops.toList [] [] (by simp) rfl (fun i j h=>by simp at h)) hedges htmps hE C hdst R B hsim (by rw [h0];exact A) hres (fun S a' w' hS HJ=>?_) ops.size _ a _ (by simp) ?_ (fun i o hi=>absurd (show (Array.replicate ops.size false).getD i false=true from hi) (by rw [hrep];simp)) ((J0 (tr:=tr) (r:=r) (w0:={ w with drawn:=w.drawn+1 }) rfl h0).congr fun j=>(hrep j).symm)
        . obtain ⟨G',hp,hA⟩:=zUl C R (by rw [h0];exact A) (fun a b h=>by
           rcases B.swap with h1 | ⟨a',b',h1,h2,h3,_⟩
           . rw [h] at h1;cases h1
           . rw [h] at h1;cases h1;exact ⟨h3,h2⟩) hS HJ
          exact hQ G' a' w' hA (hfin (w0:={ w with drawn:=w.drawn+1 }) rfl ⟨rfl,rfl,rfl,Nat.le_refl _,fun _ _=>rfl⟩ hp)
        . exact Nat.le_trans List.countP_le_length (by simp)
      . cases hc
   . cases hc
 . cases hc
end Go.CI
namespace Go.CI
open Go.RowKit
def XR:CExit->Exit->Prop
 | .normal,.normal=>True
 | .exit i,.exit j=>i=j
 | .ret,.ret=>True
 | _,_=>False
def WpN (P:Program) (n:Nat) (c:Code) (Q:Exit->Act->World->Prop) (a:Act) (w:World):Prop:=match c with
 | .loop body=>Code.rounds P body Q n a w
 | c=>c.wp P Q a w
theorem WpN.wp {P:Program} {n:Nat} {c:Code} {Q:Exit->Act->World->Prop} {a:Act} {w:World} (h:WpN P n c Q a w):c.wp P Q a w:=by
 cases c <;> first | exact h | exact wp_loop_rounds n h
def zYl (P:Program) (base:Base) (E:Env) (n:Nat) (c:Code) (x:CExit) (st st':CSt):Prop :=
 ∀ (Q:Exit->Act->World->Prop) (G:Gh) (a:Act) (w:World),AR E G st.tm st.defs a->Inv base G st.h w ->
  (∀ e G' a' w',XR x e->AR E G' st'.tm st'.defs a'->Post base (fun _=>False) G st.h w G' st'.h w'->Q e a' w')->WpN P n c Q a w
def zN1 (P:Program) (base:Base) (n:Nat) (ex:CCode->CSt->Option (CExit × CSt)):Prop :=
 ∀ (E:Env),E.P=P->zDn E.H.globals base.gl->E.only=none->∀ (c:Code) (cc:CCode) (st st':CSt) (x:CExit),zF9 E c=some cc->ex cc st=some (x,st')->zYl P base E n c x st st'
theorem Post.both {base:Base} {G G1 G2:Gh} {h h1 h2:CHeap} {w w1 w2:World} (a:Post base (fun _=>False) G h w G1 h1 w1) (b:Post base (fun _=>False) G1 h1 w1 G2 h2 w2):Post base (fun _=>False) G h w G2 h2 w2 :=
 (a.trans b).mono fun _ h=>h.elim (fun x=>x) (fun x=>x)
theorem Post.lose {base:Base} {ex:Nat->Prop} {G:Gh} {h h':CHeap} {w:World} (I:Inv base G h w) (hs:h'.ents.Sublist h.ents) (hn:h'.next=h.next) (ht:h'.tys=h.tys):Post base ex G h w G h' w:=by
 obtain ⟨own,I⟩:=I
 refine ⟨.refl G,⟨own,I.sub hs (by omega) ht⟩,.refl _ _,by omega,fun i _ _ hf=>⟨hf.1,hf.2.1,hf.2.2.1,?_⟩⟩
 have h0:=hf.2.2.2
 cases hg:h'.get i with
 | none=>rfl
 | some o=>have:=zFv hs I.nod hg;unfold CHeap.get at h0;rw [h0] at this;cases this
theorem zTg {E:Env} {G:Gh} {tm:List CVal} {ds:List (Nat × List CVal)} {a:Act} (ho:E.only=none) (A:AR E G tm ds a) {X:Operand} {x:COpnd} (hx:zDb E [] X=some x):VR G (zAq tm [] x) (a.eval X):=by
 cases X with
 | tmp t =>
  simp only [zDb,Env.can,ho,if_true,zE1] at hx
  obtain ⟨v,hv,rfl⟩:=Option.map_eq_some_iff.1 hx
  exact A.val t v hv
 | const v =>
  simp only [zDb] at hx
  obtain ⟨c',hc',rfl⟩:=Option.map_eq_some_iff.1 hx
  exact zCu G v c' hc'
 | global g =>
  simp only [zDb] at hx
  obtain ⟨cs,hcs,rfl⟩:=Option.map_eq_some_iff.1 hx
  exact A.glob g cs hcs
 | func f =>
  simp only [zDb] at hx
  cases hx
  exact .fn rfl rfl (fun i c v h=>by simp at h) (fun i c v h=>by simp at h)
theorem zM2 {P:Program} {base:Base} {n:Nat} {T:Nat->Option CFn} {ex:CCode->CSt->Option (CExit × CSt)} (hmixed:P.follows .mixedOrders=true) (hex:zN1 P base n ex) (hcalls:zGm P base (zDp T ex)):zN1 P base (n+1) (zAx T ex):=by
 intro E hE hglob honly c cc st st' x hc hx Q G a w A I hQ
 cases c with
 | skip =>
  simp only [zF9] at hc;cases hc
  simp only [zAx] at hx;cases hx
  exact wp_skip (hQ .normal G a w trivial A (.refl I))
 | region rg ops draw =>
  simp only [zF9] at hc
  have hc:zJg E rg ops.toList draw=some cc:=by
   cases hr:zJg E rg ops.toList draw with
   | some c'=>rw [hr] at hc;simpa using hc
   | none=>rw [hr] at hc;simp at hc;subst hc;simp [zAx] at hx
  have hn:=(zKc hE hglob hmixed hc hx hcalls A I (Q:=fun _ _ _=>True) (fun _ _ _ _ _=>trivial)).1
  subst hn
  exact (zKc hE hglob hmixed hc hx hcalls A I (Q:=Q) (fun G' a' w' hA hp=>hQ .normal G' a' w' trivial hA hp)).2
 | seq u v =>
  simp only [zF9] at hc
  split at hc
  . rename_i cu cv hu hv
    cases hc
    simp only [zAx] at hx
    refine wp_seq ?_
    cases hxu:ex cu st with
    | none=>rw [hxu] at hx;cases hx
    | some p =>
     obtain ⟨x1,st1⟩:=p
     rw [hxu] at hx
     refine WpN.wp (n:=n) (hex E hE hglob honly u cu st st1 x1 hu hxu _ G a w A I fun e G1 a1 w1 hxr A1 hp1=>?_)
     cases x1 with
     | normal =>
      cases e <;> first | (exact hxr.elim) | skip
      exact WpN.wp (n:=n) (hex E hE hglob honly v cv st1 st' x hv hx _ G1 a1 w1 A1 hp1.inv fun e G2 a2 w2 hxr2 A2 hp2=>hQ e G2 a2 w2 hxr2 A2 (hp1.both hp2))
     | exit id =>
      simp only at hx
      cases hx
      cases e <;> first | (exact hxr.elim) | exact hQ _ G1 a1 w1 hxr A1 hp1
     | ret =>
      simp only at hx
      cases hx
      cases e <;> first | (exact hxr.elim) | exact hQ _ G1 a1 w1 hxr A1 hp1
  . cases hc
 | cond k u v =>
  simp only [zF9] at hc
  split at hc
  . rename_i ck cu cv hk hu hv
    cases hc
    have hr:=zTg honly A hk
    simp only [zAx] at hx
    split at hx
    . rename_i hb
      rw [hb] at hr
      exact wp_cond_true (zN0 hr) (WpN.wp (n:=n) (hex E hE hglob honly u cu st st' x hu hx Q G a w A I hQ))
    . rename_i hb
      rw [hb] at hr
      exact wp_cond_false (zN0 hr) (WpN.wp (n:=n) (hex E hE hglob honly v cv st st' x hv hx Q G a w A I hQ))
    . cases hx
  . cases hc;simp [zAx] at hx
 | block id u =>
  simp only [zF9] at hc
  obtain ⟨cu,hu,rfl⟩:=Option.map_eq_some_iff.1 hc
  simp only [zAx] at hx
  refine wp_block ?_
  cases hxu:ex cu st with
  | none=>rw [hxu] at hx;cases hx
  | some p =>
   obtain ⟨x1,st1⟩:=p
   rw [hxu] at hx
   refine WpN.wp (n:=n) (hex E hE hglob honly u cu st st1 x1 hu hxu _ G a w A I fun e G1 a1 w1 hxr A1 hp1=>?_)
   cases x1 with
   | normal =>
    simp only at hx
    cases hx
    cases e <;> first | (exact hxr.elim) | exact hQ _ G1 a1 w1 hxr A1 hp1
   | exit id' =>
    cases e <;> first | (exact hxr.elim) | skip
    rename_i id''
    have hid:id'=id'':=hxr
    subst hid
    simp only at hx
    simp only [Exit.inBlock]
    split at hx
    . rename_i h1
      cases hx
      rw [if_pos h1]
      exact hQ .normal G1 a1 w1 trivial A1 hp1
    . rename_i h1
      cases hx
      rw [if_neg h1]
      exact hQ _ G1 a1 w1 rfl A1 hp1
   | ret =>
    simp only at hx
    cases hx
    cases e <;> first | (exact hxr.elim) | exact hQ _ G1 a1 w1 hxr A1 hp1
 | loop u =>
  have hc':=hc
  simp only [zF9] at hc
  obtain ⟨cu,hu,rfl⟩:=Option.map_eq_some_iff.1 hc
  generalize (!E.H.nodrop.contains E.fn)=drop at hx hc'
  simp only [zAx] at hx
  show u.wp P (Exit.then (Code.rounds P u Q n) Q) a w
  cases hxu:ex cu st with
  | none=>rw [hxu] at hx;cases hx
  | some p =>
   obtain ⟨x1,st1⟩:=p
   rw [hxu] at hx
   refine WpN.wp (n:=n) (hex E hE hglob honly u cu st st1 x1 hu hxu _ G a w A I fun e G1 a1 w1 hxr A1 hp1=>?_)
   cases x1 with
   | normal =>
    cases e <;> first | (exact hxr.elim) | skip
    simp only at hx
    have hlose:Post base (fun _=>False) G1 st1.h w1 G1 (if drop=true then { st1 with h:={ st1.h with ents:=zA5 st1.h.ents st.h.next } } else st1).h w1:=by
     cases drop with
     | true=>exact Post.lose hp1.inv (zC0 _ _) rfl rfl
     | false=>exact .refl hp1.inv
    have hA1:AR E G1 (if drop=true then { st1 with h:={ st1.h with ents:=zA5 st1.h.ents st.h.next } } else st1).tm (if drop=true then { st1 with h:={ st1.h with ents:=zA5 st1.h.ents st.h.next } } else st1).defs a1:=by
     cases drop <;> exact A1
    exact hex E hE hglob honly (.loop u) (.loop drop cu) _ st' x hc' hx Q G1 a1 w1 hA1 hlose.inv fun e G2 a2 w2 hxr2 A2 hp2=>hQ e G2 a2 w2 hxr2 A2 ((hp1.both hlose).both hp2)
   | exit id =>
    simp only at hx
    cases hx
    cases e <;> first | (exact hxr.elim) | exact hQ _ G1 a1 w1 hxr A1 hp1
   | ret =>
    simp only at hx
    cases hx
    cases e <;> first | (exact hxr.elim) | exact hQ _ G1 a1 w1 hxr A1 hp1
 | exit id =>
  simp only [zF9] at hc;cases hc
  simp only [zAx] at hx;cases hx
  exact wp_exit (hQ (.exit id) G a w rfl A (.refl I))
 | ret =>
  simp only [zF9] at hc;cases hc
  simp only [zAx] at hx;cases hx
  exact wp_ret (hQ .ret G a w trivial A (.refl I))
 | _=>simp [zF9] at hc;subst hc;simp [zAx] at hx
end Go.CI
namespace Go.CI
open Go.RowKit
theorem zGr (l:List (Nat × CObj)) (n:Nat):(zB6 l n).Sublist l:=by
 induction l with
 | nil=>exact .slnil
 | cons p r ih =>
  obtain ⟨i,q⟩:=p
  simp only [zB6]
  split
  . exact .cons _ ih
  . exact .cons_cons _ ih
theorem zP4 {l:List (Nat × CObj)} {n b:Nat} {o:CObj} (h:zA1 (zB6 l n) b=some o):b<n:=by
 have:=zHd h
 clear h
 induction l with
 | nil=>simp [zB6] at this
 | cons p r ih =>
  obtain ⟨i,q⟩:=p
  simp only [zB6] at this
  split at this
  . exact ih this
  . rename_i hlt
    rcases List.mem_cons.1 this with h1 | h1
    . cases h1;omega
    . exact ih h1
theorem zHh {k:Nat}:∀ {es:List CVal} {m:Nat} {c:CVal},AllK k es->(zAp es)[m]? = some c->∃ (i j:Nat) (e:CVal),m=i * k+j/\es[i]? = some e/\e.cells[j]? = some c
 | [],m,c,_,h=>by simp [zAp] at h
 | e::es,m,c,hk,h=>by
  have he:e.cells.length=k:=hk e (by simp)
  have hcons:zAp (e::es)=e.cells++zAp es:=by simp [zAp]
  rw [hcons] at h
  by_cases hm:m<k
  . rw [List.getElem?_append_left (by omega)] at h
    exact ⟨0,m,e,by omega,rfl,h⟩
  . rw [List.getElem?_append_right (by omega),he] at h
    obtain ⟨i,j,e',h1,h2,h3⟩:=zHh (fun x hx=>hk x (by simp [hx])) h
    exact ⟨i+1,j,e',by rw [Nat.succ_mul];omega,h2,h3⟩
section
variable {P:Program} {base:Base} {G:Gh} {h:CHeap} {w:World} {n:Nat}
def Gh.freeze (G:Gh) (own:Nat->Nat->Option Own) (h:CHeap) (n:Nat):Gh :=
 { G with fz:=fun ab o=>match own ab o with
    | some (.r b)=>if n<=b then (match h.get b with
     | some (.row ver es)=>match G.rw b ver with
      | some (ab',ao,_,_)=>if ab'=ab/\ao<=o then (zAp es)[o - ao]? else none
      | none=>none
     | _=>none) else none
    | some _=>none
    | none=>G.fz ab o }
def zC2 (own:Nat->Nat->Option Own) (n:Nat):Nat->Nat->Option Own:=fun ab o=>match own ab o with
 | some (.r b)=>if n<=b then none else some (.r b)
 | x=>x
theorem zGc {own:Nat->Nat->Option Own} {ab o:Nat} {x:Own} (h:zC2 own n ab o=some x):own ab o=some x:=by
 unfold zC2 at h
 split at h
 . split at h
   . cases h
   . rename_i h1 _;rw [h1];exact h
 . exact h
theorem zIx {own:Nat->Nat->Option Own} {ab o b:Nat} (h:own ab o=some (.m b)):zC2 own n ab o=some (.m b):=by
 unfold zC2;rw [h]
theorem zMp {own:Nat->Nat->Option Own} {ab o b:Nat} (h:own ab o=some (.t b)):zC2 own n ab o=some (.t b):=by
 unfold zC2;rw [h]
theorem zIq {own:Nat->Nat->Option Own} {ab o b:Nat} (h:own ab o=some (.r b)) (hb:b<n):zC2 own n ab o=some (.r b):=by
 unfold zC2;rw [h];simp;omega
theorem zJp {own:Nat->Nat->Option Own} {ab o:Nat} (h:own ab o=none):zC2 own n ab o=none:=by
 unfold zC2;rw [h]
theorem zFe {own:Nat->Nat->Option Own} (I:InvO base G own h w):G.le (G.freeze own h n) :=
 ⟨fun b o c hf=>by
  have:=(I.fzs b o c hf).1
  simp only [Gh.freeze,this];exact hf,fun _ _ h=>h,fun _ _ _ h=>h,fun _ _ _ h=>h⟩
theorem zP7 {own:Nat->Nat->Option Own} (I:InvO base G own h w):InvO base (G.freeze own h n) (zC2 own n) { h with ents:=zB6 h.ents n } w where
 fzs ab o c hf:=by
  have hle:=zFe (n:=n) I
  simp only [Gh.freeze] at hf
  split at hf
  . rename_i b ho
    split at hf
    . rename_i hnb
      refine ⟨by unfold zC2;rw [ho];simp [hnb],?_⟩
      split at hf
      . rename_i ver es hg
        split at hf
        . rename_i ab' ao k cap hrw
          split at hf
          . rename_i hcond
            obtain ⟨rfl,hao⟩:=hcond
            obtain ⟨_,_,_,hel⟩:=(I.ents b _ hg).2.2 _ _ _ _ hrw
            have hk:AllK k es:=fun e he=>by
             obtain ⟨i,hi⟩:=List.getElem?_of_mem he
             exact (hel i e hi).1
            obtain ⟨i,j,e,h1,h2,h3⟩:=zHh hk hf
            have:=((hel i e h2).2 j c h3).2
            rw [show ao+i * k+j=o by omega] at this
            exact this.mono hle fun _ h=>h
          . cases hf
        . cases hf
      . cases hf
    . cases hf
  . cases hf
  . rename_i ho
    exact ⟨zJp ho,(I.fzs ab o c hf).2.mono hle fun _ h=>h⟩
 mus b ab k hm:=⟨(I.mus b ab k hm).1,(I.mus b ab k hm).2.1,fun i hi=>⟨zIx ((I.mus b ab k hm).2.2.1 i hi).1,((I.mus b ab k hm).2.2.1 i hi).2⟩,fun hk=>⟨zIx ((I.mus b ab k hm).2.2.2.1 hk).1,((I.mus b ab k hm).2.2.2.1 hk).2⟩,(I.mus b ab k hm).2.2.2.2⟩
 rws:=I.rws
 tks:=I.tks
 ents b o ho:=by
  have hle:=zFe (n:=n) I
  have hb:=zP4 ho
  have h0:=I.ents b o (zFv (zGr _ _) I.nod ho)
  refine ⟨h0.1,?_⟩
  have h1:=h0.2
  cases o with
  | cells cs=>exact fun ab k hm=>⟨(h1 ab k hm).1,fun i c hi=>⟨((h1 ab k hm).2 i c hi).1,((h1 ab k hm).2 i c hi).2.mono hle fun _ h=>h⟩⟩
  | row ver es=>exact ⟨h1.1,fun ab ao k cap hr=>let ⟨x1,x2,x3,x4⟩:=h1.2 ab ao k cap hr;⟨x1,x2,fun i hi=>⟨zIq (x3 i hi).1 hb,(x3 i hi).2⟩,fun i e hie=>⟨(x4 i e hie).1,fun j c hj=>⟨((x4 i e hie).2 j c hj).1,((x4 i e hie).2 j c hj).2.mono hle fun _ h=>h⟩⟩⟩⟩
  | tok ver=>exact ⟨h1.1,fun ab e k room ht=>⟨(h1.2 ab e k room ht).1,fun i hi=>⟨zMp ((h1.2 ab e k room ht).2 i hi).1,((h1.2 ab e k room ht).2 i hi).2⟩⟩⟩
  | frow ver es=>exact ⟨h1.1,fun ab ao k cap hr=>let ⟨x1,x2,x3,x4⟩:=h1.2 ab ao k cap hr;⟨x1,x2,fun i hi=>⟨zIq (x3 i hi).1 hb,(x3 i hi).2⟩,fun i e hie=>⟨(x4 i e hie).1,fun j c hj=>⟨((x4 i e hie).2 j c hj).1,((x4 i e hie).2 j c hj).2.mono hle fun _ h=>h⟩⟩⟩⟩
  | map ck kvs=>exact fun ab hm=>let ⟨es,h2,h3⟩:=h1 ab hm;⟨es,h2,h3.mono hle⟩
 old ab o x hx:=I.old ab o x (zGc hx)
 top:=I.top
 nod:=((zGr _ _).map _).nodup I.nod
 cln:=I.cln
 gls g cs hg i c hc:=⟨(I.gls g cs hg i c hc).1,(zFe (n:=n) I).fz _ _ _ (I.gls g cs hg i c hc).2⟩
 tyk:=I.tyk
 tys b T ht v x hx:=⟨(I.tys b T ht v x hx).1,fun i y hy=>(I.tys b T ht v x hx).2 i y (zGc hy)⟩
theorem zId {own:Nat->Nat->Option Own} (I:InvO base G own h w):Post base (fun _=>False) G h w (G.freeze own h n) { h with ents:=zB6 h.ents n } w:=by
 refine ⟨zFe I,⟨_,zP7 I⟩,.refl _ _,Nat.le_refl _,fun i _ _ hf=>⟨hf.1,hf.2.1,hf.2.2.1,?_⟩⟩
 have h0:=hf.2.2.2
 cases hg:CHeap.get { h with ents:=zB6 h.ents n } i with
 | none=>rfl
 | some o=>have:=zFv (zGr _ _) I.nod hg;unfold CHeap.get at h0;rw [h0] at this;cases this
theorem zH3 {own:Nat->Nat->Option Own} (I:InvO base G own h w) {c c':CVal} {v:Value} (hf:zEo n h c=some c') (hr:VR G c v):VR (G.freeze own h n) c' v/\c'.flat=c.flat:=by
 have hle:=zFe (n:=n) I
 have other:c'=c.strip->VR (G.freeze own h n) c' v/\c'.flat=c.flat:=fun e=>by subst e;exact ⟨(hr.mono hle).strip,zHu c⟩
 cases c with
 | ref b ver k off len =>
  simp only [zEo] at hf
  split at hf
  . rename_i hnb
    split at hf
    . rename_i v' es hg
      split at hf
      . rename_i hcond
        simp only [Bool.and_eq_true,decide_eq_true_eq] at hcond
        obtain ⟨rfl,hlen⟩:=hcond
        cases hf
        refine ⟨?_,rfl⟩
        cases hr with
        | ref hrw hk hl hs ha =>
         rename_i ab ao cap a
         obtain ⟨_,hcap,hown,hel⟩:=(I.ents b _ hg).2.2 _ _ _ _ hrw
         have hkk:AllK k es:=fun e he=>by
          obtain ⟨i,hi⟩:=List.getElem?_of_mem he
          exact (hel i e hi).1
         have hcl:(cut off (off+len) es).length=len:=by rw [zBv _ _ _ hlen];omega
         have key:VR (G.freeze own h n) (.imm .none k (cut off (off+len) es)) (.slice (some a) (cut off (off+len) es).length (cap - off)):=by
          refine .imm hs hk (by rw [hcl];omega) ?_ trivial
          intro i e he
          rw [getElem?_cut] at he
          split at he
          . rename_i hi
            refine ⟨(hel _ e he).1,fun j c hj=>⟨((hel _ e he).2 j c hj).1,?_⟩⟩
            have ha':=ha.resolve_left (by omega)
            subst ha'
            have hjk:j<k:=by
             have:=(List.getElem?_eq_some_iff.1 hj).1
             rw [(hel _ e he).1] at this;exact this
            have hidx:off * k+i * k+j=(off+i) * k+j:=by rw [Nat.add_mul]
            have hin:(off+i) * k+j<cap * k:=by
             have:(off+i+1) * k<=cap * k:=Nat.mul_le_mul_right _ (by omega)
             rw [Nat.succ_mul] at this;omega
            have ho:=(hown _ hin).1
            have hpos:ao+off * k+i * k+j=ao+((off+i) * k+j):=by omega
            show (G.freeze own h n).fz ab (ao+off * k+i * k+j)=some c
            rw [hpos]
            simp only [Gh.freeze,ho,hnb,if_true,hg,hrw]
            rw [if_pos ⟨trivial,by omega⟩,show ao+((off+i) * k+j) - ao=(off+i) * k+j by omega]
            exact zDk hkk he hj
          . cases he
         rw [hcl] at key
         exact key
      . cases hf
    . cases hf
  . cases hf
 | _=>exact other (Option.some.inj hf).symm
theorem zGe {own:Nat->Nat->Option Own} (I:InvO base G own h w):∀ {cs cs':List CVal} {vs:List Value},zD4 n h cs=some cs'->VRs G cs vs->VRs (G.freeze own h n) cs' vs/\((∀ c ∈ cs,c.flat=true)->∀ c ∈ cs',c.flat=true)
 | [],cs',vs,hf,hr=>by
  simp only [zD4] at hf;cases hf
  have:vs=[]:=by have:=hr.1;simpa using this.symm
  subst this
  exact ⟨VRs.nil _,fun _ c hc=>by simp at hc⟩
 | c::cs,cs',vs,hf,hr=>by
  simp only [zD4] at hf
  split at hf
  . rename_i c' r' hc hrr
    cases hf
    match vs,hr with
    | [],hr=>have:=hr.1;simp at this
    | v::vs,hr =>
     obtain ⟨h1,h2⟩:=zH3 I hc hr.head
     obtain ⟨h3,h4⟩:=zGe I hrr hr.tail
     refine ⟨VRs.cons h1 h3,fun hall x hx=>?_⟩
     rcases List.mem_cons.1 hx with rfl | hx
     . rw [h2];exact hall c (by simp)
     . exact h4 (fun y hy=>hall y (by simp [hy])) x hx
  . cases hf
theorem zHi {own:Nat->Nat->Option Own} (I:InvO base G own h w) {c c':CVal} {v:Value} (hf:zDu n h c=some c') (hr:VR G c v):VR (G.freeze own h n) c' v:=by
 cases c with
 | agg cs =>
  simp only [zDu] at hf
  obtain ⟨cs',h1,rfl⟩:=Option.map_eq_some_iff.1 hf
  cases hr with
  | agg hl hfl hv =>
   obtain ⟨h2,h3⟩:=zGe I h1 ⟨hl,hv⟩
   exact .agg h2.1 (h3 hfl) h2.2
 | _=>simp only [zDu] at hf;exact (zH3 I hf hr).1
theorem zIc {own:Nat->Nat->Option Own} (I:InvO base G own h w):∀ {cs cs':List CVal} {vs:List Value},zEl n h cs=some cs'->VRs G cs vs->VRs (G.freeze own h n) cs' vs
 | [],cs',vs,hf,hr=>by
  simp only [zEl] at hf;cases hf
  have:vs=[]:=by have:=hr.1;simpa using this.symm
  subst this
  exact VRs.nil _
 | c::cs,cs',vs,hf,hr=>by
  simp only [zEl] at hf
  split at hf
  . rename_i c' r' hc hrr
    cases hf
    match vs,hr with
    | [],hr=>have:=hr.1;simp at this
    | v::vs,hr=>exact VRs.cons (zHi I hc hr.head) (zIc I hrr hr.tail)
  . cases hf
theorem zM4 {own:Nat->Nat->Option Own} (I:InvO base G own h w) {c c':CVal} {v:Value} (hf:zFd n h c=some c') (hr:VR G c v):VR (G.freeze own h n) c' v:=by
 cases c with
 | tup cs =>
  simp only [zFd] at hf
  obtain ⟨cs',h1,rfl⟩:=Option.map_eq_some_iff.1 hf
  cases hr with
  | tup hl hv=>have h2:=zIc I h1 ⟨hl,hv⟩;exact .tup h2.1 h2.2
 | _=>simp only [zFd] at hf;exact zHi I hf hr
theorem zM7 {fn:CFunc} {G0:Gh} {h0 h':CHeap} {w0:World} {v v':CVal} {u:Value} (hp:Post base (fun _=>False) G0 h0 w0 G h w) (hr:VR G v u) (hf:zDx fn n v h=some (v',h')):∃ G',VR G' v' u/\Post base (fun _=>False) G0 h0 w0 G' h' w:=by
 unfold zDx at hf
 split at hf
 . cases hf
   refine ⟨G,hr,hp.both ?_⟩
   split
   . exact Post.lose hp.inv (zC0 _ _) rfl rfl
   . exact .refl hp.inv
 . split at hf
   . obtain ⟨x,hx,he⟩:=Option.map_eq_some_iff.1 hf
     cases he
     obtain ⟨own,I⟩:=hp.inv
     exact ⟨_,zM4 I hx hr,hp.both (zId I)⟩
   . cases hf
     exact ⟨G,hr.bare,hp.both (Post.lose hp.inv (zM6 _ _) rfl rfl)⟩
end
end Go.CI
namespace Go.CI
open Go.RowKit
section
variable {P:Program} {base:Base} {G:Gh} {h:CHeap} {w:World}
theorem zRj {t:TypeId} {f:ElemInfo} {b sz o:Nat} {cs:List CVal} {v:CVal} {z:Value} (I:Inv base G h w) (hf:zAt P t=some f) (hp:VR G (.ptr b sz o) z) (hg:h.get b=some (.cells cs)) (hv:partOf cs o (kOf f)=some v) :
    ∃ u,(do loadVar t (<- asAddr z):Sem Value).run P w=.ok u w/\VR G v u:=by
 obtain ⟨own,I⟩:=I
 cases hp with
 | ptr hm =>
  rename_i ab
  obtain ⟨_,hcel⟩:=(I.ents b _ hg).2 ab sz hm
  obtain ⟨u,hu,hr⟩:=zG3 (w:=w) (o:=0) (ab:=ab) hf hv (fun j c hj=>by rw [Nat.zero_add];exact hcel j c hj)
  rw [Nat.zero_add] at hu
  refine ⟨u,?_,hr⟩
  simpa [Instr.loadAt,Instr.sureAddr,asAddr] using hu
theorem zJm {fn:Func} {E:Env} (hE:E.P=P) {tm:List CVal} {ds:List (Nat × List CVal)} {a:Act} {rs:List CRes} {vs:List CVal} (I:Inv base G h w) (A:AR E G tm ds a) (hr:zNe E fn.results.toList=some rs) (hv:zBr h tm rs=some vs) :
    ∃ u,(results fn a.tmps).run P w=.ok u w/\VR G (zBs vs) u:=by
 have key:∀ (l:List ResultVar) (rs:List CRes) (vs:List CVal),zNe E l=some rs->zBr h tm rs=some vs ->
     ∃ us:List Value,(l.mapM (fun | .tmp t=>pure (a.tmps.getD t undef) | .cell x t=>do loadVar t (<- asAddr (a.tmps.getD x undef)):ResultVar->Sem Value)).run P w=.ok us w/\VRs G vs us:=by
  intro l
  induction l with
  | nil =>
   intro rs vs hr hv
   simp only [zNe] at hr;cases hr
   simp only [zBr] at hv;cases hv
   exact ⟨[],rfl,VRs.nil G⟩
  | cons q l ih =>
   intro rs vs hr hv
   simp only [zNe] at hr
   split at hr
   . rename_i r rs' hq hrs
     cases hr
     cases q with
     | tmp t =>
      simp only [cres] at hq
      obtain ⟨j,hj,rfl⟩:=Option.map_eq_some_iff.1 hq
      simp only [zBr] at hv
      split at hv
      . rename_i vs' hvs
        cases hv
        obtain ⟨us,h1,h2⟩:=ih rs' vs' hrs hvs
        refine ⟨_::us,?_,VRs.cons (A.val t j hj) h2⟩
        rw [List.mapM_cons]
        simp only [Sem.run_bind,Sem.run_pure,Result.andThen_ok] at h1 ⊢
        rw [h1];rfl
      . cases hv
     | cell x t =>
      simp only [cres] at hq
      split at hq
      . rename_i j f hj hf
        cases hq
        simp only [zBr] at hv
        split at hv
        . rename_i b sz o hb
          split at hv
          . rename_i cs hg
            split at hv
            . rename_i v vs' hv0 hvs
              cases hv
              obtain ⟨us,h1,h2⟩:=ih rs' vs' hrs hvs
              have hrel:=A.val x j hj
              rw [hb] at hrel
              subst hE
              obtain ⟨u,hu,hru⟩:=zRj I hf hrel hg hv0
              refine ⟨u::us,?_,VRs.cons hru h2⟩
              rw [List.mapM_cons,Sem.run_bind,hu,Result.andThen_ok,Sem.run_bind,h1];rfl
            . cases hv
          . cases hv
        . cases hv
      . cases hq
   . cases hr
 obtain ⟨us,h1,h2⟩:=key _ rs vs hr hv
 have hrun:(results fn a.tmps).run P w=.ok (if hh:us.toArray.size=1 then us.toArray[0] else .tuple us.toArray) w:=by
  unfold results
  rw [Array.mapM_eq_mapM_toList,Sem.run_bind,Sem.run_map]
  erw [h1]
  rfl
 refine ⟨_,hrun,?_⟩
 match vs,us,h2 with
 | [],[],h2=>exact .tup h2.1 h2.2
 | [v],[u],h2=>exact h2.head
 | v::v'::vs,u::u'::us,h2 =>
  simp only [zBs,List.size_toArray,List.length_cons]
  rw [dif_neg (by omega)]
  exact .tup h2.1 h2.2
 | [],_::_,h2=>have:=h2.1;simp at this
 | [_],[],h2=>have:=h2.1;simp at this
 | [_],_::_::_,h2=>have:=h2.1;simp at this
 | _::_::_,[],h2=>have:=h2.1;simp at this
 | _::_::_,[_],h2=>have:=h2.1;simp at this
structure BodyRun (ex:CCode->CSt->Option (CExit × CSt)) (cd:List (Nat × List CVal)->CHeap->Option CHeap) (fn:CFunc) (args:List CVal) (h:CHeap) (v:CVal) (h':CHeap) (x:CExit) (st:CSt) (h1:CHeap) (vs:List CVal):Prop where
 nargs:args.length=fn.nargs
 run:ex fn.body ⟨fn.params.map (initVar args),h,[]⟩=some (x,st)
 out:∀ i,x≠.exit i
 defs:cd st.defs st.h=some h1
 res:zBr h1 st.tm fn.results=some vs
 fin:zDx fn h.next (zBs vs) h1=some (v,h')
theorem zJw {ex:CCode->CSt->Option (CExit × CSt)} {cd:List (Nat × List CVal)->CHeap->Option CHeap} {fn:CFunc} {args:List CVal} {h h':CHeap} {v:CVal} (hb:zCd ex cd fn args h=some (v,h')):∃ x st h1 vs,BodyRun ex cd fn args h v h' x st h1 vs:=by
 unfold zCd at hb
 split at hb
 . rename_i hn
   split at hb
   . cases hb
   . rename_i x st hx hne
     split at hb
     . rename_i h1 hd
       split at hb
       . rename_i vs hvs
         exact ⟨x,st,h1,vs,hn,hne,fun i e=>by subst e;exact hx _ rfl,hd,hvs,hb⟩
       . cases hb
     . cases hb
   . cases hb
 . cases hb
structure FnOk (P:Program) (H:Hints) (f:Nat) (fn:CFunc) (fm:Func) (c:Code) (E:Env):Prop where
 fnc:P.funcs[f]? = some fm
 body:fm.body=some c
 name : (fm.name == "runtime.NumGoroutine") = false
 eP:E.P=P
 eH:E.H=H
 only:E.only=none
 nt:E.ntmps=fm.ntmps
 code:zF9 E c=some fn.body
 res:zNe E fm.results.toList=some fn.results
 par:fn.params=E.vars.map fun t=>if t<fn.nargs then some t else none
theorem zJc {P:Program} {H:Hints} {f:Nat} {fn:CFunc} (h:zAb P H f=some fn):∃ fm c E,FnOk P H f fn fm c E:=by
 unfold zAb at h
 split at h
 . rename_i fm hf
   split at h
   . rename_i c hb
     split at h
     . cases h
     . rename_i hname
       simp only at h
       split at h
       . rename_i b rs hb' hrs
         cases h
         exact ⟨fm,c,_,hf,hb,by simpa using hname,rfl,rfl,rfl,rfl,hb',hrs,rfl⟩
       . cases h
   . cases h
 . cases h
theorem Inv.glob {base:Base} {G:Gh} {h:CHeap} {w:World} (I:Inv base G h w) {g:Nat} {cs:List CVal} (hg:zD5 base.gl g=some cs):VR G (.cptr cs 0) (.pointer (some ⟨g,0,none⟩)):=by
 obtain ⟨own,I⟩:=I
 have:=VR.cptr (cs:=cs) (o:=0) (ab:=g) (ao:=0) (fun i c hc=>by rw [Nat.zero_add];exact I.gls g cs hg i c hc)
 simpa using this
theorem zOq {E:Env} {H:Hints} {f:Nat} {fn:CFunc} {fm:Func} {c:Code} (F:FnOk P H f fn fm c E) {args:List CVal} {vs:List Value} (hn:args.length=fn.nargs) (hr:VRs G args vs) (hgl:∀ g cs,zD5 H.globals g=some cs->VR G (.cptr cs 0) (.pointer (some ⟨g,0,none⟩))) :
    AR E G (fn.params.map (initVar args)) [] { tmps:=(⟨vs⟩:Array Value)++Array.replicate (fm.ntmps - (⟨vs⟩:Array Value).size) undef,defers:=[] }:=by
 refine ⟨?_,by rw [F.par];simp,fun t v hv=>?_,.nil,by rw [F.eH];exact hgl⟩
 . rw [F.nt];simp;omega
 . obtain ⟨k,hk,hvk⟩:=zFo hv
   rw [Nat.zero_add] at hk
   subst hk
   rw [F.par,zLk,List.getElem?_map,List.getElem?_map,hvk]
   simp only [Option.map_some,Option.getD_some]
   by_cases ht:t<fn.nargs
   . rw [if_pos ht]
     have hlt:t<vs.length:=Nat.lt_of_lt_of_eq ht (hn.symm.trans hr.1)
     have:((⟨vs⟩:Array Value)++Array.replicate (fm.ntmps - (⟨vs⟩:Array Value).size) undef).getD t undef=vs[t]:=by
      have h1:t<(⟨vs⟩:Array Value).size:=hlt
      simp only [Array.getD_eq_getD_getElem?]
      rw [Array.getElem?_append_left h1]
      simp [hlt]
     rw [this]
     exact hr.2 t _ _ (getElem?_nth (Nat.lt_of_lt_of_eq ht hn.symm)) (List.getElem?_eq_getElem hlt)
   . rw [if_neg ht];exact .undef _
theorem zPj {n:Nat} {H:Hints} {ex:CCode->CSt->Option (CExit × CSt)} {cd:List (Nat × List CVal)->CHeap->Option CHeap} (hex:zN1 P base n ex) (hglob:zDn H.globals base.gl) {f:Nat} {fn:CFunc} (hfn:zAb P H f=some fn)
    (hcd:∀ (fm:Func) (tmps:Array Value) (R:Ending->World->Prop) (G1:Gh) (h1:CHeap) (w1:World) (ds:List (Nat × List CVal)) (dl:List Deferred) (h2:CHeap),Inv base G1 h1 w1->DefsR G1 ds dl->cd ds h1=some h2 ->
     (∀ G2 w2,Post base (fun _=>False) G1 h1 w1 G2 h2 w2->∃ v,(results fm tmps).run P w2=.ok v w2/\R (.returned v) w2)->Leaves P fm tmps R dl .returning w1)
    {args:List CVal} {vs:List Value} {v:CVal} {h':CHeap} (hb:zCd ex cd fn args h=some (v,h')) (I:Inv base G h w) (hr:VRs G args vs):Calls P f ⟨vs⟩ w fun e w'=>∃ u,e=.returned u/\zCm base G h w v h' u w':=by
 obtain ⟨fm,c,E,F⟩:=zJc hfn
 obtain ⟨x,st,h1,rs,B⟩:=zJw hb
 refine calls_of_wp_defers F.fnc F.body ?_
 refine WpN.wp (n:=n) (hex E F.eP (by rw [F.eH];exact hglob) F.only c fn.body ⟨fn.params.map (initVar args),h,[]⟩ st x F.code B.run _ G _ w (zOq F B.nargs hr (fun g cs hc=>I.glob (hglob g cs hc))) I fun e G1 a1 w1 hxr A1 hp1=>?_)
 have fin:Leaves P fm a1.tmps (fun e w'=>∃ u,e=.returned u/\zCm base G h w v h' u w') a1.defers .returning w1:=by
  refine hcd fm a1.tmps _ G1 st.h w1 st.defs a1.defers h1 hp1.inv A1.defs B.defs fun G2 w2 hp2=>?_
  obtain ⟨u,hu,hru⟩:=zJm F.eP hp2.inv (A1.mono hp2.le) F.res B.res
  obtain ⟨G3,h3,h4⟩:=zM7 (hp1.both hp2) hru B.fin
  exact ⟨u,hu,u,rfl,G3,h3,h4⟩
 cases x with
 | normal=>cases e <;> first | (exact hxr.elim) | exact fin
 | exit i=>exact absurd rfl (B.out i)
 | ret=>cases e <;> first | (exact hxr.elim) | exact fin
theorem zMz {n:Nat} {H:Hints} {ex:CCode->CSt->Option (CExit × CSt)} (hex:zN1 P base n ex) (hglob:zDn H.globals base.gl) {f:Nat} {fn:CFunc} (hfn:zAb P H f=some fn)
    {args:List CVal} {vs:List Value} {v:CVal} {h':CHeap} (hb:zCd ex zI9 fn args h=some (v,h')) (I:Inv base G h w) (hr:VRs G args vs) (um:FrameMode):CallsD P f ⟨vs⟩ um w fun e u' w'=>u'=um/\∃ u,e=.returned u/\zCm base G h w v h' u w':=by
 obtain ⟨fm,c,E,F⟩:=zJc hfn
 obtain ⟨x,st,h1,rs,B⟩:=zJw hb
 refine callsD_of_wp F.fnc F.body ?_
 refine WpN.wp (n:=n) (hex E F.eP (by rw [F.eH];exact hglob) F.only c fn.body ⟨fn.params.map (initVar args),h,[]⟩ st x F.code B.run _ G _ w (zOq F B.nargs hr (fun g cs hc=>I.glob (hglob g cs hc))) I fun e G1 a1 w1 hxr A1 hp1=>?_)
 have hdefs:=B.defs
 have hno:st.defs=[]/\h1=st.h:=by
  cases hd:st.defs with
  | nil=>rw [hd] at hdefs;simp only [zI9] at hdefs;cases hdefs;exact ⟨rfl,rfl⟩
  | cons p l=>rw [hd] at hdefs;simp [zI9] at hdefs
 have hdl:a1.defers=[]:=by
  have:=A1.defs
  rw [hno.1] at this
  generalize a1.defers=dl at this
  cases this;rfl
 have fin:a1.defers=[]/\∃ v',(results fm a1.tmps).run P w1=.ok v' w1/\∃ u,Ending.returned v'=.returned u/\zCm base G h w v h' u w1:=by
  have hres:=B.res
  rw [hno.2] at hres
  obtain ⟨u,hu,hru⟩:=zJm F.eP hp1.inv A1 F.res hres
  have hfin:=B.fin
  rw [hno.2] at hfin
  obtain ⟨G3,h3,h4⟩:=zM7 hp1 hru hfin
  exact ⟨hdl,u,hu,u,rfl,G3,h3,h4⟩
 cases x with
 | normal=>cases e <;> first | (exact hxr.elim) | exact fin
 | exit i=>exact absurd rfl (B.out i)
 | ret=>cases e <;> first | (exact hxr.elim) | exact fin
structure TOk (P:Program) (H:Hints) (base:Base) (T:Nat->Option CFn):Prop where
 ir:∀ f fn,T f=some (.ir fn)->zAb P H f=some fn
 prim:∀ f p,T f=some (.prim p)->∀ (G:Gh) (h:CHeap) (w:World) (xs:List CVal) (vs:List Value) (v:CVal) (h':CHeap),p xs h=some (v,h')->Inv base G h w->VRs G xs vs->Entr P (callFunc f ⟨vs⟩) w (zCm base G h w v h')
theorem zFf {f : Nat} {fm : Func} {c : Code} (hf : P.funcs[f]? = some fm) (hname : (fm.name == "runtime.NumGoroutine") = false) (hb : fm.body = some c) (args : Array Value) (w : World) :
    (callFunc f args).run P w=.ok (.enter f args) w:=by
 have h1 : fm.name ≠ "runtime.NumGoroutine" := by simpa using hname
 simp [callFunc,hf,h1,hb]
theorem zGb {n:Nat} {H:Hints} {T:Nat->Option CFn} {ex:CCode->CSt->Option (CExit × CSt)} (hT:TOk P H base T) (hglob:zDn H.globals base.gl) (hex:zN1 P base n ex) (fm:Func) (tmps:Array Value) (R:Ending->World->Prop) :
    ∀ (ds:List (Nat × List CVal)) (dl:List Deferred) (G1:Gh) (h1:CHeap) (w1:World) (h2:CHeap),Inv base G1 h1 w1->DefsR G1 ds dl->zEf T ex ds h1=some h2 ->
     (∀ G2 w2,Post base (fun _=>False) G1 h1 w1 G2 h2 w2->∃ v,(results fm tmps).run P w2=.ok v w2/\R (.returned v) w2)->Leaves P fm tmps R dl .returning w1
 | [],dl,G1,h1,w1,h2,I,hd,hr,hk=>by
  cases hd
  simp only [zEf] at hr;cases hr
  exact hk G1 w1 (.refl I)
 | (f,args)::ds,dl,G1,h1,w1,h2,I,hd,hr,hk=>by
  cases hd with
  | cons hv hrest =>
   rename_i vs cap dl'
   simp only [zEf] at hr
   split at hr
   . rename_i v h' hcall
     unfold zEx at hcall
     split at hcall
     . rename_i fn hTf
       have hfn:=hT.ir f fn hTf
       obtain ⟨fm',c',E',F'⟩:=zJc hfn
       refine leaves_cons (f:=f) (args:=⟨vs++cap⟩) (by simp) ?_ ?_
       . show (callFunc f ((⟨vs⟩:Array Value)++⟨cap⟩)).run P w1=_
         have:((⟨vs⟩:Array Value)++⟨cap⟩)=⟨vs++cap⟩:=by apply Array.ext';simp
         rw [this]
         exact zFf F'.fnc F'.name F'.body _ _
       . refine CallsD.mono (zMz hex hglob hfn hcall I hv .returning) fun e u' w' he=>?_
         obtain ⟨rfl,u,rfl,G',_,hp⟩:=he
         exact zGb hT hglob hex fm tmps R ds dl' G' h' w' h2 hp.inv (hrest.mono hp.le) hr fun G2 w2 hp2=>hk G2 w2 (hp.both hp2)
     . cases hcall
   . cases hr
theorem zK9 {n:Nat} {H:Hints} {T:Nat->Option CFn} {ex:CCode->CSt->Option (CExit × CSt)} (hT:TOk P H base T) (hglob:zDn H.globals base.gl) (hex:zN1 P base n ex):zGm P base (zDp T ex):=by
 intro G h w f xs vs v h' hcf I hr
 unfold zDp at hcf
 split at hcf
 . rename_i fn hTf
   have hfn:=hT.ir f fn hTf
   obtain ⟨fm,c,E,F⟩:=zJc hfn
   exact .inr ⟨f,⟨vs⟩,zFf F.fnc F.name F.body _ _,zPj hex hglob hfn (fun fm tmps R G1 h1 w1 ds dl h2 I1 hd hrd hk=>zGb hT hglob hex fm tmps R ds dl G1 h1 w1 h2 I1 hd hrd hk) hcf I hr⟩
 . rename_i p hTf
   exact hT.prim f p hTf G h w xs vs v h' hcf I hr
 . cases hcf
theorem zNz {H:Hints} {T:Nat->Option CFn} (hmixed:P.follows .mixedOrders=true) (hT:TOk P H base T) (hglob:zDn H.globals base.gl):∀ n,zN1 P base n (exec T n)
 | 0=>fun E _ _ _ c cc st st' x _ hx=>by
  have:exec T 0 cc st=none:=rfl
  rw [this] at hx;cases hx
 | n+1=>by
  have ih:=zNz hmixed hT hglob n
  exact zM2 hmixed ih (zK9 hT hglob ih)
def Gh.of (F:Nat->Nat->Option CVal):Gh:=⟨F,fun _=>.none,fun _ _=>.none,fun _ _=>.none⟩
def Gh.none:Gh:=Gh.of fun _ _=>.none
def zDc:CHeap:=⟨[],0,[]⟩
structure Begins (w:World) (gl:List (Nat × List CVal)) (F:Nat->Nat->Option CVal):Prop where
 cells:∀ ab o c,F ab o=some c->Holds (Gh.of F) w ab o c
 globs:∀ g cs,zD5 gl g=some cs->∀ (i:Nat) (c:CVal),cs[i]? = some c->c.flat=true/\F g i=some c
theorem zPv {w:World} {gl:List (Nat × List CVal)} {F:Nat->Nat->Option CVal} (B:Begins w gl F):Inv ⟨w.heap.size,gl⟩ (Gh.of F) zDc w :=
 ⟨fun _ _ => .none, { fzs := fun ab o c h => ⟨rfl, B.cells ab o c h⟩
                      mus:=fun _ _ _ h=>by simp [Gh.of] at h
                      rws:=fun _ _ _ h=>by simp [Gh.of] at h
                      tks:=fun _ _ _ h=>by simp [Gh.of] at h
                      ents:=fun b o h=>by simp [zDc,CHeap.get,zA1] at h
                      old:=fun _ _ _ h=>by simp at h
                      top:=Nat.le_refl _
                      nod:=by simp [zDc]
                      cln:=fun _ _ _ h=>by simp [Gh.of] at h
                      gls:=B.globs
                      tyk:=fun b T h=>by simp [zDc,CHeap.ty,zCy] at h
                      tys:=fun b T h=>by simp [zDc,CHeap.ty,zCy] at h }⟩
theorem zP3 {H:Hints} {T:Nat->Option CFn} {n f:Nat} {fn:CFunc} {args:List Value} {cs:List CVal} {v:CVal} {h':CHeap} {w:World} {F:Nat->Nat->Option CVal} {gl:List (Nat × List CVal)} (hgl:zDn H.globals gl) (hmixed:P.follows .mixedOrders=true) (hT:TOk P H ⟨w.heap.size,gl⟩ T) (hf:T f=some (.ir fn))
    (B:Begins w gl F) (ha:VRs (Gh.of F) cs args) (hrun:crun T n f cs zDc=some (v,h')):Calls P f ⟨args⟩ w fun e w'=>∃ u G,e=.returned u/\(Gh.of F).le G/\VR G v u/\Below w.heap.size w w'/\Inv ⟨w.heap.size,gl⟩ G h' w':=by
 have hs:=zK9 hT hgl (zNz hmixed hT hgl n) (Gh.of F) zDc w f cs args v h' hrun (zPv B) ha
 have hfn:=hT.ir f fn hf
 obtain ⟨fm,c,E,F'⟩:=zJc hfn
 rcases hs with ⟨u,w',h1,_⟩ | ⟨f',args',h1,h2⟩
 . rw [zFf F'.fnc F'.name F'.body] at h1;cases h1
 . rw [zFf F'.fnc F'.name F'.body] at h1
   cases h1
   exact Calls.mono h2 fun e w' ⟨u,he,G',hv,hp⟩=>⟨u,G',he,hp.le,hv,hp.below,hp.inv⟩
end
end Go.CI
namespace Go.CI
open Go.RowKit
def idxFrom (c:UInt8):List UInt8->Nat->Int
 | [],_=>-1
 | b::r,i=>if b == c then i else idxFrom c r (i+1)
def zP2 (xs:List CVal) (h:CHeap):Option (CVal × CHeap) :=
 match xs with
 | [.str s,.int .u8 c]=>some (.int .i64 (idxFrom c.toNat.toUInt8 s 0),h)
 | _=>none
section
variable {P:Program} {base:Base}
structure ExtOk (P:Program) (f:Nat) (e:Array Value->Sem Value):Prop where
 fn : ∃ fm, P.funcs[f]? = some fm ∧ (fm.name == "runtime.NumGoroutine") = false ∧ fm.body.isNone = true ∧ Extern.findNext fm = none ∧ Extern.find fm = some e
def zHt (P:Program) (base:Base) (f:Nat) (p:List CVal->CHeap->Option (CVal × CHeap)):Prop :=
 ∀ (G:Gh) (h:CHeap) (w:World) (xs:List CVal) (vs:List Value) (v:CVal) (h':CHeap),p xs h=some (v,h')->Inv base G h w->VRs G xs vs->Entr P (callFunc f ⟨vs⟩) w (zCm base G h w v h')
theorem zRe {f:Nat} {e:Array Value->Sem Value} (X:ExtOk P f e) {G:Gh} {h:CHeap} {w:World} {vs:List Value} {v:CVal} {u:Value} (I:Inv base G h w) (hr:(e ⟨vs⟩).run P w=.ok u w) (hv:VR G v u):Entr P (callFunc f ⟨vs⟩) w (zCm base G h w v h):=by
 obtain ⟨fm,h1,h2,h3,h4,h5⟩:=X.fn
 refine .inl ⟨u,w,?_,G,hv,.refl I⟩
 rw [run_callFunc_extern h1 h2 h3 h4 h5,hr];rfl
theorem zWb {G:Gh} {a b:CVal} {vs:List Value} (h:VRs G [a,b] vs):∃ x y,vs=[x,y]/\VR G a x/\VR G b y:=by
 match vs,h with
 | [x,y],h=>exact ⟨x,y,rfl,h.head,h.tail.head⟩
 | [],h=>have:=h.1;simp at this
 | [_],h=>have:=h.1;simp at this
 | _::_::_::_,h=>have:=h.1;simp at this
end
end Go.CI
namespace Go.CI
open Go.RowKit
def zH0 (xs:List CVal) (h:CHeap):Option (CVal × CHeap) :=
 match xs with
 | [.str s,.str t]=>some (.int .i64 (Lib.compareBytes s t),h)
 | _=>none
theorem zNl {P:Program} {base:Base} {f:Nat} (X:ExtOk P f Extern.BytealgCompare.compare):zHt P base f zH0:=by
 intro G h w xs vs v h' hp I hr
 unfold zH0 at hp
 split at hp
 . rename_i s t
   cases hp
   obtain ⟨x,y,rfl,hx,hy⟩:=zWb hr
   obtain ⟨a,rfl,ha⟩:=zFc hx
   obtain ⟨b,rfl,hb⟩:=zFc hy
   refine zRe X I (Lib.run_compareString a b w) ?_
   rw [ha,hb];exact .int _ _
 . cases hp
end Go.CI
namespace Go.CI
open Go.Shelf Go.RowKit Go.Lib Go.Proofs
section
variable {P:Program} {ρ:Ren}
theorem zE7 (w:World) {t u ty e:TypeId} {k:Nat} (ht:P.underlying t=some (.slice e)) (hz:∀ w,(sizeOf e).run P w=.ok k w) {b o dl dc sl sc:Nat} {a:Addr} {news:List Value} (hn:news.length=min sl dl * k)
    (hcs:∀ (j:Nat) (v:Value),news[j]? = some v->w.cell? (a.add j)=some v) (hlive:∀ j,j<news.length->(w.cell? ⟨b,o+j,none⟩).isSome=true) (hfz:∀ j,j<news.length->w.frozen? ⟨b,o+j,none⟩=false) (h1:∀ v ∈ news,v.oneCell'=true) :
    (Builtin.copy_ #[t,u] ty #[.slice (some ⟨b,o,none⟩) dl dc,.slice (some a) sl sc]).run P w=.ok (goInt ((min sl dl:Nat):Int)) (w.setCells b o news):=by
 have hf:=run_firstCells_some (P:=P) w k (min sl dl) a sl sc news hn hcs
 have hst:=run_storeCells_cells (P:=P) b o news 0 w (fun j hj=>by rw [Nat.add_zero];exact hlive j hj) (fun j hj=>by rw [Nat.add_zero];exact hfz j hj) h1
 rw [Nat.add_zero] at hst
 simp only [Builtin.copy_]
 simp [zB5 ht,Builtin.lenOf,hz,hf,goInt,hst]
structure InsLay (P:Program) (ρ:Ren) (nm:String) (k:Nat) (z:Value) (by_:Nat):Prop where
 mixed:P.follows .mixedOrders=true
 f22:P.funcs[ρ.f 22]? = some { Body2.n22 ρ with name:=nm }
 ov:∀ args w,(callFunc (ρ.f 29) args).run P w=((Extern.SlicesOverlaps.overlaps #[ρ.t 24,ρ.t 24] #[ρ.t 4] args).run P w).andThen fun v w'=>.ok (.value v) w'
 t0:P.underlying (ρ.t 0)=some (TypeDesc.tuple #[])
 t3:P.underlying (ρ.t 3)=some (TypeDesc.int IntKind.i64)
 a3:∀ w,(isAgg (ρ.t 3)).run P w=.ok false w
 z3:∀ w,(Go.sizeOf (ρ.t 3)).run P w=.ok 1 w
 v3:∀ w,(zeroValue (ρ.t 3)).run P w=.ok (Value.int IntKind.i64 0) w
 t4:P.underlying (ρ.t 4)=some (TypeDesc.bool)
 a4:∀ w,(isAgg (ρ.t 4)).run P w=.ok false w
 z4:∀ w,(Go.sizeOf (ρ.t 4)).run P w=.ok 1 w
 v4:∀ w,(zeroValue (ρ.t 4)).run P w=.ok (Value.bool false) w
 z9:∀ w,(Go.sizeOf (ρ.t 9)).run P w=.ok k w
 t24:P.underlying (ρ.t 24)=some (TypeDesc.slice (ρ.t 9))
 a24:∀ w,(isAgg (ρ.t 24)).run P w=.ok false w
 z24:∀ w,(Go.sizeOf (ρ.t 24)).run P w=.ok 1 w
 v24:∀ w,(zeroValue (ρ.t 24)).run P w=.ok (Value.slice none 0 0) w
 i9:(P.info? (ρ.t 9)).map (fun i=>(i.zero,i.size,i.bytes))=some (some z,k,by_)
 k0:0<k
set_option maxHeartbeats 4000000 in
set_option maxRecDepth 100000 in
theorem zRy {nm:String} {k by_:Nat} {zz:Value} (L:InsLay P ρ nm k zz by_) (b off n c i m vc:Nat) (va:Addr) (cs vs:List Value) (w:World) (hi:i<n) (hm:0<m) (hroom:n+m<=c) (hnm:n+m<=1073741824)
    (hcl:cs.length=n * k) (hvl:vs.length=m * k)
    (hcs:∀ (j:Nat) (v:Value),cs[j]? = some v->w.cell? ⟨b,off+j,none⟩=some v) (hsp:∀ j,j<(n+m) * k->(w.cell? ⟨b,off+j,none⟩).isSome=true) (hfz:∀ j,j<(n+m) * k->w.frozen? ⟨b,off+j,none⟩=false)
    (hvs:∀ (j:Nat) (v:Value),vs[j]? = some v->w.cell? (va.add j)=some v) (hsn:va.spot=none) (hva:va.block=b->va.off+m * k<=off+(i+m) * k\/off+(n+m) * k<=va.off) (h1c:∀ v ∈ cs,v.oneCell'=true) (h1v:∀ v ∈ vs,v.oneCell'=true)
    (hov:∀ cb,(callFunc (ρ.f 29) #[.slice (some va) m vc,.slice (some ⟨b,off+(i+m) * k,none⟩) (n+m - (i+m)) cb]).run P w=.ok (.value (.bool false)) w) :
    Calls P (ρ.f 22) #[.slice (some ⟨b,off,none⟩) n c,.int .i64 i,.slice (some va) m vc] w fun e w' =>
     e=.returned (.slice (some ⟨b,off,none⟩) (n+m) c)/\w'=(w.drew.setCells b (off+(i+m) * k) (cs.drop (i * k))).setCells b (off+i * k) vs:=by
 have t0:=L.t0;have t3:=L.t3;have a3:=L.a3;have z3:=L.z3;have v3:=L.v3;have t4:=L.t4;have a4:=L.a4;have z4:=L.z4;have v4:=L.v4;have z9:=L.z9;have t24:=L.t24;have a24:=L.a24;have z24:=L.z24;have v24:=L.v24
 have u0:=run_underlying L.t0;have u3:=run_underlying L.t3;have u4:=run_underlying L.t4;have u24:=run_underlying L.t24
 have hz1:¬ ((m:Int)=0):=by omega
 have hz2:¬ ((i:Int)=(n:Int)):=by omega
 have hdl:(cs.drop (i * k)).length=(n - i) * k:=by rw [List.length_drop,hcl,Nat.sub_mul]
 have mixed:=L.mixed
 have hw1:IntKind.i64.wrap ((i:Int)+(m:Int))=(i:Int)+(m:Int):=by rw [IntKind.wrap_i64];omega
 have hb1:(0:Int)<=(i:Int)+(m:Int):=by omega
 have hin:i<=n:=by omega
 have htn:((i:Int)+(m:Int)).toNat=i+m:=by omega
 have hb2:¬ (c=i+m):=by omega
 have hb3:(i:Int)<=(n:Int)+(m:Int):=by omega
 have hb4:¬ (c=i):=by omega
 have hle1:∀ j,j<(n - i) * k->(i+m) * k+j<(n+m) * k:=fun j hj=>by
  have:(i+m) * k+(n - i) * k=(n+m) * k:=by rw [<- Nat.add_mul];congr 1;omega
  omega
 have hle2:∀ j,j<m * k->i * k+j<(n+m) * k:=fun j hj=>by
  have h1:i * k+m * k<=(n+m) * k:=by rw [<- Nat.add_mul];exact Nat.mul_le_mul_right _ (by omega)
  omega
 have hmin1:min (n+m - i) (n+m - (i+m))=n - i:=by omega
 have hmin2:min m (n+m - i)=m:=by omega
 have hcp1:∀ ty dc sc,(Builtin.copy_ #[(ρ.t 24),(ρ.t 24)] ty #[.slice (some ⟨b,off+(i+m) * k,none⟩) (n+m - (i+m)) dc,.slice (some ⟨b,off+i * k,none⟩) (n+m - i) sc]).run P w.drew=.ok (goInt ((n - i:Nat):Int)) (w.drew.setCells b (off+(i+m) * k) (cs.drop (i * k))):=fun ty dc sc=>by
  have:=zE7 (P:=P) (ty:=ty) (u:=ρ.t 24) w.drew (dl:=n+m - (i+m)) (dc:=dc) (sl:=n+m - i) (sc:=sc) (b:=b) (o:=off+(i+m) * k) (a:=⟨b,off+i * k,none⟩) (news:=cs.drop (i * k)) L.t24 L.z9 (by rw [hdl,hmin1])
   (fun j v hj=>by rw [Addr.add_lit,Nat.add_assoc];exact hcs (i * k+j) v (by rwa [List.getElem?_drop] at hj))
   (fun j hj=>by rw [Nat.add_assoc];exact hsp _ (hle1 j (by rw [hdl] at hj;exact hj))) (fun j hj=>by rw [Nat.add_assoc];exact hfz _ (hle1 j (by rw [hdl] at hj;exact hj))) (fun v hv=>h1c v (List.mem_of_mem_drop hv))
  rw [hmin1] at this;exact this
 obtain ⟨W1,hW1⟩:∃ W1,W1=w.drew.setCells b (off+(i+m) * k) (cs.drop (i * k)):=⟨_,rfl⟩
 have hsp1:∀ j,j<(n+m) * k->(W1.cell? ⟨b,off+j,none⟩).isSome=true:=fun j hj=>by
  rw [hW1]
  exact isSome_setCells b _ _ _ (fun q hq=>by rw [Nat.add_assoc];exact hsp _ (hle1 q (by rw [hdl] at hq;exact hq))) _ (hsp j hj)
 have hcp2:∀ (W:World),(∀ x,W.cell? x=W1.cell? x)->(∀ x,W.frozen? x=W1.frozen? x)->∀ ty dc,(Builtin.copy_ #[(ρ.t 24),(ρ.t 24)] ty #[.slice (some ⟨b,off+i * k,none⟩) (n+m - i) dc,.slice (some va) m vc]).run P W=.ok (goInt ((m:Nat):Int)) (W.setCells b (off+i * k) vs):=fun W hWc hWf ty dc=>by
  have:=zE7 (P:=P) (ty:=ty) (u:=ρ.t 24) W (dl:=n+m - i) (dc:=dc) (sl:=m) (sc:=vc) (b:=b) (o:=off+i * k) (a:=va) (news:=vs) L.t24 L.z9 (by rw [hvl,hmin2])
   (fun j v hj=>by
    have hj':j<m * k:=by have:=(List.getElem?_eq_some_iff.1 hj).1;rw [hvl] at this;exact this
    have hh:=hvs j v hj
    rw [zE8 hsn] at hh ⊢
    have h3:(i+m) * k+(n - i) * k=(n+m) * k:=by rw [<- Nat.add_mul];congr 1;omega
    rw [hWc,hW1,World.cell?_setCells_out b _ _ _ _ (fun h _=>by
     rw [hdl]
     rcases hva h with h1 | h1
     . left;show va.off+j<off+(i+m) * k;omega
     . right;show off+(i+m) * k+(n - i) * k<=va.off+j;omega)]
    exact hh)
   (fun j hj=>by rw [hWc,Nat.add_assoc];exact hsp1 _ (hle2 j (by rw [hvl] at hj;exact hj))) (fun j hj=>by rw [hWf,hW1,World.frozen?_setCells,Nat.add_assoc];exact hfz _ (hle2 j (by rw [hvl] at hj;exact hj))) h1v
  rw [hmin2] at this;exact this
 rw [<- hW1] at hcp1
 go_enter L.f22,Body2.n22_ntmps ρ
 go_wp2_with (simp only [hov])
 go_region_law_o (refine step_copy_runI rfl _ _ (ρ.t 24) (ρ.t 24) rfl _ _ (by simp [Act.eval,Act.put]) (by simp [Act.eval,Act.put]) (hcp1 _ _ _) ?_)
 go_wp2_with (at_builtin;refine wpList_copy_runI _ rfl _ _ (ρ.t 24) (ρ.t 24) rfl _ _ rfl rfl (hcp2 _ (fun _=>rfl) (fun _=>rfl) _ _) ?_)
 go_ret
 first | exact ⟨rfl,rfl⟩ | exact ⟨rfl,by rw [hW1]⟩
set_option maxHeartbeats 4000000 in
set_option maxRecDepth 100000 in
theorem zW2 {nm:String} {k by_:Nat} {zz:Value} (L:InsLay P ρ nm k zz by_) (base:Option Addr) (n c m vc:Nat) (va:Option Addr) (w w1:World) (S:Value) (hm:0<m) (hnc:n<=c) (hnil:base=none->n=0)
    (hrun:(Builtin.append_ #[(ρ.t 24),(ρ.t 24)] (ρ.t 24) #[.slice base n c,.slice va m vc]).run P w=.ok S w1) :
    Calls P (ρ.f 22) #[.slice base n c,.int .i64 n,.slice va m vc] w fun e w'=>e=.returned S/\w'=w1:=by
 have t0:=L.t0;have t3:=L.t3;have a3:=L.a3;have z3:=L.z3;have v3:=L.v3;have t4:=L.t4;have a4:=L.a4;have z4:=L.z4;have v4:=L.v4;have z9:=L.z9;have t24:=L.t24;have a24:=L.a24;have z24:=L.z24;have v24:=L.v24
 have u0:=run_underlying L.t0;have u3:=run_underlying L.t3;have u4:=run_underlying L.t4;have u24:=run_underlying L.t24
 have mixed:=L.mixed
 have hz1:¬ ((m:Int)=0):=by omega
 go_enter L.f22,Body2.n22_ntmps ρ
 cases base with
 | none =>
  have h0:=hnil rfl
  subst h0
  go_wp2_with (at_builtin;refine Lib.wpList_append_run _ rfl _ _ _ _ rfl _ _ rfl rfl _ _ hrun ?_)
  go_ret
  exact ⟨rfl,rfl⟩
 | some a =>
  obtain ⟨ab,ao,asp⟩:=a
  go_wp2_with (at_builtin;refine Lib.wpList_append_run _ rfl _ _ _ _ rfl _ _ rfl rfl _ _ hrun ?_)
  all_goals (go_ret;exact ⟨rfl,rfl⟩)
theorem zRs {z:Value} {k:Nat} (hz:z.cells.size=k) (n:Nat):(Builtin.zeroCells z.cells n).size=n * k:=by rw [size_zeroCells,hz]
set_option maxHeartbeats 4000000 in
set_option maxRecDepth 100000 in
theorem zSv {nm:String} {k by_:Nat} {zz:Value} (L:InsLay P ρ nm k zz by_) (hzz:zz.cells.size=k) (hby:by_<=4096) (b off n c i m vc:Nat) (va:Addr) (cs vs:List Value) (w:World) (hi:i<n) (hm:0<m) (hnc:n<=c) (hroom:c<n+m) (hbig:n+m<=1073741824)
    (hcl:cs.length=n * k) (hvl:vs.length=m * k)
    (hcs:∀ (j:Nat) (v:Value),cs[j]? = some v->w.cell? ⟨b,off+j,none⟩=some v)
    (hvs:∀ (j:Nat) (v:Value),vs[j]? = some v->w.cell? (va.add j)=some v) (hbw:b<w.heap.size) (hvw:va.block<w.heap.size) (h1c:∀ v ∈ cs,v.oneCell'=true) (h1v:∀ v ∈ vs,v.oneCell'=true) :
    Calls P (ρ.f 22) #[.slice (some ⟨b,off,none⟩) n c,.int .i64 i,.slice (some va) m vc] w fun e w'=>∃ G ROW,n+m<=G/\ROW.size=G * k /\
     e=.returned (.slice (some ⟨w.heap.size,0,none⟩) (n+m) G) /\
     w'=((((w.alloc (.cells ROW (ρ.t 9))).drew.setCells w.heap.size (i * k) vs).drew).setCells w.heap.size ((i+m) * k) (cs.drop (i * k)))/\(∀ (j:Nat) (v:Value),(cs.take (i * k))[j]? = some v->ROW[j]? = some v):=by
 have t0:=L.t0;have t3:=L.t3;have a3:=L.a3;have z3:=L.z3;have v3:=L.v3;have t4:=L.t4;have a4:=L.a4;have z4:=L.z4;have v4:=L.v4;have z9:=L.z9;have t24:=L.t24;have a24:=L.a24;have z24:=L.z24;have v24:=L.v24
 have u0:=run_underlying L.t0;have u3:=run_underlying L.t3;have u4:=run_underlying L.t4;have u24:=run_underlying L.t24
 have mixed:=L.mixed
 obtain ⟨i0,hi0,hz0,hzs,hzb⟩:=info_parts L.i9
 have hz1:¬ ((m:Int)=0):=by omega
 have hz2:¬ ((i:Int)=(n:Int)):=by omega
 have hz3:(c:Int)<(n:Int)+(m:Int):=by omega
 have hkk:(n:Int)+(m:Int) - (i:Int)=((n+m - i:Nat):Int):=by omega
 have hik:i+(n+m - i)=n+m:=by omega
 have hink:i * k<=n * k:=Nat.mul_le_mul_right _ (by omega)
 have htl:(cs.take (i * k)).length=i * k:=by rw [List.length_take,hcl];omega
 have hold:(Builtin.firstCells i0.size i (.slice (some ⟨b,off,none⟩) i c)).run P w.drew=.ok (cs.take (i * k)).toArray w.drew:=by
  rw [hzs]
  exact run_firstCells_some w.drew k i ⟨b,off,none⟩ i c (cs.take (i * k)) htl (fun j v hj=>by
   rw [Addr.add_lit]
   rw [List.getElem?_take] at hj
   split at hj
   . exact hcs j v hj
   . cases hj)
 have hfit:Builtin.nextslicecap (n+m) c * by_<=281474976710656:=growslice_fits hroom (by
  have:(n+m) * by_<=1073741824 * 4096:=Nat.mul_le_mul hbig hby
  omega)
 have hfit2:(n+m - i) * by_<=281474976710656:=by
  have:(n+m - i) * by_<=1073741824 * 4096:=Nat.mul_le_mul (by omega) hby
  omega
 have hrz:∀ ty,(Builtin.append_ #[(ρ.t 24),(ρ.t 3)] ty #[.slice (some ⟨b,off,none⟩) i c,.int .i64 ((n:Int)+(m:Int) - (i:Int))]).run P w =
     .ok (.slice (some ⟨w.heap.size,0,none⟩) (n+m) (grownCap w (n+m) c (ρ.t 9))) (w.drew.alloc (.cells ((cs.take (i * k)).toArray++Builtin.zeroCells zz.cells (n+m - i)++Builtin.zeroCells zz.cells (grownCap w (n+m) c (ρ.t 9) - (n+m))) (ρ.t 9))):=fun ty=>by
  have h:=Lib.run_append_grow_zeros w (ρ.t 24) (ρ.t 3) ty (ρ.t 9) i0 _ .i64 .i64 L.t24 L.t3 hi0 hz0 (some ⟨b,off,none⟩) i c (cs.take (i * k)) hold (n+m - i) (by omega) (by rw [hzs];exact L.k0) (by omega) (by omega) (by rw [hzb];exact hfit2) (by rw [hzb,hik];exact hfit)
  rw [hik] at h
  rw [hkk]
  exact h
 obtain ⟨G,hG⟩:∃ G,G=grownCap w (n+m) c (ρ.t 9):=⟨_,rfl⟩
 obtain ⟨ROW,hROW⟩:∃ ROW:Array Value,ROW=(cs.take (i * k)).toArray++Builtin.zeroCells zz.cells (n+m - i)++Builtin.zeroCells zz.cells (G - (n+m)):=⟨_,rfl⟩
 rw [<- hG] at hrz
 rw [<- hROW] at hrz
 have hGn:n+m<=G:=by rw [hG];exact grownCap_ge w _ _ _
 have hRs:ROW.size=G * k:=by
  rw [hROW,Array.size_append,Array.size_append,zRs hzz,zRs hzz,List.size_toArray,htl,<- Nat.add_mul,<- Nat.add_mul]
  congr 1;omega
 have hRl:(n+m) * k<=ROW.size:=by rw [hRs];exact Nat.mul_le_mul_right _ hGn
 have hRt:∀ (j:Nat) (v:Value),(cs.take (i * k))[j]? = some v->ROW[j]? = some v:=fun j v hj=>by
  have hlt:=(List.getElem?_eq_some_iff.1 hj).1
  rw [hROW,Array.append_assoc,Array.getElem?_append_left (by rw [List.size_toArray];exact hlt),<- Array.getElem?_toList]
  exact hj
 obtain ⟨W1,hW1⟩:∃ W1,W1=w.drew.alloc (.cells ROW (ρ.t 9)):=⟨_,rfl⟩
 rw [<- hW1] at hrz
 have hN:∀ j,j<(n+m) * k->(W1.cell? ⟨w.heap.size,j,none⟩).isSome=true:=fun j hj=>by
  rw [hW1,World.cell?_alloc_at (w:=w.drew) ROW _ w.heap.size j rfl,Array.getElem?_eq_getElem (by omega)];rfl
 have hNf:∀ j,W1.frozen? ⟨w.heap.size,j,none⟩=false:=fun j=>by rw [hW1];exact World.frozen?_alloc_at (w:=w.drew) ROW _ w.heap.size j rfl
 have hOb:∀ (a:Addr) v,a.block<w.heap.size->w.cell? a=some v->W1.cell? a=some v:=fun a v ha h=>by
  rw [hW1,World.cell?_alloc_old (w:=w.drew) (h:=fun e=>by have:(w.drew).heap.size=w.heap.size:=rfl;omega)];exact h
 have hmin1:min m (n+m - i)=m:=by omega
 have hmin2:min (n - i) (n+m - (i+m))=n - i:=by omega
 have hdl:(cs.drop (i * k)).length=(n - i) * k:=by rw [List.length_drop,hcl,Nat.sub_mul]
 have hle1:∀ j,j<m * k->i * k+j<(n+m) * k:=fun j hj=>by
  have h1:i * k+m * k<=(n+m) * k:=by rw [<- Nat.add_mul];exact Nat.mul_le_mul_right _ (by omega)
  omega
 have hle2:∀ j,j<(n - i) * k->(i+m) * k+j<(n+m) * k:=fun j hj=>by
  have:(i+m) * k+(n - i) * k=(n+m) * k:=by rw [<- Nat.add_mul];congr 1;omega
  omega
 have hab:∀ j,(va.add j).block=va.block:=fun j=>by unfold Addr.add;split <;> rfl
 have hcpA:∀ (W:World),(∀ x,W.cell? x=W1.cell? x)->(∀ x,W.frozen? x=W1.frozen? x)->∀ ty dc,(Builtin.copy_ #[(ρ.t 24),(ρ.t 24)] ty #[.slice (some ⟨w.heap.size,i * k,none⟩) (n+m - i) dc,.slice (some va) m vc]).run P W=.ok (goInt ((m:Nat):Int)) (W.setCells w.heap.size (i * k) vs):=fun W hWc hWf ty dc=>by
  have:=zE7 (P:=P) (ty:=ty) (u:=ρ.t 24) W (dl:=n+m - i) (dc:=dc) (sl:=m) (sc:=vc) (b:=w.heap.size) (o:=i * k) (a:=va) (news:=vs) L.t24 L.z9 (by rw [hvl,hmin1])
   (fun j v hj=>by rw [hWc];exact hOb _ v (by rw [hab];exact hvw) (hvs j v hj))
   (fun j hj=>by rw [hWc];exact hN _ (hle1 j (by rw [hvl] at hj;exact hj))) (fun j hj=>by rw [hWf];exact hNf _) h1v
  rw [hmin1] at this;exact this
 have hG63:G<=9223372036854775807:=by
  have:=grownCap_le_maxLen w (n+m) c (ρ.t 9) (by unfold maxLen;omega)
  rw [<- hG] at this
  unfold maxLen at this
  omega
 have hGi:¬ (G=i):=by omega
 have hGim:¬ (G=i+m):=by omega
 have hci:¬ (c=i):=by omega
 have hbN:b≠w.heap.size:=by omega
 have hcpB:∀ (W:World),(∀ x,W.cell? x=(W1.setCells w.heap.size (i * k) vs).cell? x)->(∀ x,W.frozen? x=(W1.setCells w.heap.size (i * k) vs).frozen? x)->∀ ty dc sc,(Builtin.copy_ #[(ρ.t 24),(ρ.t 24)] ty #[.slice (some ⟨w.heap.size,(i+m) * k,none⟩) (n+m - (i+m)) dc,.slice (some ⟨b,off+i * k,none⟩) (n - i) sc]).run P W=.ok (goInt ((n - i:Nat):Int)) (W.setCells w.heap.size ((i+m) * k) (cs.drop (i * k))):=fun W hWc hWf ty dc sc=>by
  have:=zE7 (P:=P) (ty:=ty) (u:=ρ.t 24) W (dl:=n+m - (i+m)) (dc:=dc) (sl:=n - i) (sc:=sc) (b:=w.heap.size) (o:=(i+m) * k) (a:=⟨b,off+i * k,none⟩) (news:=cs.drop (i * k)) L.t24 L.z9 (by rw [hdl,hmin2])
   (fun j v hj=>by
    rw [Addr.add_lit,hWc,World.cell?_setCells_out _ _ _ _ _ (fun h _=>absurd h hbN),Nat.add_assoc]
    exact hOb _ v hbw (hcs (i * k+j) v (by rwa [List.getElem?_drop] at hj)))
   (fun j hj=>by rw [hWc];exact isSome_setCells _ _ _ _ (fun t ht=>hN _ (hle1 t (by rw [hvl] at ht;exact ht))) _ (hN _ (hle2 j (by rw [hdl] at hj;exact hj))))
   (fun j hj=>by rw [hWf,World.frozen?_setCells];exact hNf _) (fun v hv=>h1c v (List.mem_of_mem_drop hv))
  rw [hmin2] at this;exact this
 subst hW1
 have hE1:∀ x,((w.alloc (.cells ROW (ρ.t 9))).drew).cell? x=(w.drew.alloc (.cells ROW (ρ.t 9))).cell? x:=fun x=>rfl
 have hE2:∀ x,((w.alloc (.cells ROW (ρ.t 9))).drew).frozen? x=(w.drew.alloc (.cells ROW (ρ.t 9))).frozen? x:=fun x=>rfl
 have hF1:∀ x,(((w.alloc (.cells ROW (ρ.t 9))).drew.setCells w.heap.size (i * k) vs).drew).cell? x=((w.drew.alloc (.cells ROW (ρ.t 9))).setCells w.heap.size (i * k) vs).cell? x:=fun x=>rfl
 have hF2:∀ x,(((w.alloc (.cells ROW (ρ.t 9))).drew.setCells w.heap.size (i * k) vs).drew).frozen? x=((w.drew.alloc (.cells ROW (ρ.t 9))).setCells w.heap.size (i * k) vs).frozen? x:=fun x=>rfl
 have hw1:IntKind.i64.wrap ((i:Int)+(m:Int))=(i:Int)+(m:Int):=by rw [IntKind.wrap_i64];omega
 have hb1:(0:Int)<=(i:Int)+(m:Int):=by omega
 have hin:i<=n:=by omega
 have htn:((i:Int)+(m:Int)).toNat=i+m:=by omega
 have hb3:(i:Int)<=(n:Int):=by omega
 clear hkk hik hold hROW hG hRl
 go_enter L.f22,Body2.n22_ntmps ρ
 go_wp2_with (first
  | (at_builtin;refine Lib.wpList_append_run _ rfl _ _ _ _ rfl _ _ rfl rfl _ _ (hrz _) ?_)
  | (at_builtin;refine wpList_copy_runI _ rfl _ _ (ρ.t 24) (ρ.t 24) rfl _ _ rfl rfl (hcpA _ hE1 hE2 _ _) ?_)
  | (at_builtin;refine wpList_copy_runI _ rfl _ _ (ρ.t 24) (ρ.t 24) rfl _ _ rfl rfl (hcpB _ (fun _=>rfl) (fun _=>rfl) _ _ _) ?_))
 go_region_law_o (refine step_copy_runI rfl _ _ (ρ.t 24) (ρ.t 24) rfl (.slice (some ⟨w.heap.size,(i+m) * k,none⟩) (n+m - (i+m)) (G - (i+m))) (.slice (some ⟨b,off+i * k,none⟩) (n - i) (c - i)) (by simp [Act.eval,Act.put]) (by simp [Act.eval,Act.put]) (hcpB _ hF1 hF2 (ρ.t 3) (G - (i+m)) (c - i)) ?_)
 go_wp2
 go_ret
 exact ⟨G,ROW,hGn,hRs,rfl,rfl,hRt⟩
end
end Go.CI
namespace Go.CI
open Go.RowKit
def zBb (k:Nat) (xs:List CVal) (h:CHeap):Option (CVal × CHeap) :=
 match xs with
 | [s,.int .i64 i,.imm t l vs] =>
  if l=k && (decide (0<vs.length) && decide (0<=i)) then match elems h k s with
   | some es =>
    if i.toNat=es.length then zD7 { h with next:=h.next+1 } h.next .ref 0 k s (vs.map CVal.bare)
    else if decide (i.toNat<es.length) && decide (es.length+vs.length<=zB7) then
     match s with
     | .ref b ver _ _ _=>if (h.ty b).isSome then none else match h.get b with
      | some (.row _ _)=>some (.ref b (ver+1) k 0 (es.length+vs.length),h.set b (.row (ver+1) (es.take i.toNat++(vs.map CVal.bare++es.drop i.toNat))))
      | _=>none
     | _=>none
    else none
   | none=>none else none
 | _=>none
section
variable {P:Program} {base:Base} {ρ:Go.Shelf.Ren}
theorem zR2 {G:Gh} {a b c:CVal} {vs:List Value} (h:VRs G [a,b,c] vs):∃ x y z,vs=[x,y,z]/\VR G a x/\VR G b y/\VR G c z:=by
 match vs,h with
 | [x,y,z],h=>exact ⟨x,y,z,rfl,h.head,h.tail.head,h.tail.tail.head⟩
 | [],h=>have:=h.1;simp at this
 | [_],h=>have:=h.1;simp at this
 | [_,_],h=>have:=h.1;simp at this
 | _::_::_::_::_,h=>have:=h.1;simp at this
theorem zLt {nm : String} {k by_ : Nat} {zz : Value} (L : InsLay P ρ nm k zz by_) (hname : (nm == "runtime.NumGoroutine") = false) (args : Array Value) (w : World) : (callFunc (ρ.f 22) args).run P w = .ok (.enter (ρ.f 22) args) w :=
 zFf (c:=((Go.Proofs.Body2.n22 ρ).body).getD .skip) L.f22 hname (by rfl) args w
theorem zSp {G:Gh} {h h':CHeap} {w:World} {v:CVal} {u:Value} {w':World} {G':Gh} (I:Inv base G h w) (hv:VR G' v u) (hp:Post base (· = h.next) G { h with next:=h.next+1 } w G' h' w'):zCm base G h w v h' u w' :=
 ⟨G',hv,hp.le,hp.inv,hp.below,Nat.le_trans (Nat.le_succ _) hp.next,fun i hi _ hf=>hp.fresh i (Nat.lt_succ_of_lt hi) (Nat.ne_of_lt hi) hf⟩
theorem zPb {nm : String} {k by_ : Nat} {zz : Value} {g : ElemInfo} (L : InsLay P ρ nm k zz by_) (hname : (nm == "runtime.NumGoroutine") = false) (hg : zAt P (ρ.t 9) = some g) (hgk : g.size = k) (hgb : g.bytes ≤ 4096)
    {G:Gh} {h h':CHeap} {w:World} {s v:CVal} {S Y:Value} {t:Tag} {vs es:List CVal} (I:Inv base G h w) (hs:VR G s S) (hy:VR G (.imm t k vs) Y) (hvs:0<vs.length) (hes:elems h k s=some es)
    (hv:zD7 { h with next:=h.next+1 } h.next .ref 0 k s (vs.map CVal.bare)=some (v,h')):Entr P (callFunc (ρ.f 22) ⟨[S,.int .i64 es.length,Y]⟩) w (zCm base G h w v h'):=by
 subst hgk
 have he:=zO4 (P:=P) (ty:=ρ.t 24) (m:=.ref) (id:=h.next) (I.bump 1) (I.freshAt (Nat.le_refl _) 1) (Nat.lt_succ_self _) L.t24 L.t24 (.inr ⟨_,rfl⟩) hg (.inl rfl) hgb hs hy (by simp [elems]) hv
 refine .inr ⟨_,_,zLt L hname _ w,?_⟩
 -- what the append gives
 have key:∃ u w',(Builtin.append_ #[ρ.t 24,ρ.t 24] (ρ.t 24) #[S,Y]).run P w=.ok u w'/\zCm base G h w v h' u w':=by
  rcases he with ⟨u,w',hr,G',hv',hp⟩ | ⟨w',hr,_⟩
  . refine ⟨u,w',?_,zSp I hv' hp⟩
    rw [Sem.run_bind] at hr
    cases hq:(Builtin.append_ #[ρ.t 24,ρ.t 24] (ρ.t 24) #[S,Y]).run P w with
    | ok q w2=>rw [hq] at hr;simp at hr;rw [hr.1,hr.2]
    | halt x w2=>rw [hq] at hr;simp [Result.andThen] at hr
  . rw [Sem.run_bind] at hr
    cases hq:(Builtin.append_ #[ρ.t 24,ρ.t 24] (ρ.t 24) #[S,Y]).run P w with
    | ok q w2=>rw [hq] at hr;simp at hr
    | halt x w2=>rw [hq] at hr;simp [Result.andThen] at hr
 obtain ⟨u,w1,hrun,hpost⟩:=key
 -- the two slices
 have hY:∃ ya yc,Y=.slice (some ya) vs.length yc:=by cases hy;exact ⟨_,_,rfl⟩
 obtain ⟨ya,yc,rfl⟩:=hY
 have hS:∃ ba n c,S=.slice ba n c/\n=es.length/\n<=c/\(ba=none->n=0):=by
  cases s <;> simp only [elems] at hes <;> first | (cases hes;done) | skip
  . unfold zD7 at hv
    split at hv
    . rename_i h0;rw [List.map_eq_nil_iff] at h0;subst h0;simp at hvs
    . simp at hv
  . cases hes
    cases hs
    exact ⟨none,0,0,rfl,rfl,Nat.le_refl _,fun _=>rfl⟩
  . split at hes
    . cases hes
      cases hs
      rename_i hk hc hf ht
      exact ⟨_,_,_,rfl,rfl,‹_›,fun h=>by cases h⟩
    . cases hes
  . split at hes
    . split at hes
      . rename_i hcond
        simp only [Bool.and_eq_true,decide_eq_true_eq] at hcond
        cases hes
        cases hs
        exact ⟨_,_,_,rfl,by rw [zBv _ _ _ hcond.2.2];omega,by omega,fun h=>by cases h⟩
      . cases hes
    . cases hes
 obtain ⟨ba,n,c,rfl,hn,hnc,hnil⟩:=hS
 rw [<- hn]
 exact Calls.mono (zW2 L ba n c vs.length yc (some ya) w w1 u hvs hnc hnil hrun) fun e w' ⟨he,hw⟩=>⟨u,he,by rw [hw];exact hpost⟩
end
end Go.CI
namespace Go.CI
open Go.RowKit
theorem zM5 {P:Program} (w:World) (tS tR e:TypeId) (ht:P.underlying tS=some (.slice e)) (size:Nat) (hz:∀ w,(Go.sizeOf e).run P w=.ok size w)
    (a b:Addr) (la ca lb cb:Nat) (hne:a.block≠b.block) (tA tB:TypeId) (kA kB:Nat)
    (hsa:w.shape? a.block=some (tA,kA)) (hsb:w.shape? b.block=some (tB,kB)) (hkA:kA≠0) (hkB:kB≠0)
    (hfb:w.frozen? b=false) (hfe:w.frozen? { block:=b.block,off:=kB }=false) :
    (Extern.SlicesOverlaps.overlaps #[tS,tS] #[tR] #[.slice (some a) la ca,.slice (some b) lb cb]).run P w=.ok (.bool false) w:=by
 have hnb:(a.block != b.block)=true:=by simpa using hne
 have hnb':(a.block == b.block)=false:=by simpa using hne
 change Sem.run P (α:=Value) (do
  let some t := (#[tS, tS] : Array TypeId)[0]? | stuck "slices.overlaps: no parameter types"
  let .slice elem ← underlying t | stuck "slices.overlaps: slice type expected"
  let size <- sizeOf elem
  match (some a:Option Addr),(some b:Option Addr) with
  | some a,some b =>
   if la=0\/lb=0\/size=0 then pure (Value.bool false)
   else if a.block != b.block && (<- frozen a) && (<- frozen b) then unsupported .addressObserved
   else do
    if a.block != b.block then do
     noView a;noView b
     if ← mayBeOne a b then return Value.bool ((← choose (.extern "sameAddr.stringBytes" 2)) == 1)
    pure (Value.bool (a.block == b.block && a.off<b.off+lb * size && b.off<a.off+la * size))
  | _,_=>pure (Value.bool false)) w=_
 by_cases h0:la=0\/lb=0\/size=0
 . simp [run_underlying ht,hz,h0]
 . cases kB with
   | zero=>exact absurd rfl hkB
   | succ kB =>
    cases kA with
    | zero=>exact absurd rfl hkA
    | succ kA =>
     cases h1:w.frozen? a <;> cases h2:w.frozen? { block:=a.block,off:=kA+1 } <;>
      simp [run_underlying ht,hz,h0,hnb,hnb',frozen,noView,viewAt,mayBeOne,stringish,shape,Sem.run,hsa,hsb,hfb,hfe,h1,h2]
theorem zMq {P:Program} (w:World) (tS tR e:TypeId) (ht:P.underlying tS=some (.slice e)) (size:Nat) (hz:∀ w,(Go.sizeOf e).run P w=.ok size w)
    (a b:Addr) (la ca lb cb:Nat) (he:a.block=b.block) (hd:b.off+lb * size<=a.off\/a.off+la * size<=b.off) :
    (Extern.SlicesOverlaps.overlaps #[tS,tS] #[tR] #[.slice (some a) la ca,.slice (some b) lb cb]).run P w=.ok (.bool false) w:=by
 have hnb:(a.block != b.block)=false:=by simpa using he
 have hnb':(a.block == b.block)=true:=by simpa using he
 change Sem.run P (α:=Value) (do
  let some t := (#[tS, tS] : Array TypeId)[0]? | stuck "slices.overlaps: no parameter types"
  let .slice elem ← underlying t | stuck "slices.overlaps: slice type expected"
  let size <- sizeOf elem
  match (some a:Option Addr),(some b:Option Addr) with
  | some a,some b =>
   if la=0\/lb=0\/size=0 then pure (Value.bool false)
   else if a.block != b.block && (<- frozen a) && (<- frozen b) then unsupported .addressObserved
   else do
    if a.block != b.block then do
     noView a;noView b
     if ← mayBeOne a b then return Value.bool ((← choose (.extern "sameAddr.stringBytes" 2)) == 1)
    pure (Value.bool (a.block == b.block && a.off<b.off+lb * size && b.off<a.off+la * size))
  | _,_=>pure (Value.bool false)) w=_
 by_cases h0:la=0\/lb=0\/size=0
 . simp [run_underlying ht,hz,h0]
 . simp [run_underlying ht,hz,h0,hnb,hnb',he]
   omega
end Go.CI
namespace Go.CI
open Go.RowKit
theorem Inv.of_cells {base:Base} {G:Gh} {h:CHeap} {w w':World} (I:Inv base G h w) (hc:∀ ab i,w'.cell? ⟨ab,i,none⟩=w.cell? ⟨ab,i,none⟩) (hf:∀ ab i,w'.frozen? ⟨ab,i,none⟩=w.frozen? ⟨ab,i,none⟩) (hs:w'.heap.size=w.heap.size) (hsh:∀ ab,w'.shape? ab=w.shape? ab) (hmp:∀ (ab:Nat) (es:Array MapEntry) (ck:Nat),w.heap[ab]? = some (Obj.map es ck)->w'.heap[ab]? = some (Obj.map es ck)) (hrb:∀ ab T,RowB w ab T->RowB w' ab T):Inv base G h w':=by
 obtain ⟨own,I⟩:=I
 have hl:∀ ab i,Live w ab i->Live w' ab i:=fun ab i ⟨⟨v,h1⟩,h2⟩=>⟨⟨v,by rw [hc];exact h1⟩,by rw [hf];exact h2⟩
 have hh:∀ ab i c,Holds G w ab i c->Holds G w' ab i c:=fun ab i c ⟨v,h1,h2⟩=>⟨v,by rw [hc];exact h1,h2⟩
 refine ⟨own,fun ab o c hf=>⟨(I.fzs ab o c hf).1,hh _ _ _ (I.fzs ab o c hf).2⟩,fun b ab k hm=>⟨(I.mus b ab k hm).1,(I.mus b ab k hm).2.1,fun i hi=>⟨((I.mus b ab k hm).2.2.1 i hi).1,hl _ _ ((I.mus b ab k hm).2.2.1 i hi).2⟩,fun hk=>⟨((I.mus b ab k hm).2.2.2.1 hk).1,let ⟨es,ck,h1⟩:=((I.mus b ab k hm).2.2.2.1 hk).2;⟨es,ck,hmp _ _ _ h1⟩⟩,fun hk=>by rw [hsh];exact (I.mus b ab k hm).2.2.2.2 hk⟩,I.rws,I.tks,fun b o ho=>⟨(I.ents b o ho).1,?_⟩,fun ab o x hx=>by rw [hs];exact I.old ab o x hx,by rw [hs];exact I.top,I.nod,
  fun b v x hx=>⟨by rw [hs];exact (I.cln b v x hx).1,fun st T n hq=>by rw [hf];exact (I.cln b v x hx).2 st T n (by rw [<- hsh];exact hq)⟩,I.gls,I.tyk,fun b T ht v x hx=>⟨hrb _ _ (I.tys b T ht v x hx).1,(I.tys b T ht v x hx).2⟩⟩
 have hb:=(I.ents b o ho).2
 cases o with
 | cells cs=>exact fun ab k hm=>⟨(hb ab k hm).1,fun i c hi=>⟨((hb ab k hm).2 i c hi).1,hh _ _ _ ((hb ab k hm).2 i c hi).2⟩⟩
 | row ver es=>exact ⟨hb.1,fun ab ao k cap hr=>let ⟨h1,h2,h3,h4⟩:=hb.2 ab ao k cap hr;⟨h1,h2,fun i hi=>⟨(h3 i hi).1,hl _ _ (h3 i hi).2⟩,fun i e hie=>⟨(h4 i e hie).1,fun j c hj=>⟨((h4 i e hie).2 j c hj).1,hh _ _ _ ((h4 i e hie).2 j c hj).2⟩⟩⟩⟩
 | frow ver es=>exact ⟨hb.1,fun ab ao k cap hr=>let ⟨h0,h1,h2,h3⟩:=hb.2 ab ao k cap hr;⟨h0,h1,fun i hi=>⟨(h2 i hi).1,by rw [hs];exact (h2 i hi).2⟩,fun i e hie=>⟨(h3 i e hie).1,fun j c hj=>⟨((h3 i e hie).2 j c hj).1,hh _ _ _ ((h3 i e hie).2 j c hj).2⟩⟩⟩⟩
 | map ck kvs=>exact fun ab hm=>let ⟨es,h1,h2⟩:=hb ab hm;⟨es,hmp _ _ _ h1,h2⟩
 | tok ver=>exact ⟨hb.1,fun ab e k room ht=>⟨(hb.2 ab e k room ht).1,fun i hi=>⟨((hb.2 ab e k room ht).2 i hi).1,hl _ _ ((hb.2 ab e k room ht).2 i hi).2⟩⟩⟩
end Go.CI
namespace Go.CI
open Go.RowKit
theorem zMc {G:Gh} {w:World} {ab ao k:Nat} {es:List CVal} (hk:AllK k es) (he:∀ (i:Nat) (e:CVal),es[i]? = some e->∀ (j:Nat) (x:CVal),e.cells[j]? = some x->x.flat=true/\Holds G w ab (ao+i * k+j) x) :
    ∃ cs:List Value,VRs G (zAp es) cs/\∀ (j:Nat) (v:Value),cs[j]? = some v->w.cell? ⟨ab,ao+j,none⟩=some v :=
 zG1 (zAp es) ao fun j c hj=>by
  obtain ⟨i,q,e,h1,h2,h3⟩:=zHh hk hj
  have:=(he i e h2 q c h3).2
  rw [show ao+i * k+q=ao+j by omega] at this
  exact this
theorem zFn (b:Nat):∀ (x y:List Value) (o:Nat) (w:World),w.setCells b o (x++y)=(w.setCells b o x).setCells b (o+x.length) y
 | [],y,o,w=>rfl
 | v::x,y,o,w=>by
  rw [List.cons_append,World.setCells,zFn b x y,World.setCells,List.length_cons,show o+1+x.length=o+(x.length+1) by omega]
theorem zOw {w:World} {b o1 o2:Nat} {x y:List Value} (hd:o1+x.length<=o2) (h1:∀ j,j<x.length->(w.cell? ⟨b,o1+j,none⟩).isSome=true) (h2:∀ j,j<y.length->(w.cell? ⟨b,o2+j,none⟩).isSome=true) (ab i:Nat) :
    ((w.setCells b o2 y).setCells b o1 x).cell? ⟨ab,i,none⟩=((w.setCells b o1 x).setCells b o2 y).cell? ⟨ab,i,none⟩:=by
 by_cases hb:ab=b
 . subst hb
   by_cases c1:o1<=i/\i<o1+x.length
   . have e1:=World.cell?_setCells_in ab x o1 (w.setCells ab o2 y) (fun j hj=>Go.Proofs.isSome_setCells ab y o2 w h2 _ (h1 j hj)) (i - o1) (by omega)
     have e2:=World.cell?_setCells_in ab x o1 w h1 (i - o1) (by omega)
     rw [show o1+(i - o1)=i by omega] at e1 e2
     rw [e1,zAh (fun _=>by omega),e2]
   . by_cases c2:o2<=i/\i<o2+y.length
     . have e1:=World.cell?_setCells_in ab y o2 (w.setCells ab o1 x) (fun j hj=>Go.Proofs.isSome_setCells ab x o1 w h1 _ (h2 j hj)) (i - o2) (by omega)
       have e2:=World.cell?_setCells_in ab y o2 w h2 (i - o2) (by omega)
       rw [show o2+(i - o2)=i by omega] at e1 e2
       rw [e1,zAh (fun _=>by omega),e2]
     . rw [zAh (fun _=>by omega),zAh (fun _=>by omega),zAh (fun _=>by omega),zAh (fun _=>by omega)]
 . rw [zAh (fun e=>absurd e hb),zAh (fun e=>absurd e hb),zAh (fun e=>absurd e hb),zAh (fun e=>absurd e hb)]
section
variable {P:Program} {base:Base} {ρ:Go.Shelf.Ren}
theorem zTk {base:Base} {G G':Gh} {h h':CHeap} {w:World} {ex:Nat->Prop} {b o1 o2:Nat} {x y:List Value} (hb:base<=b) (ho:o2=o1+x.length) (h1:∀ j,j<x.length->(w.cell? ⟨b,o1+j,none⟩).isSome=true) (h2:∀ j,j<y.length->(w.cell? ⟨b,o2+j,none⟩).isSome=true)
    (hp:Post base ex G h w G' h' (w.setCells b o1 (x++y))):Post base ex G h w G' h' ((w.drew.setCells b o2 y).setCells b o1 x):=by
 refine ⟨hp.le,hp.inv.of_cells (fun ab i=>?_) (fun ab i=>?_) ?_ (fun ab=>?_) ?_ ?_,?_,hp.next,hp.fresh⟩
 . rw [zFn,<- ho]
   have:=zOw (w:=w.drew) (b:=b) (o1:=o1) (o2:=o2) (x:=x) (y:=y) (by omega) h1 h2 ab i
   rw [this]
   have hdr:∀ (u:List Value) (o:Nat) (w:World),(w.drew.setCells b o u)=(w.setCells b o u).drew:=fun u o w=>(Go.Proofs.drew_setCells b u o w).symm
   rw [hdr,hdr];rfl
 . rw [World.frozen?_setCells,World.frozen?_setCells,World.frozen?_setCells];rfl
 . rw [setCells_size,setCells_size,setCells_size];rfl
 . rw [zBf,zBf,zBf];rfl
 . intro ab es ck hm
   refine zBx b x o1 _ (zBx b y o2 w.drew ?_)
   show w.heap[ab]? = _
   exact zFq hm
 . intro ab T hr
   refine zCb b x o1 _ (zCb b y o2 w.drew ?_)
   show RowB w ab T
   exact zF7 hr
 . exact ((Below.refl base w).drew.trans (below_setCells hb _ _ _)).trans (below_setCells hb _ _ _)
end
end Go.CI
namespace Go.CI
open Go.RowKit
theorem zT7 {α:Type} (off i len:Nat) (l:List α) (h:i<=len):cut off (off+i) l=(cut off (off+len) l).take i:=by
 unfold cut
 rw [List.take_drop,List.take_take]
 congr 2;omega
theorem zK6 {k:Nat} {es:List CVal} (hk:AllK k es) (n:Nat):zAp (es.drop n)=(zAp es).drop (n * k):=by
 have h1:zAp es=zAp (es.take n)++zAp (es.drop n):=by rw [<- zDi,List.take_append_drop]
 by_cases hn:n<=es.length
 . have h2:(zAp (es.take n)).length=n * k:=by rw [zAl (zHf hk n),List.length_take];congr 1;omega
   rw [h1,<- h2,List.drop_left]
 . rw [List.drop_eq_nil_of_le (by omega:es.length<=n)]
   have:(zAp es).length<=n * k:=by rw [zAl hk];exact Nat.mul_le_mul_right _ (by omega)
   rw [List.drop_eq_nil_of_le this];rfl
theorem zLs {k:Nat} {a:List CVal} (ha:AllK k a) (n:Nat):AllK k (a.drop n):=fun e he=>ha e (List.mem_of_mem_drop he)
theorem zI3 {a:List CVal} (ha:zBt a) (n:Nat):zBt (a.drop n):=fun e he=>ha e (List.mem_of_mem_drop he)
section
variable {P:Program} {base:Base} {ρ:Go.Shelf.Ren}
theorem zPd {ex:Nat->Prop} {G G':Gh} {h h':CHeap} {w w1 w2:World} (p:Post base ex G h w G' h' w1) (hc:∀ ab i,w2.cell? ⟨ab,i,none⟩=w1.cell? ⟨ab,i,none⟩) (hf:∀ ab i,w2.frozen? ⟨ab,i,none⟩=w1.frozen? ⟨ab,i,none⟩) (hs:w2.heap.size=w1.heap.size) (hsh:∀ ab,w2.shape? ab=w1.shape? ab) (hmp:∀ (ab:Nat) (es:Array MapEntry) (ck:Nat),w1.heap[ab]? = some (Obj.map es ck)->w2.heap[ab]? = some (Obj.map es ck)) (hrb:∀ ab T,RowB w1 ab T->RowB w2 ab T) (hb:Below base w w2) :
    Post base ex G h w G' h' w2:=⟨p.le,p.inv.of_cells hc hf hs hsh hmp hrb,hb,p.next,p.fresh⟩
theorem heap_alloc (w:World) (o:Obj) (ab:Nat):(w.alloc o).heap[ab]? = if ab=w.heap.size then some o else w.heap[ab]?:=by
 show (w.heap.push o)[ab]? = _
 rw [Array.getElem?_push]
theorem zIz (w:World) (A:Array Value) (T:TypeId) (fr:Nat × Nat) (ab:Nat):(w.alloc (.cells A T fr)).shape? ab=if ab=w.heap.size then some (T,A.size) else w.shape? ab:=by
 by_cases h:ab=w.heap.size
 . rw [if_pos h];unfold World.shape?;rw [heap_alloc,if_pos h]
 . rw [if_neg h];unfold World.shape?;rw [heap_alloc,if_neg h]
theorem zHe (w:World) (A:Array Value) (T:TypeId) (ab i:Nat):(w.alloc (.cells A T (0,0))).frozen? ⟨ab,i,none⟩=if ab=w.heap.size then false else w.frozen? ⟨ab,i,none⟩:=by
 by_cases h:ab=w.heap.size
 . rw [if_pos h];unfold World.frozen?
   show (match (w.alloc (.cells A T (0,0))).heap[ab]? with | some (.cells _ _ (lo,hi))=>decide (lo<=i) && decide (i<hi) | _=>false)=_
   rw [heap_alloc,if_pos h];simp
 . rw [if_neg h];unfold World.frozen?
   show (match (w.alloc (.cells A T (0,0))).heap[ab]? with | some (.cells _ _ (lo,hi))=>decide (lo<=i) && decide (i<hi) | _=>false)=_
   rw [heap_alloc,if_neg h];rfl
theorem zHj {w:World} {ab i:Nat} {v:Value} (h:w.cell? ⟨ab,i,none⟩=some v):∃ T n,w.shape? ab=some (T,n)/\n≠0:=by
 unfold World.cell? at h
 unfold World.shape?
 split at h
 . rename_i c T fr hh
   rw [hh]
   simp only [Option.isSome_none,Bool.false_eq_true,if_false] at h
   have:=(Array.getElem?_eq_some_iff.1 h).1
   exact ⟨T,c.size,rfl,by omega⟩
 . cases h
theorem zMj {own:Nat->Nat->Option Own} {ab a la b lb q:Nat} (hla:0<la) (hlb:0<lb) (h1:∀ j,j<la->own ab (a+j)=none) (h2:∀ j,j<lb->own ab (b+j)=some (.r q)):b+lb<=a\/a+la<=b:=by
 rcases Nat.lt_or_ge a (b+lb) with h3 | h3
 . rcases Nat.lt_or_ge b (a+la) with h4 | h4
   . exfalso
     rcases Nat.le_total a b with h5 | h5
     . have e1:=h1 (b - a) (by omega)
       have e2:=h2 0 hlb
       rw [show a+(b - a)=b+0 by omega,e2] at e1;cases e1
     . have e1:=h1 0 hla
       have e2:=h2 (a - b) (by omega)
       rw [show b+(a - b)=a+0 by omega,e1] at e2;cases e2
   . exact .inr h4
 . exact .inl h3
theorem zWe {nm : String} {k by_ : Nat} {zz : Value} (L : InsLay P ρ nm k zz by_) (hname : (nm == "runtime.NumGoroutine") = false) (hzz : zz.cells.size = k) (hby : by_ ≤ 4096)
    {G:Gh} {h:CHeap} {w:World} {S Y:Value} {t:Tag} {vs es0:List CVal} {b ver off len i:Nat} (I:Inv base G h w) (hs:VR G (.ref b ver k off len) S) (hy:VR G (.imm t k vs) Y) (hvs:0<vs.length) (hgb:h.get b=some (.row ver es0)) (hnt:h.ty b=none) (hle:off+len<=es0.length) (hi:i<len) (hmost:len+vs.length<=zB7) :
    Entr P (callFunc (ρ.f 22) ⟨[S,.int .i64 i,Y]⟩) w (zCm base G h w (.ref b (ver+1) k 0 (len+vs.length)) (h.set b (.row (ver+1) ((cut off (off+len) es0).take i++(vs.map CVal.bare++(cut off (off+len) es0).drop i))))):=by
 refine .inr ⟨_,_,zLt L hname _ w,?_⟩
 have I':=I
 obtain ⟨own,Io⟩:=I
 have hle':elems h k (.ref b ver k off len)=some (cut off (off+len) es0):=by simp [elems,hgb,hle]
 have hcl:(cut off (off+len) es0).length=len:=by rw [zBv _ _ _ hle];omega
 generalize hes:cut off (off+len) es0=es at *
 -- the elements
 have hel:=zEy Io hle' hs
 rcases hel with ⟨s,h1,_⟩ | ⟨h1,_⟩ | ⟨a,c,rfl,ha,hke,hk0,hcap,hec⟩
 . cases h1
 . cases h1
 have hely:=zEy (k:=k) (es:=vs) Io (by simp [elems]) hy
 rcases hely with ⟨s,h1,_⟩ | ⟨h1,_⟩ | ⟨va,vc,rfl,hva,hkv,_,hvcap,hvcell⟩
 . cases h1
 . cases h1
 obtain ⟨cs,hcv,hcc⟩:=zMc hke hec
 obtain ⟨vv,hvv,hvc⟩:=zMc hkv hvcell
 have hfe:zBt es:=fun e he x hx=>by
  obtain ⟨q,hq⟩:=List.getElem?_of_mem he
  obtain ⟨j,hj⟩:=List.getElem?_of_mem hx
  exact (hec q e hq j x hj).1
 have hfv:zBt vs:=fun e he x hx=>by
  obtain ⟨q,hq⟩:=List.getElem?_of_mem he
  obtain ⟨j,hj⟩:=List.getElem?_of_mem hx
  exact (hvcell q e hq j x hj).1
 obtain ⟨hfl,hkb,hfb⟩:=zIs hkv hfv
 have hvb:VRs G (zAp (vs.map CVal.bare)) vv:=by rw [hfl];exact hvv.map _ fun _ _=>VR.strip
 have hcsl:cs.length=len * k:=by rw [<- hcv.1,zAl hke,hcl]
 have hvvl:vv.length=vs.length * k:=by rw [<- hvv.1,zAl hkv]
 have h1c:=zEk hcv (zEp hfe)
 have h1v:=zEk hvv (zEp hfv)
 obtain ⟨ab,ao,sp⟩:=a
 simp only at ha
 subst ha
 have hvc':∀ (j:Nat) (v:Value),vv[j]? = some v->w.cell? (va.add j)=some v:=fun j v hj=>by rw [zE8 hva];exact hvc j v hj
 cases hs with
 | ref hrw hk hll hsp hadr =>
  rename_i bb bo cap
  have hadr':=hadr.resolve_left (by omega)
  cases hadr'
  obtain ⟨hbn,hvmax,hrow⟩:=Io.ents b _ hgb
  obtain ⟨hab,hcapl,hown,hel2⟩:=hrow _ _ _ _ hrw
  have hclean:=Io.cln _ _ _ hrw
  -- the cells of the slice and of its room
  have hcells:∀ j,j<(cap - off) * k->own ab (bo+off * k+j)=some (.r b)/\Live w ab (bo+off * k+j):=fun j hj=>by
   have h1:off * k+(cap - off) * k=cap * k:=by rw [<- Nat.add_mul];congr 1;omega
   have:=hown (off * k+j) (by omega)
   rw [<- Nat.add_assoc] at this
   exact this
  have hvown:∀ j,j<vs.length * k->own va.block (va.off+j)=none:=fun j hj=>by
   have hjl:j<(zAp vs).length:=by rw [zAl hkv];exact hj
   cases hy with
   | imm hs1 hk1 hc1 hf1 ht1 =>
    obtain ⟨q,r,e,h1,h2,h3⟩:=zHh hkv (List.getElem?_eq_getElem hjl)
    have:=(Io.fzs _ _ _ ((hf1 q e h2).2 r _ h3).2).1
    rw [show va.off+q * k+r=va.off+j by omega] at this
    exact this
  have hvpos:0<vs.length * k:=Nat.mul_pos hvs hk0
  by_cases hroom:es.length+vs.length<=cap - off
  . have hnm:(es.length+vs.length) * k<=(cap - off) * k:=Nat.mul_le_mul_right _ hroom
    have hA:∀ j,j<(es.length+vs.length) * k->own ab (bo+off * k+j)=some (.r b)/\Live w ab (bo+off * k+j):=fun j hj=>hcells j (by omega)
    have hAsome:∀ j,j<(es.length+vs.length) * k->(w.cell? ⟨ab,bo+off * k+j,none⟩).isSome=true:=fun j hj=>by
     obtain ⟨v,hv⟩:=(hA j hj).2.1;rw [hv];rfl
    have hpos:0<(es.length+vs.length) * k:=Nat.mul_pos (by omega) hk0
    have hik:(i+vs.length) * k+(es.length - i) * k=(es.length+vs.length) * k:=by rw [<- Nat.add_mul];congr 1;omega
    have hapart:va.block=ab->bo+off * k+(es.length+vs.length) * k<=va.off\/va.off+vs.length * k<=bo+off * k:=fun e =>
     zMj (own:=own) (ab:=ab) (q:=b) hvpos hpos (fun j hj=>by rw [<- e];exact hvown j hj) (fun j hj=>(hA j hj).1)
    have him:(i+vs.length) * k<=(es.length+vs.length) * k:=Nat.mul_le_mul_right _ (by omega)
    have hov:∀ lb cb,lb=es.length - i->(callFunc (ρ.f 29) #[.slice (some va) vs.length vc,.slice (some ⟨ab,bo+off * k+(i+vs.length) * k,none⟩) lb cb]).run P w=.ok (.value (.bool false)) w:=fun lb cb hlb=>by
     rw [L.ov]
     by_cases hbe:va.block=ab
     . rw [zMq w (ρ.t 24) (ρ.t 4) (ρ.t 9) L.t24 k L.z9 va ⟨ab,bo+off * k+(i+vs.length) * k,none⟩ _ vc lb cb hbe (by
        show bo+off * k+(i+vs.length) * k+lb * k<=va.off\/va.off+vs.length * k<=bo+off * k+(i+vs.length) * k
        subst hlb
        rcases hapart hbe with h1 | h1
        . left;omega
        . right;omega)]
       rfl
     . obtain ⟨x,hx⟩:=(hA 0 hpos).2.1
       have hvl0:0<vv.length:=by rw [hvvl];exact hvpos
       have hy0:=hvc 0 _ (List.getElem?_eq_getElem hvl0)
       obtain ⟨T1,n1,hs1,hn1⟩:=zHj hy0
       obtain ⟨T2,n2,hs2,hn2⟩:=zHj hx
       have hlive:w.frozen? ⟨ab,bo+off * k+(i+vs.length) * k,none⟩=false:=by
        have:(i+vs.length) * k<(es.length+vs.length) * k:=Nat.mul_lt_mul_of_pos_right (by omega) hk0
        exact (hA _ this).2.2
       rw [zM5 w (ρ.t 24) (ρ.t 4) (ρ.t 9) L.t24 k L.z9 va ⟨ab,bo+off * k+(i+vs.length) * k,none⟩ _ vc lb cb hbe T1 T2 n1 n2 hs1 hs2 hn1 hn2 hlive (hclean.2 rfl T2 n2 hs2)]
       rfl
    have hdl:(cs.drop (i * k)).length=(es.length - i) * k:=by rw [List.length_drop,hcsl,hcl,Nat.sub_mul]
    have hti:cut off (off+i) es0=es.take i:=by rw [<- hes];exact zT7 _ _ _ _ (by omega)
    have C:=zRy L ab (bo+off * k) es.length (cap - off) i vs.length vc va cs vv w (by omega) hvs hroom (by unfold zB7 at hmost;omega) (by rw [hcsl,hcl]) hvvl
     hcc (fun j hj=>hAsome j hj) (fun j hj=>(hA j hj).2.2) hvc' hva (fun e=>(hapart e).symm.imp (fun h=>by rw [Nat.add_mul];omega) (fun h=>h)) h1c h1v
     (fun cb=>hov _ _ (by omega))
    refine C.mono fun e w' ⟨he,hw'⟩=>⟨_,he,?_⟩
    subst hw'
    have hp:=zIa (id:=h.next) I' (zC1 hkb (zLs hke i)) (zB9 hfb (zI3 hfe i)) hk0 hgb hrw (off:=off) (len:=i) (by omega) (by rw [List.length_append,List.length_map,List.length_drop];omega)
     (news:=vv++cs.drop (i * k)) (by rw [zDi,zK6 hke];exact hvb.append (hcv.drop _))
    rw [hti] at hp
    have hoff:bo+(off+i) * k=bo+off * k+i * k:=by rw [Nat.add_mul];omega
    rw [hoff] at hp
    have hp2:=zTk (b:=ab) (o1:=bo+off * k+i * k) (o2:=bo+off * k+(i+vs.length) * k) (x:=vv) (y:=cs.drop (i * k)) hab (by rw [hvvl,Nat.add_mul];omega)
     (fun j hj=>by rw [Nat.add_assoc];exact hAsome _ (by rw [hvvl] at hj;rw [Nat.add_mul] at hik;omega))
     (fun j hj=>by rw [Nat.add_assoc];exact hAsome _ (by rw [hdl] at hj;omega)) hp
    refine ⟨_,?_,zLa hp2 fun j hj hlt _=>absurd hlt (by omega)⟩
    have:=VR.ref (off:=0) (len:=es.length+vs.length) (a:=⟨ab,bo+off * k,none⟩) (zBi G b (ver+1) (ab,bo+off * k,k,cap - off)) hk0 (by omega) rfl (.inr (by simp))
    rw [hcl]
    simpa using this
  . have C:=zSv L hzz hby ab (bo+off * k) es.length (cap - off) i vs.length vc va cs vv w (by omega) hvs (by omega) (by omega) (by unfold zB7 at hmost;omega) (by rw [hcsl,hcl]) hvvl hcc hvc'
     (by obtain ⟨v,hv⟩:=(hcells 0 (Nat.mul_pos (by omega) hk0)).2.1;exact zE3 hv) (by
      have hl0:0<vv.length:=by rw [hvvl];exact hvpos
      have:=hvc 0 _ (List.getElem?_eq_getElem hl0)
      exact zE3 this) h1c h1v
    refine C.mono fun e w' ⟨GC,ROW,hG1,hG2,he,hw',hR⟩=>⟨_,he,?_⟩
    subst hw'
    obtain ⟨L0,hL0⟩:∃ L0,L0=cs.take (i * k)++(vv++cs.drop (i * k)):=⟨_,rfl⟩
    have hdl:(cs.drop (i * k)).length=(es.length - i) * k:=by rw [List.length_drop,hcsl,hcl,Nat.sub_mul]
    have htl:(cs.take (i * k)).length=i * k:=by
     rw [List.length_take,hcsl,hcl]
     exact Nat.min_eq_left (Nat.mul_le_mul_right _ (by omega))
    have hik:i * k+vs.length * k+(es.length - i) * k=(es.length+vs.length) * k:=by rw [<- Nat.add_mul,<- Nat.add_mul];congr 1;omega
    have hGk:(es.length+vs.length) * k<=ROW.size:=by rw [hG2];exact Nat.mul_le_mul_right _ hG1
    obtain ⟨W,hW⟩:∃ W,W=((((w.alloc (.cells ROW (ρ.t 9))).drew.setCells w.heap.size (i * k) vv).drew).setCells w.heap.size ((i+vs.length) * k) (cs.drop (i * k))):=⟨_,rfl⟩
    rw [<- hW]
    have hR0:∀ j,(w.alloc (.cells ROW (ρ.t 9))).cell? ⟨w.heap.size,j,none⟩=ROW[j]?:=fun j=>World.cell?_alloc_at ROW _ w.heap.size j rfl
    have hsome0:∀ j,j<ROW.size->(w.alloc (.cells ROW (ρ.t 9))).cell? ⟨w.heap.size,j,none⟩=some (ROW[j]!):=fun j hj=>by rw [hR0];simp [hj]
    have hs1:∀ j,j<vv.length->((w.alloc (.cells ROW (ρ.t 9))).drew.cell? ⟨w.heap.size,i * k+j,none⟩).isSome=true:=fun j hj=>by
     have:=hsome0 (i * k+j) (by omega)
     have e:(w.alloc (.cells ROW (ρ.t 9))).drew.cell? ⟨w.heap.size,i * k+j,none⟩=_:=this
     rw [e];rfl
    have hs2:∀ j,j<(cs.drop (i * k)).length->((((w.alloc (.cells ROW (ρ.t 9))).drew.setCells w.heap.size (i * k) vv).drew).cell? ⟨w.heap.size,(i+vs.length) * k+j,none⟩).isSome=true:=fun j hj=>by
     refine Go.Proofs.isSome_setCells w.heap.size vv (i * k) _ hs1 _ ?_
     have:=hsome0 ((i+vs.length) * k+j) (by rw [Nat.add_mul];omega)
     have e:(w.alloc (.cells ROW (ρ.t 9))).drew.cell? ⟨w.heap.size,(i+vs.length) * k+j,none⟩=_:=this
     rw [e];rfl
    have hWL:∀ (j:Nat) (v:Value),L0[j]? = some v->W.cell? ⟨w.heap.size,j,none⟩=some v:=fun j v hj=>by
     rw [hL0] at hj
     by_cases c1:j<i * k
     . rw [List.getElem?_append_left (by omega)] at hj
       have:=hR j v hj
       rw [hW,zAh (fun _=>.inl (by rw [Nat.add_mul];omega))]
       show ((w.alloc (.cells ROW (ρ.t 9))).drew.setCells w.heap.size (i * k) vv).cell? _=_
       rw [zAh (fun _=>.inl (by omega))]
       exact (hR0 j).trans this
     . rw [List.getElem?_append_right (by omega),htl] at hj
       by_cases c2:j - i * k<vv.length
       . rw [List.getElem?_append_left c2] at hj
         have h1:=World.cell?_setCells_in w.heap.size vv (i * k) ((w.alloc (.cells ROW (ρ.t 9))).drew) hs1 (j - i * k) c2
         rw [show i * k+(j - i * k)=j by omega] at h1
         rw [hW,zAh (fun _=>.inl (by rw [Nat.add_mul];omega))]
         exact (h1.trans (List.getElem?_eq_getElem c2).symm).trans hj
       . rw [List.getElem?_append_right (by omega)] at hj
         have hjl:=(List.getElem?_eq_some_iff.1 hj).1
         have h1:=World.cell?_setCells_in w.heap.size (cs.drop (i * k)) ((i+vs.length) * k) _ hs2 (j - i * k - vv.length) hjl
         rw [show (i+vs.length) * k+(j - i * k - vv.length)=j by rw [Nat.add_mul];omega] at h1
         rw [hW]
         exact (h1.trans (List.getElem?_eq_getElem hjl).symm).trans hj
    have hWsome:∀ j,j<ROW.size->(W.cell? ⟨w.heap.size,j,none⟩).isSome=true:=fun j hj=>by
     rw [hW]
     refine Go.Proofs.isSome_setCells _ _ _ _ hs2 _ ?_
     refine Go.Proofs.isSome_setCells w.heap.size vv (i * k) _ hs1 _ ?_
     have e:(w.alloc (.cells ROW (ρ.t 9))).drew.cell? ⟨w.heap.size,j,none⟩=_:=hsome0 j hj
     rw [e];rfl
    obtain ⟨A,hA⟩:∃ A:Array Value,A=Array.ofFn (n:=ROW.size) fun j=>(W.cell? ⟨w.heap.size,j.val,none⟩).getD .nilFunc:=⟨_,rfl⟩
    have hAs:A.size=ROW.size:=by rw [hA,Array.size_ofFn]
    have hAc:∀ j,A[j]? = W.cell? ⟨w.heap.size,j,none⟩:=fun j=>by
     by_cases hj:j<ROW.size
     . rw [hA,Array.getElem?_ofFn,dif_pos hj]
       have:=hWsome j hj
       cases hq:W.cell? ⟨w.heap.size,j,none⟩ with
       | none=>rw [hq] at this;cases this
       | some v=>rfl
     . rw [Array.getElem?_eq_none (by omega),hW,zAh (fun _=>.inr (by rw [Nat.add_mul];omega))]
       show _=((w.alloc (.cells ROW (ρ.t 9))).drew.setCells w.heap.size (i * k) vv).cell? _
       rw [zAh (fun _=>.inr (by omega))]
       exact ((hR0 j).trans (Array.getElem?_eq_none (by omega))).symm
    have hYl:(es.take i++(vs.map CVal.bare++es.drop i)).length=es.length+vs.length:=by simp;omega
    have hYk:AllK k (es.take i++(vs.map CVal.bare++es.drop i)):=zC1 (zHf hke i) (zC1 hkb (zLs hke i))
    have hYf:zBt (es.take i++(vs.map CVal.bare++es.drop i)):=zB9 (fun e he=>hfe e (List.mem_of_mem_take he)) (zB9 hfb (zI3 hfe i))
    have hYv:VRs G (zAp (es.take i++(vs.map CVal.bare++es.drop i))) L0:=by
     rw [zDi,zDi,zK6 hke,zKe hke,hL0]
     exact (hcv.take _).append (hvb.append (hcv.drop _))
    have hp:=zC9 (lo:=0) (hi:=0) (T:=ρ.t 9) (ver:=ver+1) (cap:=GC) (arr:=A) I' (Nat.le_refl _) hbn (fun v x hx=>by have:=hvmax v x hx;omega) hYk hYf (by rw [hYl];exact hG1) (by rw [hAs,hG2];exact Nat.le_refl _)
     (fun j c hc=>by
      have hlt:j<L0.length:=by rw [<- hYv.1];exact (List.getElem?_eq_some_iff.1 hc).1
      exact ⟨L0[j],by rw [hAc];exact hWL j _ (List.getElem?_eq_getElem hlt),hYv.2 j c _ hc (List.getElem?_eq_getElem hlt)⟩)
     (zBm (o:=.row (ver+1) (es.take i++(vs.map CVal.bare++es.drop i))) hgb) (fun b' hne=>get_set_other hne) rfl (zCv h b _ Io.nod) ⟨Nat.le_refl _,Nat.zero_le _⟩ (fun T' h1=>by have h1:h.ty b=some T':=h1;rw [hnt] at h1;cases h1) (fun b' T' _ h1=>h1)
    have hbel:Below base w W:=by
     rw [hW]
     exact (((Below.refl base w).alloc Io.top _).drew.trans (below_setCells Io.top _ _ _)).drew.trans (below_setCells Io.top _ _ _)
    have hp2:=zPd (w2:=W) hp (fun ab' j=>by
        by_cases hb':ab'=w.heap.size
        . subst hb';exact (hAc j).symm.trans (World.cell?_alloc_at A _ w.heap.size j rfl).symm
        . rw [hW,zAh (fun e=>absurd e hb')]
          show ((w.alloc (.cells ROW (ρ.t 9))).drew.setCells w.heap.size (i * k) vv).cell? _=_
          rw [zAh (fun e=>absurd e hb')]
          show (w.alloc (.cells ROW (ρ.t 9))).cell? _=_
          rw [World.cell?_alloc_old (h:=hb'),World.cell?_alloc_old (h:=hb')])
     (fun ab' j=>by
      rw [hW,World.frozen?_setCells]
      show ((w.alloc (.cells ROW (ρ.t 9))).drew.setCells w.heap.size (i * k) vv).frozen? _=_
      rw [World.frozen?_setCells]
      show (w.alloc (.cells ROW (ρ.t 9))).frozen? _=_
      rw [zHe,zHe])
     (by
      rw [hW,setCells_size]
      show ((w.alloc (.cells ROW (ρ.t 9))).drew.setCells w.heap.size (i * k) vv).heap.size=_
      rw [setCells_size]
      show (w.heap.push _).size=(w.heap.push _).size
      rw [Array.size_push,Array.size_push])
     (fun ab'=>by
      rw [hW,zBf]
      show ((w.alloc (.cells ROW (ρ.t 9))).drew.setCells w.heap.size (i * k) vv).shape? _=_
      rw [zBf]
      show (w.alloc (.cells ROW (ρ.t 9))).shape? _=_
      rw [zIz,zIz,hAs])
     (fun ab' es' ck hm=>by
      rw [hW]
      refine zBx _ _ _ _ ?_
      show ((w.alloc (.cells ROW (ρ.t 9))).drew.setCells w.heap.size (i * k) vv).heap[ab']? = _
      refine zBx _ _ _ _ ?_
      show (w.alloc (.cells ROW (ρ.t 9))).heap[ab']? = _
      rw [heap_alloc] at hm ⊢
      split at hm
      . cases hm
      . rename_i hne;rw [if_neg hne];exact hm)
     (fun ab' T' hr=>by
      rw [hW]
      refine zCb _ _ _ _ ?_
      show RowB ((w.alloc (.cells ROW (ρ.t 9))).drew.setCells w.heap.size (i * k) vv) ab' T'
      refine zCb _ _ _ _ ?_
      show RowB (w.alloc (.cells ROW (ρ.t 9))) ab' T'
      obtain ⟨c,lo,hi,he,h1,h2⟩:=hr
      rw [heap_alloc] at he
      unfold RowB
      rw [heap_alloc]
      split at he
      . cases he
        rename_i e
        exact ⟨ROW,0,0,by rw [if_pos e],Nat.le_refl _,Nat.zero_le _⟩
      . rename_i hne;exact ⟨c,lo,hi,by rw [if_neg hne];exact he,h1,h2⟩) hbel
    refine ⟨_,?_,zLa hp2 fun j hj hlt hfj=>by subst hj;have:=hfj.2.2.2;rw [hgb] at this;cases this⟩
    rw [hcl]
    exact zFr hk0 hG1
end
end Go.CI
namespace Go.CI
open Go.RowKit
section
variable {P:Program} {base:Base} {ρ:Go.Shelf.Ren}
theorem zJy {nm : String} {k by_ : Nat} {zz : Value} {g : ElemInfo} (L : InsLay P ρ nm k zz by_) (hname : (nm == "runtime.NumGoroutine") = false) (hzz : zz.cells.size = k) (hby : by_ ≤ 4096) (hg : zAt P (ρ.t 9) = some g) (hgk : g.size = k) (hgb : g.bytes ≤ 4096) :
    zHt P base (ρ.f 22) (zBb k):=by
 intro G h w xs us v h' hp I hr
 unfold zBb at hp
 split at hp
 . rename_i s i t l vs
   obtain ⟨S,N,Y,rfl,hS,hN,hY⟩:=zR2 hr
   have:=zOi (c:=.nilp) hN
   subst this
   split at hp
   . rename_i hc
     simp only [Bool.and_eq_true,decide_eq_true_eq] at hc
     obtain ⟨rfl,hvs,hi0⟩:=hc
     split at hp
     . rename_i es hes
       split at hp
       . rename_i hie
         have e:i=(es.length:Int):=by omega
         subst e
         exact zPb L hname hg hgk hgb I hS hY hvs hes hp
       . split at hp
         . rename_i hcond
           simp only [Bool.and_eq_true,decide_eq_true_eq] at hcond
           split at hp
           . rename_i b ver k2 off len
             split at hp
             . cases hp
             rename_i hnt
             have hnt:h.ty b=none:=by simpa using hnt
             split at hp
             . rename_i v0 es0 hget
               cases hp
               have hes':=hes
               simp only [elems,hget] at hes'
               split at hes'
               . rename_i hq
                 simp only [Bool.and_eq_true,decide_eq_true_eq] at hq
                 obtain ⟨h1,h2,h3⟩:=hq
                 cases hes'
                 subst h1
                 subst h2
                 have hcl:(cut off (off+len) es0).length=len:=by rw [zBv _ _ _ h3];omega
                 rw [hcl] at hcond ⊢
                 have e:i=((i.toNat:Nat):Int):=by omega
                 have:=zWe L hname hzz hby (i:=i.toNat) I hS hY hvs hget hnt h3 hcond.1 hcond.2
                 rw [<- e] at this
                 exact this
               . cases hes'
             . cases hp
           . cases hp
         . cases hp
     . cases hp
   . cases hp
 . cases hp
end
end Go.CI
