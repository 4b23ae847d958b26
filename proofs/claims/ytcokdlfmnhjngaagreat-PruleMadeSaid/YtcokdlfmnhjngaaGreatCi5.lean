/- A deterministic interpreter over values, proved sound against the model's rules (part 5 of 7): what a run of it gives, a call in the model gives. -/
import Derived.Test.YtcokdlfmnhjngaaGreatCi4
import Derived.LoopN
import Derived.Defers
import Derived.Lib.Bytealg
import Derived.ChangeSame
import Derived.Below
set_option linter.unusedVariables false
set_option linter.unusedSimpArgs false
/- A deterministic interpreter over values: a region's code is the model's. -/
set_option linter.unusedVariables false
namespace Go.CI
open Go.RowKit
theorem cell_of_heap {w w':World} (h:w'.heap = w.heap) (a:Addr):w'.cell? a = w.cell? a:=by unfold World.cell?; rw [h]
theorem frozen_of_heap {w w':World} (h:w'.heap = w.heap) (a:Addr):w'.frozen? a = w.frozen? a:=by unfold World.frozen?; rw [h]
theorem Inv.of_heap {base:Base} {G:Gh} {h:CHeap} {w w':World} (I:Inv base G h w) (he:w'.heap = w.heap):Inv base G h w':=by
 obtain ⟨own,I⟩:=I
 have hl:∀ ab i,Live w ab i → Live w' ab i:=fun ab i ⟨⟨v,h1⟩,h2⟩ => ⟨⟨v,by rw [cell_of_heap he]; exact h1⟩,by rw [frozen_of_heap he]; exact h2⟩
 have hh:∀ ab i c,Holds G w ab i c → Holds G w' ab i c:=fun ab i c ⟨v,h1,h2⟩ => ⟨v,by rw [cell_of_heap he]; exact h1,h2⟩
 refine ⟨own,fun ab o c hf => ⟨(I.fzs ab o c hf).1,hh _ _ _ (I.fzs ab o c hf).2⟩,fun b ab k hm => ⟨(I.mus b ab k hm).1,(I.mus b ab k hm).2.1,fun i hi => ⟨((I.mus b ab k hm).2.2.1 i hi).1,hl _ _ ((I.mus b ab k hm).2.2.1 i hi).2⟩,fun hk => ⟨((I.mus b ab k hm).2.2.2.1 hk).1,by rw [he]; exact ((I.mus b ab k hm).2.2.2.1 hk).2⟩,fun hk => by unfold World.shape?; rw [he]; exact (I.mus b ab k hm).2.2.2.2 hk⟩,I.rws,I.tks,fun b o ho => ⟨(I.ents b o ho).1,?_⟩,fun ab o x hx => by rw [he]; exact I.old ab o x hx,by rw [he]; exact I.top,I.nod,fun b v x hx => ⟨by rw [he]; exact (I.cln b v x hx).1,fun st T n hs => by rw [frozen_of_heap he]; exact (I.cln b v x hx).2 st T n (by unfold World.shape? at hs ⊢; rw [← he]; exact hs)⟩,I.gls,I.tyk,fun b T ht v x hx => ⟨by unfold RowB; rw [he]; exact (I.tys b T ht v x hx).1,(I.tys b T ht v x hx).2⟩⟩
 have hb:=(I.ents b o ho).2
 cases o with
 | cells cs => exact fun ab k hm => ⟨(hb ab k hm).1,fun i c hi => ⟨((hb ab k hm).2 i c hi).1,hh _ _ _ ((hb ab k hm).2 i c hi).2⟩⟩
 | row ver es => exact ⟨hb.1,fun ab ao k cap hr => let ⟨h1,h2,h3,h4⟩:=hb.2 ab ao k cap hr; ⟨h1,h2,fun i hi => ⟨(h3 i hi).1,hl _ _ (h3 i hi).2⟩,fun i e hie => ⟨(h4 i e hie).1,fun j c hj => ⟨((h4 i e hie).2 j c hj).1,hh _ _ _ ((h4 i e hie).2 j c hj).2⟩⟩⟩⟩
 | tok ver => exact ⟨hb.1,fun ab e k room ht => ⟨(hb.2 ab e k room ht).1,fun i hi => ⟨((hb.2 ab e k room ht).2 i hi).1,hl _ _ ((hb.2 ab e k room ht).2 i hi).2⟩⟩⟩
 | frow ver es => exact ⟨hb.1,fun ab ao k cap hr => let ⟨h0,h1,h2,h3⟩:=hb.2 ab ao k cap hr; ⟨h0,h1,fun i hi => ⟨(h2 i hi).1,by rw [he]; exact (h2 i hi).2⟩,fun i e hie => ⟨(h3 i e hie).1,fun j c hj => ⟨((h3 i e hie).2 j c hj).1,hh _ _ _ ((h3 i e hie).2 j c hj).2⟩⟩⟩⟩
 | map ck kvs => exact fun ab hm => let ⟨es,h1,h2⟩:=hb ab hm; ⟨es,by rw [he]; exact h1,h2⟩
theorem Inv.bump {base:Base} {G:Gh} {h:CHeap} {w:World} (I:Inv base G h w) (n:Nat):Inv base G { h with next:=h.next + n } w:=by
 obtain ⟨own,I⟩:=I
 exact ⟨own,I.sub (h':={ h with next:=h.next + n }) (List.Sublist.refl _) (Nat.le_add_right _ _) rfl⟩
theorem Inv.freshAt {base:Base} {G:Gh} {h:CHeap} {w:World} (I:Inv base G h w) {i:Nat} (hi:h.next ≤ i) (n:Nat):zD2 G { h with next:=h.next + n } i:=by
 obtain ⟨own,I⟩:=I
 refine ⟨?_,fun v => ?_,fun v => ?_,?_⟩
 · cases hm:G.mu i with
   | none => rfl
   | some x => have:=(I.mus i x.1 x.2 hm).1; omega
 · cases hm:G.rw i v with
   | none => rfl
   | some x => have:=I.rws i v x hm; omega
 · cases hm:G.tk i v with
   | none => rfl
   | some x => have:=I.tks i v x hm; omega
 · show h.get i = none
   cases hm:h.get i with
   | none => rfl
   | some x => have:=(I.ents i x hm).1; omega
theorem zKu {P:Program} {base:Base} {E:Env} {T:Nat → Option CFn} {ex:CCode → CSt → Option (CExit × CSt)} {rg:Nat} {ops:Array Oper} {draw:Bool} {cc:CCode} {st st':CSt} {x:CExit} (hE:E.P = P) (hglob:zDw E.H.globals base.gl) (hmixed:P.follows .mixedOrders = true)
    (hc:zJh E rg ops.toList draw = some cc) (hx:zAt T ex cc st = some (x,st')) (hsim:zGw P base (zE1 T ex)) {G:Gh} {a:Act} {w:World} (A:AR E G st.tm st.defs a) (I:Inv base G st.h w) {Q:Exit → Act → World → Prop}
    (hQ:∀ G' a' w',AR E G' st'.tm st'.defs a' → Post base (fun _ => False) G st.h w G' st'.h w' → Q .normal a' w'):x = .normal ∧ (Code.region rg ops draw).wp P Q a w:=by
 unfold zJh at hc
 split at hc
 · rename_i cs hcs
   split at hc
   · rename_i hdst
     have C:=copAt_of hcs
     have main:∀ (wb:List (Nat × Nat)) (chk:List (Nat × Nat × Nat)) (sw:List (Nat × Nat)),wb = wbOf E.vars ops.toList → zAt T ex (.region cs wb chk sw) st = some (x,st') →
         ∃ (tr:Nat → RS) (r:Nat → CVal),Run (zE1 T ex) st.tm st.h.next cs tr r ∧ tr 0 = ⟨[],{ st.h with next:=st.h.next + cs.length },st.defs,[]⟩ ∧ x = .normal ∧ st' = ⟨zBu cs.length (tr cs.length).vals st.tm wb,(tr cs.length).h,(tr cs.length).defs⟩ ∧
          chk.all (zF2 st.tm cs cs.length (tr cs.length).vals ((tr cs.length).h :: (tr cs.length).hs).reverse) = true ∧ sw.all (zGy st.tm cs cs.length (tr cs.length).vals) = true:=by
      intro wb chk sw hwb hx
      simp only [zAt] at hx
      split at hx
      · rename_i s hs
        obtain ⟨tr,r,h0,hn,hst⟩:=trace_of cs _ _ _ hs
        split at hx
        · rename_i hck
          simp only [Bool.and_eq_true] at hck
          cases hx
          refine ⟨tr,r,⟨by rw [h0],by rw [h0],hst⟩,h0,rfl,by rw [hn],?_,?_⟩
          · rw [hn]; exact hck.1
          · rw [hn]; exact hck.2
        · cases hx
      · cases hx
     have hres:∀ i,i < cs.length → st.h.next + i < ({ st.h with next:=st.h.next + cs.length }:CHeap).next ∧ zD2 G { st.h with next:=st.h.next + cs.length } (st.h.next + i):=fun i hi => ⟨by show st.h.next + i < st.h.next + cs.length; omega,I.freshAt (by omega) _⟩
     have hfin:∀ {w0:World} {tr:Nat → RS} {G':Gh} {w':World},w0.heap = w.heap → Below base w w0 → Post base (fun k => st.h.next ≤ k) G { st.h with next:=st.h.next + cs.length } w0 G' (tr cs.length).h w' → Post base (fun _ => False) G st.h w G' (tr cs.length).h w':=fun h1 h2 hp =>
      ⟨hp.le,hp.inv,h2.trans hp.below,Nat.le_trans (Nat.le_add_right _ _) hp.next,fun i hi _ hf => hp.fresh i (Nat.lt_of_lt_of_le hi (Nat.le_add_right _ _)) (by omega) hf⟩
     have J0:∀ {w0:World} {tr:Nat → RS} {r:Nat → CVal} {sw:List (Nat × Nat)},w0.heap = w.heap → tr 0 = ⟨[],{ st.h with next:=st.h.next + cs.length },st.defs,[]⟩ →
         J base ops (zE1 T ex) st.tm st.h.next cs tr r sw G { st.h with next:=st.h.next + cs.length } w0 a (fun _ => false) a w0:=fun h1 h0 =>
      ⟨G,{ st.h with next:=st.h.next + cs.length },st.defs,.inl ⟨0,Nat.zero_le _,fun j _ => by simp,by rw [h0],by rw [h0]⟩,.refl ((I.of_heap h1).bump _),⟨fun t j hl => absurd hl.mem (by simp),fun t _ => rfl⟩,A.defs,rfl⟩
     cases draw with
     | false =>
      simp only [Bool.false_eq_true,if_false] at hc
      cases hc
      obtain ⟨tr,r,R,h0,rfl,rfl,_,_⟩:=main _ _ _ rfl hx
      refine ⟨rfl,wp_region ?_⟩
      rw [List.range_eq_range']
      refine seq_ops hE C hdst R hsim (by rw [h0]; exact A) hres (fun a' w' HJ => ?_) ops.size 0 a w (by omega) ((J0 (tr:=tr) (r:=r) rfl h0).congr fun j => by simp)
      obtain ⟨G',hp,hA⟩:=j_done C R (by rw [h0]; exact A) (fun a b h => by cases h) (fun i hi => by simpa using hi) HJ
      exact hQ G' a' w' hA (hfin rfl (Below.refl _ _) hp)
     | true =>
      simp only [if_true] at hc
      split at hc
      · rename_i hok
        simp only [Bool.and_eq_true] at hok
        obtain ⟨hedges,htmps,hchain,hswaps⟩:=hok
        cases hc
        obtain ⟨tr,r,R,h0,rfl,rfl,hchk,hsw⟩:=main _ _ _ rfl hx
        refine ⟨rfl,wp_region_any hmixed ?_⟩
        have B:=bound_any R hchain hswaps hchk hsw
        have hrep:∀ j,(Array.replicate ops.size false).getD j false = false:=fun j => by
         by_cases hj:j < ops.size <;> simp [hj]
        refine any_ops (zJ1 ops.toList [] [] (by simp) rfl (fun i j h => by simp at h)) hedges htmps hE C hdst R B hsim (by rw [h0]; exact A) hres (fun S a' w' hS HJ => ?_) ops.size _ a _ (by simp) ?_ (fun i o hi => absurd (show (Array.replicate ops.size false).getD i false = true from hi) (by rw [hrep]; simp)) ((J0 (tr:=tr) (r:=r) (w0:={ w with drawn:=w.drawn + 1 }) rfl h0).congr fun j => (hrep j).symm)
        · obtain ⟨G',hp,hA⟩:=j_done C R (by rw [h0]; exact A) (fun a b h => by
           rcases B.swap with h1 | ⟨a',b',h1,h2,h3,_⟩
           · rw [h] at h1; cases h1
           · rw [h] at h1; cases h1; exact ⟨h3,h2⟩) hS HJ
          exact hQ G' a' w' hA (hfin (w0:={ w with drawn:=w.drawn + 1 }) rfl ⟨rfl,rfl,rfl,Nat.le_refl _,fun _ _ => rfl⟩ hp)
        · exact Nat.le_trans List.countP_le_length (by simp)
      · cases hc
   · cases hc
 · cases hc
end Go.CI
/- A deterministic interpreter over values: code is the model's. -/
set_option linter.unusedVariables false
namespace Go.CI
open Go.RowKit
def XR:CExit → Exit → Prop
 | .normal,.normal => True
 | .exit i,.exit j => i = j
 | .ret,.ret => True
 | _,_ => False
def WpN (P:Program) (n:Nat) (c:Code) (Q:Exit → Act → World → Prop) (a:Act) (w:World):Prop:=match c with
 | .loop body => Code.rounds P body Q n a w
 | c => c.wp P Q a w
theorem WpN.wp {P:Program} {n:Nat} {c:Code} {Q:Exit → Act → World → Prop} {a:Act} {w:World} (h:WpN P n c Q a w):c.wp P Q a w:=by
 cases c <;> first | exact h | exact wp_loop_rounds n h
def CodeOk (P:Program) (base:Base) (E:Env) (n:Nat) (c:Code) (x:CExit) (st st':CSt):Prop :=
 ∀ (Q:Exit → Act → World → Prop) (G:Gh) (a:Act) (w:World),AR E G st.tm st.defs a → Inv base G st.h w →
  (∀ e G' a' w',XR x e → AR E G' st'.tm st'.defs a' → Post base (fun _ => False) G st.h w G' st'.h w' → Q e a' w') → WpN P n c Q a w
def SimEx (P:Program) (base:Base) (n:Nat) (ex:CCode → CSt → Option (CExit × CSt)):Prop :=
 ∀ (E:Env),E.P = P → zDw E.H.globals base.gl → E.only = none → ∀ (c:Code) (cc:CCode) (st st':CSt) (x:CExit),zFk E c = some cc → ex cc st = some (x,st') → CodeOk P base E n c x st st'
theorem Post.both {base:Base} {G G1 G2:Gh} {h h1 h2:CHeap} {w w1 w2:World} (a:Post base (fun _ => False) G h w G1 h1 w1) (b:Post base (fun _ => False) G1 h1 w1 G2 h2 w2):Post base (fun _ => False) G h w G2 h2 w2 :=
 (a.trans b).mono fun _ h => h.elim (fun x => x) (fun x => x)
theorem Post.lose {base:Base} {ex:Nat → Prop} {G:Gh} {h h':CHeap} {w:World} (I:Inv base G h w) (hs:h'.ents.Sublist h.ents) (hn:h'.next = h.next) (ht:h'.tys = h.tys):Post base ex G h w G h' w:=by
 obtain ⟨own,I⟩:=I
 refine ⟨.refl G,⟨own,I.sub hs (by omega) ht⟩,.refl _ _,by omega,fun i _ _ hf => ⟨hf.1,hf.2.1,hf.2.2.1,?_⟩⟩
 have h0:=hf.2.2.2
 cases hg:h'.get i with
 | none => rfl
 | some o => have:=zG3 hs I.nod hg; unfold CHeap.get at h0; rw [h0] at this; cases this
theorem opnd_rel {E:Env} {G:Gh} {tm:List CVal} {ds:List (Nat × List CVal)} {a:Act} (ho:E.only = none) (A:AR E G tm ds a) {X:Operand} {x:COpnd} (hx:zDf E [] X = some x):VR G (zAl tm [] x) (a.eval X):=by
 cases X with
 | tmp t =>
  simp only [zDf,Env.can,ho,if_true,zEb] at hx
  obtain ⟨v,hv,rfl⟩:=Option.map_eq_some_iff.1 hx
  exact A.val t v hv
 | const v =>
  simp only [zDf] at hx
  obtain ⟨c',hc',rfl⟩:=Option.map_eq_some_iff.1 hx
  exact zD5 G v c' hc'
 | global g =>
  simp only [zDf] at hx
  obtain ⟨cs,hcs,rfl⟩:=Option.map_eq_some_iff.1 hx
  exact A.glob g cs hcs
 | func f =>
  simp only [zDf] at hx
  cases hx
  exact .fn rfl rfl (fun i c v h => by simp at h) (fun i c v h => by simp at h)
theorem execStep_sim {P:Program} {base:Base} {n:Nat} {T:Nat → Option CFn} {ex:CCode → CSt → Option (CExit × CSt)} (hmixed:P.follows .mixedOrders = true) (hex:SimEx P base n ex) (hcalls:zGw P base (zE1 T ex)):SimEx P base (n + 1) (zAt T ex):=by
 intro E hE hglob honly c cc st st' x hc hx Q G a w A I hQ
 cases c with
 | skip =>
  simp only [zFk] at hc; cases hc
  simp only [zAt] at hx; cases hx
  exact wp_skip (hQ .normal G a w trivial A (.refl I))
 | region rg ops draw =>
  simp only [zFk] at hc
  have hc:zJh E rg ops.toList draw = some cc:=by
   cases hr:zJh E rg ops.toList draw with
   | some c' => rw [hr] at hc; simpa using hc
   | none => rw [hr] at hc; simp at hc; subst hc; simp [zAt] at hx
  have hn:=(zKu hE hglob hmixed hc hx hcalls A I (Q:=fun _ _ _ => True) (fun _ _ _ _ _ => trivial)).1
  subst hn
  exact (zKu hE hglob hmixed hc hx hcalls A I (Q:=Q) (fun G' a' w' hA hp => hQ .normal G' a' w' trivial hA hp)).2
 | seq u v =>
  simp only [zFk] at hc
  split at hc
  · rename_i cu cv hu hv
    cases hc
    simp only [zAt] at hx
    refine wp_seq ?_
    cases hxu:ex cu st with
    | none => rw [hxu] at hx; cases hx
    | some p =>
     obtain ⟨x1,st1⟩:=p
     rw [hxu] at hx
     refine WpN.wp (n:=n) (hex E hE hglob honly u cu st st1 x1 hu hxu _ G a w A I fun e G1 a1 w1 hxr A1 hp1 => ?_)
     cases x1 with
     | normal =>
      cases e <;> first | (exact hxr.elim) | skip
      exact WpN.wp (n:=n) (hex E hE hglob honly v cv st1 st' x hv hx _ G1 a1 w1 A1 hp1.inv fun e G2 a2 w2 hxr2 A2 hp2 => hQ e G2 a2 w2 hxr2 A2 (hp1.both hp2))
     | exit id =>
      simp only at hx
      cases hx
      cases e <;> first | (exact hxr.elim) | exact hQ _ G1 a1 w1 hxr A1 hp1
     | ret =>
      simp only at hx
      cases hx
      cases e <;> first | (exact hxr.elim) | exact hQ _ G1 a1 w1 hxr A1 hp1
  · cases hc
 | cond k u v =>
  simp only [zFk] at hc
  split at hc
  · rename_i ck cu cv hk hu hv
    cases hc
    have hr:=opnd_rel honly A hk
    simp only [zAt] at hx
    split at hx
    · rename_i hb
      rw [hb] at hr
      exact wp_cond_true (vr_bool hr) (WpN.wp (n:=n) (hex E hE hglob honly u cu st st' x hu hx Q G a w A I hQ))
    · rename_i hb
      rw [hb] at hr
      exact wp_cond_false (vr_bool hr) (WpN.wp (n:=n) (hex E hE hglob honly v cv st st' x hv hx Q G a w A I hQ))
    · cases hx
  · cases hc; simp [zAt] at hx
 | block id u =>
  simp only [zFk] at hc
  obtain ⟨cu,hu,rfl⟩:=Option.map_eq_some_iff.1 hc
  simp only [zAt] at hx
  refine wp_block ?_
  cases hxu:ex cu st with
  | none => rw [hxu] at hx; cases hx
  | some p =>
   obtain ⟨x1,st1⟩:=p
   rw [hxu] at hx
   refine WpN.wp (n:=n) (hex E hE hglob honly u cu st st1 x1 hu hxu _ G a w A I fun e G1 a1 w1 hxr A1 hp1 => ?_)
   cases x1 with
   | normal =>
    simp only at hx
    cases hx
    cases e <;> first | (exact hxr.elim) | exact hQ _ G1 a1 w1 hxr A1 hp1
   | exit id' =>
    cases e <;> first | (exact hxr.elim) | skip
    rename_i id''
    have hid:id' = id'':=hxr
    subst hid
    simp only at hx
    simp only [Exit.inBlock]
    split at hx
    · rename_i h1
      cases hx
      rw [if_pos h1]
      exact hQ .normal G1 a1 w1 trivial A1 hp1
    · rename_i h1
      cases hx
      rw [if_neg h1]
      exact hQ _ G1 a1 w1 rfl A1 hp1
   | ret =>
    simp only at hx
    cases hx
    cases e <;> first | (exact hxr.elim) | exact hQ _ G1 a1 w1 hxr A1 hp1
 | loop u =>
  have hc':=hc
  simp only [zFk] at hc
  obtain ⟨cu,hu,rfl⟩:=Option.map_eq_some_iff.1 hc
  generalize (!E.H.nodrop.contains E.fn) = drop at hx hc'
  simp only [zAt] at hx
  show u.wp P (Exit.then (Code.rounds P u Q n) Q) a w
  cases hxu:ex cu st with
  | none => rw [hxu] at hx; cases hx
  | some p =>
   obtain ⟨x1,st1⟩:=p
   rw [hxu] at hx
   refine WpN.wp (n:=n) (hex E hE hglob honly u cu st st1 x1 hu hxu _ G a w A I fun e G1 a1 w1 hxr A1 hp1 => ?_)
   cases x1 with
   | normal =>
    cases e <;> first | (exact hxr.elim) | skip
    simp only at hx
    have hlose:Post base (fun _ => False) G1 st1.h w1 G1 (if drop = true then { st1 with h:={ st1.h with ents:=zAc st1.h.ents st.h.next } } else st1).h w1:=by
     cases drop with
     | true => exact Post.lose hp1.inv (zC5 _ _) rfl rfl
     | false => exact .refl hp1.inv
    have hA1:AR E G1 (if drop = true then { st1 with h:={ st1.h with ents:=zAc st1.h.ents st.h.next } } else st1).tm (if drop = true then { st1 with h:={ st1.h with ents:=zAc st1.h.ents st.h.next } } else st1).defs a1:=by
     cases drop <;> exact A1
    exact hex E hE hglob honly (.loop u) (.loop drop cu) _ st' x hc' hx Q G1 a1 w1 hA1 hlose.inv fun e G2 a2 w2 hxr2 A2 hp2 => hQ e G2 a2 w2 hxr2 A2 ((hp1.both hlose).both hp2)
   | exit id =>
    simp only at hx
    cases hx
    cases e <;> first | (exact hxr.elim) | exact hQ _ G1 a1 w1 hxr A1 hp1
   | ret =>
    simp only at hx
    cases hx
    cases e <;> first | (exact hxr.elim) | exact hQ _ G1 a1 w1 hxr A1 hp1
 | exit id =>
  simp only [zFk] at hc; cases hc
  simp only [zAt] at hx; cases hx
  exact wp_exit (hQ (.exit id) G a w rfl A (.refl I))
 | ret =>
  simp only [zFk] at hc; cases hc
  simp only [zAt] at hx; cases hx
  exact wp_ret (hQ .ret G a w trivial A (.refl I))
 | _ => simp [zFk] at hc; subst hc; simp [zAt] at hx
end Go.CI
/- A deterministic interpreter over values: what a return leaves. -/
set_option linter.unusedVariables false
namespace Go.CI
open Go.RowKit
theorem zH1 (l:List (Nat × CObj)) (n:Nat):(zCc l n).Sublist l:=by
 induction l with
 | nil => exact .slnil
 | cons p r ih =>
  obtain ⟨i,q⟩:=p
  simp only [zCc]
  split
  · exact .cons _ ih
  · exact .cons_cons _ ih
theorem dropAll_lt {l:List (Nat × CObj)} {n b:Nat} {o:CObj} (h:zA1 (zCc l n) b = some o):b < n:=by
 have:=zHi h
 clear h
 induction l with
 | nil => simp [zCc] at this
 | cons p r ih =>
  obtain ⟨i,q⟩:=p
  simp only [zCc] at this
  split at this
  · exact ih this
  · rename_i hlt
    rcases List.mem_cons.1 this with h1 | h1
    · cases h1; omega
    · exact ih h1
theorem flatC_inv {k:Nat}:∀ {es:List CVal} {m:Nat} {c:CVal},AllK k es → (zAw es)[m]? = some c → ∃ (i j:Nat) (e:CVal),m = i * k + j ∧ es[i]? = some e ∧ e.cells[j]? = some c
 | [],m,c,_,h => by simp [zAw] at h
 | e :: es,m,c,hk,h => by
  have he:e.cells.length = k:=hk e (by simp)
  have hcons:zAw (e :: es) = e.cells ++ zAw es:=by simp [zAw]
  rw [hcons] at h
  by_cases hm:m < k
  · rw [List.getElem?_append_left (by omega)] at h
    exact ⟨0,m,e,by omega,rfl,h⟩
  · rw [List.getElem?_append_right (by omega),he] at h
    obtain ⟨i,j,e',h1,h2,h3⟩:=flatC_inv (fun x hx => hk x (by simp [hx])) h
    exact ⟨i + 1,j,e',by rw [Nat.succ_mul]; omega,h2,h3⟩
section
variable {P:Program} {base:Base} {G:Gh} {h:CHeap} {w:World} {n:Nat}
def Gh.freeze (G:Gh) (own:Nat → Nat → Option Own) (h:CHeap) (n:Nat):Gh :=
 { G with fz:=fun ab o => match own ab o with
    | some (.r b) => if n ≤ b then (match h.get b with
     | some (.row ver es) => match G.rw b ver with
      | some (ab',ao,_,_) => if ab' = ab ∧ ao ≤ o then (zAw es)[o - ao]? else none
      | none => none
     | _ => none) else none
    | some _ => none
    | none => G.fz ab o }
def zC8 (own:Nat → Nat → Option Own) (n:Nat):Nat → Nat → Option Own:=fun ab o => match own ab o with
 | some (.r b) => if n ≤ b then none else some (.r b)
 | x => x
theorem zGc {own:Nat → Nat → Option Own} {ab o:Nat} {x:Own} (h:zC8 own n ab o = some x):own ab o = some x:=by
 unfold zC8 at h
 split at h
 · split at h
   · cases h
   · rename_i h1 _; rw [h1]; exact h
 · exact h
theorem zJo {own:Nat → Nat → Option Own} {ab o b:Nat} (h:own ab o = some (.m b)):zC8 own n ab o = some (.m b):=by
 unfold zC8; rw [h]
theorem ownFreeze_t {own:Nat → Nat → Option Own} {ab o b:Nat} (h:own ab o = some (.t b)):zC8 own n ab o = some (.t b):=by
 unfold zC8; rw [h]
theorem zJ7 {own:Nat → Nat → Option Own} {ab o b:Nat} (h:own ab o = some (.r b)) (hb:b < n):zC8 own n ab o = some (.r b):=by
 unfold zC8; rw [h]; simp; omega
theorem zK8 {own:Nat → Nat → Option Own} {ab o:Nat} (h:own ab o = none):zC8 own n ab o = none:=by
 unfold zC8; rw [h]
theorem zFu {own:Nat → Nat → Option Own} (I:InvO base G own h w):G.le (G.freeze own h n) :=
 ⟨fun b o c hf => by
  have:=(I.fzs b o c hf).1
  simp only [Gh.freeze,this]; exact hf,fun _ _ h => h,fun _ _ _ h => h,fun _ _ _ h => h⟩
theorem freeze_inv {own:Nat → Nat → Option Own} (I:InvO base G own h w):InvO base (G.freeze own h n) (zC8 own n) { h with ents:=zCc h.ents n } w where
 fzs ab o c hf:=by
  have hle:=zFu (n:=n) I
  simp only [Gh.freeze] at hf
  split at hf
  · rename_i b ho
    split at hf
    · rename_i hnb
      refine ⟨by unfold zC8; rw [ho]; simp [hnb],?_⟩
      split at hf
      · rename_i ver es hg
        split at hf
        · rename_i ab' ao k cap hrw
          split at hf
          · rename_i hcond
            obtain ⟨rfl,hao⟩:=hcond
            obtain ⟨_,_,_,hel⟩:=(I.ents b _ hg).2.2 _ _ _ _ hrw
            have hk:AllK k es:=fun e he => by
             obtain ⟨i,hi⟩:=List.getElem?_of_mem he
             exact (hel i e hi).1
            obtain ⟨i,j,e,h1,h2,h3⟩:=flatC_inv hk hf
            have:=((hel i e h2).2 j c h3).2
            rw [show ao + i * k + j = o by omega] at this
            exact this.mono hle fun _ h => h
          · cases hf
        · cases hf
      · cases hf
    · cases hf
  · cases hf
  · rename_i ho
    exact ⟨zK8 ho,(I.fzs ab o c hf).2.mono hle fun _ h => h⟩
 mus b ab k hm:=⟨(I.mus b ab k hm).1,(I.mus b ab k hm).2.1,fun i hi => ⟨zJo ((I.mus b ab k hm).2.2.1 i hi).1,((I.mus b ab k hm).2.2.1 i hi).2⟩,fun hk => ⟨zJo ((I.mus b ab k hm).2.2.2.1 hk).1,((I.mus b ab k hm).2.2.2.1 hk).2⟩,(I.mus b ab k hm).2.2.2.2⟩
 rws:=I.rws
 tks:=I.tks
 ents b o ho:=by
  have hle:=zFu (n:=n) I
  have hb:=dropAll_lt ho
  have h0:=I.ents b o (zG3 (zH1 _ _) I.nod ho)
  refine ⟨h0.1,?_⟩
  have h1:=h0.2
  cases o with
  | cells cs => exact fun ab k hm => ⟨(h1 ab k hm).1,fun i c hi => ⟨((h1 ab k hm).2 i c hi).1,((h1 ab k hm).2 i c hi).2.mono hle fun _ h => h⟩⟩
  | row ver es => exact ⟨h1.1,fun ab ao k cap hr => let ⟨x1,x2,x3,x4⟩:=h1.2 ab ao k cap hr; ⟨x1,x2,fun i hi => ⟨zJ7 (x3 i hi).1 hb,(x3 i hi).2⟩,fun i e hie => ⟨(x4 i e hie).1,fun j c hj => ⟨((x4 i e hie).2 j c hj).1,((x4 i e hie).2 j c hj).2.mono hle fun _ h => h⟩⟩⟩⟩
  | tok ver => exact ⟨h1.1,fun ab e k room ht => ⟨(h1.2 ab e k room ht).1,fun i hi => ⟨ownFreeze_t ((h1.2 ab e k room ht).2 i hi).1,((h1.2 ab e k room ht).2 i hi).2⟩⟩⟩
  | frow ver es => exact ⟨h1.1,fun ab ao k cap hr => let ⟨x1,x2,x3,x4⟩:=h1.2 ab ao k cap hr; ⟨x1,x2,fun i hi => ⟨zJ7 (x3 i hi).1 hb,(x3 i hi).2⟩,fun i e hie => ⟨(x4 i e hie).1,fun j c hj => ⟨((x4 i e hie).2 j c hj).1,((x4 i e hie).2 j c hj).2.mono hle fun _ h => h⟩⟩⟩⟩
  | map ck kvs => exact fun ab hm => let ⟨es,h2,h3⟩:=h1 ab hm; ⟨es,h2,h3.mono hle⟩
 old ab o x hx:=I.old ab o x (zGc hx)
 top:=I.top
 nod:=((zH1 _ _).map _).nodup I.nod
 cln:=I.cln
 gls g cs hg i c hc:=⟨(I.gls g cs hg i c hc).1,(zFu (n:=n) I).fz _ _ _ (I.gls g cs hg i c hc).2⟩
 tyk:=I.tyk
 tys b T ht v x hx:=⟨(I.tys b T ht v x hx).1,fun i y hy => (I.tys b T ht v x hx).2 i y (zGc hy)⟩
theorem zIp {own:Nat → Nat → Option Own} (I:InvO base G own h w):Post base (fun _ => False) G h w (G.freeze own h n) { h with ents:=zCc h.ents n } w:=by
 refine ⟨zFu I,⟨_,freeze_inv I⟩,.refl _ _,Nat.le_refl _,fun i _ _ hf => ⟨hf.1,hf.2.1,hf.2.2.1,?_⟩⟩
 have h0:=hf.2.2.2
 cases hg:CHeap.get { h with ents:=zCc h.ents n } i with
 | none => rfl
 | some o => have:=zG3 (zH1 _ _) I.nod hg; unfold CHeap.get at h0; rw [h0] at this; cases this
theorem zHj {own:Nat → Nat → Option Own} (I:InvO base G own h w) {c c':CVal} {v:Value} (hf:zEx n h c = some c') (hr:VR G c v):VR (G.freeze own h n) c' v ∧ c'.flat = c.flat:=by
 have hle:=zFu (n:=n) I
 have other:c' = c.strip → VR (G.freeze own h n) c' v ∧ c'.flat = c.flat:=fun e => by subst e; exact ⟨(hr.mono hle).strip,zI5 c⟩
 cases c with
 | ref b ver k off len =>
  simp only [zEx] at hf
  split at hf
  · rename_i hnb
    split at hf
    · rename_i v' es hg
      split at hf
      · rename_i hcond
        simp only [Bool.and_eq_true,decide_eq_true_eq] at hcond
        obtain ⟨rfl,hlen⟩:=hcond
        cases hf
        refine ⟨?_,rfl⟩
        cases hr with
        | ref hrw hk hl hs ha =>
         rename_i ab ao cap a
         obtain ⟨_,hcap,hown,hel⟩:=(I.ents b _ hg).2.2 _ _ _ _ hrw
         have hkk:AllK k es:=fun e he => by
          obtain ⟨i,hi⟩:=List.getElem?_of_mem he
          exact (hel i e hi).1
         have hcl:(cut off (off + len) es).length = len:=by rw [zCg _ _ _ hlen]; omega
         have key:VR (G.freeze own h n) (.imm .none k (cut off (off + len) es)) (.slice (some a) (cut off (off + len) es).length (cap - off)):=by
          refine .imm hs hk (by rw [hcl]; omega) ?_ trivial
          intro i e he
          rw [getElem?_cut] at he
          split at he
          · rename_i hi
            refine ⟨(hel _ e he).1,fun j c hj => ⟨((hel _ e he).2 j c hj).1,?_⟩⟩
            have ha':=ha.resolve_left (by omega)
            subst ha'
            have hjk:j < k:=by
             have:=(List.getElem?_eq_some_iff.1 hj).1
             rw [(hel _ e he).1] at this; exact this
            have hidx:off * k + i * k + j = (off + i) * k + j:=by rw [Nat.add_mul]
            have hin:(off + i) * k + j < cap * k:=by
             have:(off + i + 1) * k ≤ cap * k:=Nat.mul_le_mul_right _ (by omega)
             rw [Nat.succ_mul] at this; omega
            have ho:=(hown _ hin).1
            have hpos:ao + off * k + i * k + j = ao + ((off + i) * k + j):=by omega
            show (G.freeze own h n).fz ab (ao + off * k + i * k + j) = some c
            rw [hpos]
            simp only [Gh.freeze,ho,hnb,if_true,hg,hrw]
            rw [if_pos ⟨trivial,by omega⟩,show ao + ((off + i) * k + j) - ao = (off + i) * k + j by omega]
            exact zDr hkk he hj
          · cases he
         rw [hcl] at key
         exact key
      · cases hf
    · cases hf
  · cases hf
 | _ => exact other (Option.some.inj hf).symm
theorem zGk {own:Nat → Nat → Option Own} (I:InvO base G own h w):∀ {cs cs':List CVal} {vs:List Value},zDc n h cs = some cs' → VRs G cs vs → VRs (G.freeze own h n) cs' vs ∧ ((∀ c ∈ cs,c.flat = true) → ∀ c ∈ cs',c.flat = true)
 | [],cs',vs,hf,hr => by
  simp only [zDc] at hf; cases hf
  have:vs = []:=by have:=hr.1; simpa using this.symm
  subst this
  exact ⟨VRs.nil _,fun _ c hc => by simp at hc⟩
 | c :: cs,cs',vs,hf,hr => by
  simp only [zDc] at hf
  split at hf
  · rename_i c' r' hc hrr
    cases hf
    match vs,hr with
    | [],hr => have:=hr.1; simp at this
    | v :: vs,hr =>
     obtain ⟨h1,h2⟩:=zHj I hc hr.head
     obtain ⟨h3,h4⟩:=zGk I hrr hr.tail
     refine ⟨VRs.cons h1 h3,fun hall x hx => ?_⟩
     rcases List.mem_cons.1 hx with rfl | hx
     · rw [h2]; exact hall c (by simp)
     · exact h4 (fun y hy => hall y (by simp [hy])) x hx
  · cases hf
theorem zH8 {own:Nat → Nat → Option Own} (I:InvO base G own h w) {c c':CVal} {v:Value} (hf:zE7 n h c = some c') (hr:VR G c v):VR (G.freeze own h n) c' v:=by
 cases c with
 | agg cs =>
  simp only [zE7] at hf
  obtain ⟨cs',h1,rfl⟩:=Option.map_eq_some_iff.1 hf
  cases hr with
  | agg hl hfl hv =>
   obtain ⟨h2,h3⟩:=zGk I h1 ⟨hl,hv⟩
   exact .agg h2.1 (h3 hfl) h2.2
 | _ => simp only [zE7] at hf; exact (zHj I hf hr).1
theorem zIj {own:Nat → Nat → Option Own} (I:InvO base G own h w):∀ {cs cs':List CVal} {vs:List Value},zEy n h cs = some cs' → VRs G cs vs → VRs (G.freeze own h n) cs' vs
 | [],cs',vs,hf,hr => by
  simp only [zEy] at hf; cases hf
  have:vs = []:=by have:=hr.1; simpa using this.symm
  subst this
  exact VRs.nil _
 | c :: cs,cs',vs,hf,hr => by
  simp only [zEy] at hf
  split at hf
  · rename_i c' r' hc hrr
    cases hf
    match vs,hr with
    | [],hr => have:=hr.1; simp at this
    | v :: vs,hr => exact VRs.cons (zH8 I hc hr.head) (zIj I hrr hr.tail)
  · cases hf
theorem freezeVal_ok {own:Nat → Nat → Option Own} (I:InvO base G own h w) {c c':CVal} {v:Value} (hf:zFo n h c = some c') (hr:VR G c v):VR (G.freeze own h n) c' v:=by
 cases c with
 | tup cs =>
  simp only [zFo] at hf
  obtain ⟨cs',h1,rfl⟩:=Option.map_eq_some_iff.1 hf
  cases hr with
  | tup hl hv => have h2:=zIj I h1 ⟨hl,hv⟩; exact .tup h2.1 h2.2
 | _ => simp only [zFo] at hf; exact zH8 I hf hr
theorem finish_ok {fn:CFunc} {G0:Gh} {h0 h':CHeap} {w0:World} {v v':CVal} {u:Value} (hp:Post base (fun _ => False) G0 h0 w0 G h w) (hr:VR G v u) (hf:zDx fn n v h = some (v',h')):∃ G',VR G' v' u ∧ Post base (fun _ => False) G0 h0 w0 G' h' w:=by
 unfold zDx at hf
 split at hf
 · cases hf
   refine ⟨G,hr,hp.both ?_⟩
   split
   · exact Post.lose hp.inv (zC5 _ _) rfl rfl
   · exact .refl hp.inv
 · split at hf
   · obtain ⟨x,hx,he⟩:=Option.map_eq_some_iff.1 hf
     cases he
     obtain ⟨own,I⟩:=hp.inv
     exact ⟨_,freezeVal_ok I hx hr,hp.both (zIp I)⟩
   · cases hf
     exact ⟨G,hr.bare,hp.both (Post.lose hp.inv (dropEnts_sub _ _) rfl rfl)⟩
end
end Go.CI
/- A deterministic interpreter over values: a call is the model's. -/
set_option linter.unusedVariables false
namespace Go.CI
open Go.RowKit
section
variable {P:Program} {base:Base} {G:Gh} {h:CHeap} {w:World}
theorem load_cell {t:TypeId} {f:ElemInfo} {b sz o:Nat} {cs:List CVal} {v:CVal} {z:Value} (I:Inv base G h w) (hf:zAu P t = some f) (hp:VR G (.ptr b sz o) z) (hg:h.get b = some (.cells cs)) (hv:partOf cs o (kOf f) = some v) :
    ∃ u,(do loadVar t (← asAddr z):Sem Value).run P w = .ok u w ∧ VR G v u:=by
 obtain ⟨own,I⟩:=I
 cases hp with
 | ptr hm =>
  rename_i ab
  obtain ⟨_,hcel⟩:=(I.ents b _ hg).2 ab sz hm
  obtain ⟨u,hu,hr⟩:=zG8 (w:=w) (o:=0) (ab:=ab) hf hv (fun j c hj => by rw [Nat.zero_add]; exact hcel j c hj)
  rw [Nat.zero_add] at hu
  refine ⟨u,?_,hr⟩
  simpa [Instr.loadAt,Instr.sureAddr,asAddr] using hu
theorem zIz {fn:Func} {E:Env} (hE:E.P = P) {tm:List CVal} {ds:List (Nat × List CVal)} {a:Act} {rs:List CRes} {vs:List CVal} (I:Inv base G h w) (A:AR E G tm ds a) (hr:cress E fn.results.toList = some rs) (hv:zBw h tm rs = some vs) :
    ∃ u,(results fn a.tmps).run P w = .ok u w ∧ VR G (zBt vs) u:=by
 have key:∀ (l:List ResultVar) (rs:List CRes) (vs:List CVal),cress E l = some rs → zBw h tm rs = some vs →
     ∃ us:List Value,(l.mapM (fun | .tmp t => pure (a.tmps.getD t undef) | .cell x t => do loadVar t (← asAddr (a.tmps.getD x undef)):ResultVar → Sem Value)).run P w = .ok us w ∧ VRs G vs us:=by
  intro l
  induction l with
  | nil =>
   intro rs vs hr hv
   simp only [cress] at hr; cases hr
   simp only [zBw] at hv; cases hv
   exact ⟨[],rfl,VRs.nil G⟩
  | cons q l ih =>
   intro rs vs hr hv
   simp only [cress] at hr
   split at hr
   · rename_i r rs' hq hrs
     cases hr
     cases q with
     | tmp t =>
      simp only [cres] at hq
      obtain ⟨j,hj,rfl⟩:=Option.map_eq_some_iff.1 hq
      simp only [zBw] at hv
      split at hv
      · rename_i vs' hvs
        cases hv
        obtain ⟨us,h1,h2⟩:=ih rs' vs' hrs hvs
        refine ⟨_ :: us,?_,VRs.cons (A.val t j hj) h2⟩
        rw [List.mapM_cons]
        simp only [Sem.run_bind,Sem.run_pure,Result.andThen_ok] at h1 ⊢
        rw [h1]; rfl
      · cases hv
     | cell x t =>
      simp only [cres] at hq
      split at hq
      · rename_i j f hj hf
        cases hq
        simp only [zBw] at hv
        split at hv
        · rename_i b sz o hb
          split at hv
          · rename_i cs hg
            split at hv
            · rename_i v vs' hv0 hvs
              cases hv
              obtain ⟨us,h1,h2⟩:=ih rs' vs' hrs hvs
              have hrel:=A.val x j hj
              rw [hb] at hrel
              subst hE
              obtain ⟨u,hu,hru⟩:=load_cell I hf hrel hg hv0
              refine ⟨u :: us,?_,VRs.cons hru h2⟩
              rw [List.mapM_cons,Sem.run_bind,hu,Result.andThen_ok,Sem.run_bind,h1]; rfl
            · cases hv
          · cases hv
        · cases hv
      · cases hq
   · cases hr
 obtain ⟨us,h1,h2⟩:=key _ rs vs hr hv
 have hrun:(results fn a.tmps).run P w = .ok (if hh:us.toArray.size = 1 then us.toArray[0] else .tuple us.toArray) w:=by
  unfold results
  rw [Array.mapM_eq_mapM_toList,Sem.run_bind,Sem.run_map]
  erw [h1]
  rfl
 refine ⟨_,hrun,?_⟩
 match vs,us,h2 with
 | [],[],h2 => exact .tup h2.1 h2.2
 | [v],[u],h2 => exact h2.head
 | v :: v' :: vs,u :: u' :: us,h2 =>
  simp only [zBt,List.size_toArray,List.length_cons]
  rw [dif_neg (by omega)]
  exact .tup h2.1 h2.2
 | [],_ :: _,h2 => have:=h2.1; simp at this
 | [_],[],h2 => have:=h2.1; simp at this
 | [_],_ :: _ :: _,h2 => have:=h2.1; simp at this
 | _ :: _ :: _,[],h2 => have:=h2.1; simp at this
 | _ :: _ :: _,[_],h2 => have:=h2.1; simp at this
structure BodyRun (ex:CCode → CSt → Option (CExit × CSt)) (cd:List (Nat × List CVal) → CHeap → Option CHeap) (fn:CFunc) (args:List CVal) (h:CHeap) (v:CVal) (h':CHeap) (x:CExit) (st:CSt) (h1:CHeap) (vs:List CVal):Prop where
 nargs:args.length = fn.nargs
 run:ex fn.body ⟨fn.params.map (initVar args),h,[]⟩ = some (x,st)
 out:∀ i,x ≠ .exit i
 defs:cd st.defs st.h = some h1
 res:zBw h1 st.tm fn.results = some vs
 fin:zDx fn h.next (zBt vs) h1 = some (v,h')
theorem zKm {ex:CCode → CSt → Option (CExit × CSt)} {cd:List (Nat × List CVal) → CHeap → Option CHeap} {fn:CFunc} {args:List CVal} {h h':CHeap} {v:CVal} (hb:zCh ex cd fn args h = some (v,h')):∃ x st h1 vs,BodyRun ex cd fn args h v h' x st h1 vs:=by
 unfold zCh at hb
 split at hb
 · rename_i hn
   split at hb
   · cases hb
   · rename_i x st hx hne
     split at hb
     · rename_i h1 hd
       split at hb
       · rename_i vs hvs
         exact ⟨x,st,h1,vs,hn,hne,fun i e => by subst e; exact hx _ rfl,hd,hvs,hb⟩
       · cases hb
     · cases hb
   · cases hb
 · cases hb
structure FnOk (P:Program) (H:Hints) (f:Nat) (fn:CFunc) (fm:Func) (c:Code) (E:Env):Prop where
 fnc:P.funcs[f]? = some fm
 body:fm.body = some c
 name : (fm.name == "runtime.NumGoroutine") = false
 eP:E.P = P
 eH:E.H = H
 only:E.only = none
 nt:E.ntmps = fm.ntmps
 code:zFk E c = some fn.body
 res:cress E fm.results.toList = some fn.results
 par:fn.params = E.vars.map fun t => if t < fn.nargs then some t else none
theorem zJ3 {P:Program} {H:Hints} {f:Nat} {fn:CFunc} (h:zAf P H f = some fn):∃ fm c E,FnOk P H f fn fm c E:=by
 unfold zAf at h
 split at h
 · rename_i fm hf
   split at h
   · rename_i c hb
     split at h
     · cases h
     · rename_i hname
       simp only at h
       split at h
       · rename_i b rs hb' hrs
         cases h
         exact ⟨fm,c,_,hf,hb,by simpa using hname,rfl,rfl,rfl,rfl,hb',hrs,rfl⟩
       · cases h
   · cases h
 · cases h
theorem Inv.glob {base:Base} {G:Gh} {h:CHeap} {w:World} (I:Inv base G h w) {g:Nat} {cs:List CVal} (hg:zDk base.gl g = some cs):VR G (.cptr cs 0) (.pointer (some ⟨g,0,none⟩)):=by
 obtain ⟨own,I⟩:=I
 have:=VR.cptr (cs:=cs) (o:=0) (ab:=g) (ao:=0) (fun i c hc => by rw [Nat.zero_add]; exact I.gls g cs hg i c hc)
 simpa using this
theorem ar_begin {E:Env} {H:Hints} {f:Nat} {fn:CFunc} {fm:Func} {c:Code} (F:FnOk P H f fn fm c E) {args:List CVal} {vs:List Value} (hn:args.length = fn.nargs) (hr:VRs G args vs) (hgl:∀ g cs,zDk H.globals g = some cs → VR G (.cptr cs 0) (.pointer (some ⟨g,0,none⟩))) :
    AR E G (fn.params.map (initVar args)) [] { tmps:=(⟨vs⟩:Array Value) ++ Array.replicate (fm.ntmps - (⟨vs⟩:Array Value).size) undef,defers:=[] }:=by
 refine ⟨?_,by rw [F.par]; simp,fun t v hv => ?_,.nil,by rw [F.eH]; exact hgl⟩
 · rw [F.nt]; simp; omega
 · obtain ⟨k,hk,hvk⟩:=zFs hv
   rw [Nat.zero_add] at hk
   subst hk
   rw [F.par,zIe,List.getElem?_map,List.getElem?_map,hvk]
   simp only [Option.map_some,Option.getD_some]
   by_cases ht:t < fn.nargs
   · rw [if_pos ht]
     have hlt:t < vs.length:=Nat.lt_of_lt_of_eq ht (hn.symm.trans hr.1)
     have:((⟨vs⟩:Array Value) ++ Array.replicate (fm.ntmps - (⟨vs⟩:Array Value).size) undef).getD t undef = vs[t]:=by
      have h1:t < (⟨vs⟩:Array Value).size:=hlt
      simp only [Array.getD_eq_getD_getElem?]
      rw [Array.getElem?_append_left h1]
      simp [hlt]
     rw [this]
     exact hr.2 t _ _ (getElem?_nth (Nat.lt_of_lt_of_eq ht hn.symm)) (List.getElem?_eq_getElem hlt)
   · rw [if_neg ht]; exact .undef _
theorem body_calls {n:Nat} {H:Hints} {ex:CCode → CSt → Option (CExit × CSt)} {cd:List (Nat × List CVal) → CHeap → Option CHeap} (hex:SimEx P base n ex) (hglob:zDw H.globals base.gl) {f:Nat} {fn:CFunc} (hfn:zAf P H f = some fn)
    (hcd:∀ (fm:Func) (tmps:Array Value) (R:Ending → World → Prop) (G1:Gh) (h1:CHeap) (w1:World) (ds:List (Nat × List CVal)) (dl:List Deferred) (h2:CHeap),Inv base G1 h1 w1 → DefsR G1 ds dl → cd ds h1 = some h2 →
     (∀ G2 w2,Post base (fun _ => False) G1 h1 w1 G2 h2 w2 → ∃ v,(results fm tmps).run P w2 = .ok v w2 ∧ R (.returned v) w2) → Leaves P fm tmps R dl .returning w1)
    {args:List CVal} {vs:List Value} {v:CVal} {h':CHeap} (hb:zCh ex cd fn args h = some (v,h')) (I:Inv base G h w) (hr:VRs G args vs):Calls P f ⟨vs⟩ w fun e w' => ∃ u,e = .returned u ∧ zEn base G h w v h' u w':=by
 obtain ⟨fm,c,E,F⟩:=zJ3 hfn
 obtain ⟨x,st,h1,rs,B⟩:=zKm hb
 refine calls_of_wp_defers F.fnc F.body ?_
 refine WpN.wp (n:=n) (hex E F.eP (by rw [F.eH]; exact hglob) F.only c fn.body ⟨fn.params.map (initVar args),h,[]⟩ st x F.code B.run _ G _ w (ar_begin F B.nargs hr (fun g cs hc => I.glob (hglob g cs hc))) I fun e G1 a1 w1 hxr A1 hp1 => ?_)
 have fin:Leaves P fm a1.tmps (fun e w' => ∃ u,e = .returned u ∧ zEn base G h w v h' u w') a1.defers .returning w1:=by
  refine hcd fm a1.tmps _ G1 st.h w1 st.defs a1.defers h1 hp1.inv A1.defs B.defs fun G2 w2 hp2 => ?_
  obtain ⟨u,hu,hru⟩:=zIz F.eP hp2.inv (A1.mono hp2.le) F.res B.res
  obtain ⟨G3,h3,h4⟩:=finish_ok (hp1.both hp2) hru B.fin
  exact ⟨u,hu,u,rfl,G3,h3,h4⟩
 cases x with
 | normal => cases e <;> first | (exact hxr.elim) | exact fin
 | exit i => exact absurd rfl (B.out i)
 | ret => cases e <;> first | (exact hxr.elim) | exact fin
theorem body_callsD {n:Nat} {H:Hints} {ex:CCode → CSt → Option (CExit × CSt)} (hex:SimEx P base n ex) (hglob:zDw H.globals base.gl) {f:Nat} {fn:CFunc} (hfn:zAf P H f = some fn)
    {args:List CVal} {vs:List Value} {v:CVal} {h':CHeap} (hb:zCh ex zIm fn args h = some (v,h')) (I:Inv base G h w) (hr:VRs G args vs) (um:FrameMode):CallsD P f ⟨vs⟩ um w fun e u' w' => u' = um ∧ ∃ u,e = .returned u ∧ zEn base G h w v h' u w':=by
 obtain ⟨fm,c,E,F⟩:=zJ3 hfn
 obtain ⟨x,st,h1,rs,B⟩:=zKm hb
 refine callsD_of_wp F.fnc F.body ?_
 refine WpN.wp (n:=n) (hex E F.eP (by rw [F.eH]; exact hglob) F.only c fn.body ⟨fn.params.map (initVar args),h,[]⟩ st x F.code B.run _ G _ w (ar_begin F B.nargs hr (fun g cs hc => I.glob (hglob g cs hc))) I fun e G1 a1 w1 hxr A1 hp1 => ?_)
 have hdefs:=B.defs
 have hno:st.defs = [] ∧ h1 = st.h:=by
  cases hd:st.defs with
  | nil => rw [hd] at hdefs; simp only [zIm] at hdefs; cases hdefs; exact ⟨rfl,rfl⟩
  | cons p l => rw [hd] at hdefs; simp [zIm] at hdefs
 have hdl:a1.defers = []:=by
  have:=A1.defs
  rw [hno.1] at this
  generalize a1.defers = dl at this
  cases this; rfl
 have fin:a1.defers = [] ∧ ∃ v',(results fm a1.tmps).run P w1 = .ok v' w1 ∧ ∃ u,Ending.returned v' = .returned u ∧ zEn base G h w v h' u w1:=by
  have hres:=B.res
  rw [hno.2] at hres
  obtain ⟨u,hu,hru⟩:=zIz F.eP hp1.inv A1 F.res hres
  have hfin:=B.fin
  rw [hno.2] at hfin
  obtain ⟨G3,h3,h4⟩:=finish_ok hp1 hru hfin
  exact ⟨hdl,u,hu,u,rfl,G3,h3,h4⟩
 cases x with
 | normal => cases e <;> first | (exact hxr.elim) | exact fin
 | exit i => exact absurd rfl (B.out i)
 | ret => cases e <;> first | (exact hxr.elim) | exact fin
structure TOk (P:Program) (H:Hints) (base:Base) (T:Nat → Option CFn):Prop where
 ir:∀ f fn,T f = some (.ir fn) → zAf P H f = some fn
 prim:∀ f p,T f = some (.prim p) → ∀ (G:Gh) (h:CHeap) (w:World) (xs:List CVal) (vs:List Value) (v:CVal) (h':CHeap),p xs h = some (v,h') → Inv base G h w → VRs G xs vs → Entr P (callFunc f ⟨vs⟩) w (zEn base G h w v h')
theorem zEt {f : Nat} {fm : Func} {c : Code} (hf : P.funcs[f]? = some fm) (hname : (fm.name == "runtime.NumGoroutine") = false) (hb : fm.body = some c) (args : Array Value) (w : World) :
    (callFunc f args).run P w = .ok (.enter f args) w:=by
 have h1 : fm.name ≠ "runtime.NumGoroutine" := by simpa using hname
 simp [callFunc,hf,h1,hb]
theorem zGj {n:Nat} {H:Hints} {T:Nat → Option CFn} {ex:CCode → CSt → Option (CExit × CSt)} (hT:TOk P H base T) (hglob:zDw H.globals base.gl) (hex:SimEx P base n ex) (fm:Func) (tmps:Array Value) (R:Ending → World → Prop) :
    ∀ (ds:List (Nat × List CVal)) (dl:List Deferred) (G1:Gh) (h1:CHeap) (w1:World) (h2:CHeap),Inv base G1 h1 w1 → DefsR G1 ds dl → zEr T ex ds h1 = some h2 →
     (∀ G2 w2,Post base (fun _ => False) G1 h1 w1 G2 h2 w2 → ∃ v,(results fm tmps).run P w2 = .ok v w2 ∧ R (.returned v) w2) → Leaves P fm tmps R dl .returning w1
 | [],dl,G1,h1,w1,h2,I,hd,hr,hk => by
  cases hd
  simp only [zEr] at hr; cases hr
  exact hk G1 w1 (.refl I)
 | (f,args) :: ds,dl,G1,h1,w1,h2,I,hd,hr,hk => by
  cases hd with
  | cons hv hrest =>
   rename_i vs cap dl'
   simp only [zEr] at hr
   split at hr
   · rename_i v h' hcall
     unfold zF0 at hcall
     split at hcall
     · rename_i fn hTf
       have hfn:=hT.ir f fn hTf
       obtain ⟨fm',c',E',F'⟩:=zJ3 hfn
       refine leaves_cons (f:=f) (args:=⟨vs ++ cap⟩) (by simp) ?_ ?_
       · show (callFunc f ((⟨vs⟩:Array Value) ++ ⟨cap⟩)).run P w1 = _
         have:((⟨vs⟩:Array Value) ++ ⟨cap⟩) = ⟨vs ++ cap⟩:=by apply Array.ext'; simp
         rw [this]
         exact zEt F'.fnc F'.name F'.body _ _
       · refine CallsD.mono (body_callsD hex hglob hfn hcall I hv .returning) fun e u' w' he => ?_
         obtain ⟨rfl,u,rfl,G',_,hp⟩:=he
         exact zGj hT hglob hex fm tmps R ds dl' G' h' w' h2 hp.inv (hrest.mono hp.le) hr fun G2 w2 hp2 => hk G2 w2 (hp.both hp2)
     · cases hcall
   · cases hr
theorem zKq {n:Nat} {H:Hints} {T:Nat → Option CFn} {ex:CCode → CSt → Option (CExit × CSt)} (hT:TOk P H base T) (hglob:zDw H.globals base.gl) (hex:SimEx P base n ex):zGw P base (zE1 T ex):=by
 intro G h w f xs vs v h' hcf I hr
 unfold zE1 at hcf
 split at hcf
 · rename_i fn hTf
   have hfn:=hT.ir f fn hTf
   obtain ⟨fm,c,E,F⟩:=zJ3 hfn
   exact .inr ⟨f,⟨vs⟩,zEt F.fnc F.name F.body _ _,body_calls hex hglob hfn (fun fm tmps R G1 h1 w1 ds dl h2 I1 hd hrd hk => zGj hT hglob hex fm tmps R ds dl G1 h1 w1 h2 I1 hd hrd hk) hcf I hr⟩
 · rename_i p hTf
   exact hT.prim f p hTf G h w xs vs v h' hcf I hr
 · cases hcf
theorem exec_sim {H:Hints} {T:Nat → Option CFn} (hmixed:P.follows .mixedOrders = true) (hT:TOk P H base T) (hglob:zDw H.globals base.gl):∀ n,SimEx P base n (exec T n)
 | 0 => fun E _ _ _ c cc st st' x _ hx => by
  have:exec T 0 cc st = none:=rfl
  rw [this] at hx; cases hx
 | n + 1 => by
  have ih:=exec_sim hmixed hT hglob n
  exact execStep_sim hmixed ih (zKq hT hglob ih)
def Gh.of (F:Nat → Nat → Option CVal):Gh:=⟨F,fun _ => .none,fun _ _ => .none,fun _ _ => .none⟩
def Gh.none:Gh:=Gh.of fun _ _ => .none
def zDu:CHeap:=⟨[],0,[]⟩
structure Begins (w:World) (gl:List (Nat × List CVal)) (F:Nat → Nat → Option CVal):Prop where
 cells:∀ ab o c,F ab o = some c → Holds (Gh.of F) w ab o c
 globs:∀ g cs,zDk gl g = some cs → ∀ (i:Nat) (c:CVal),cs[i]? = some c → c.flat = true ∧ F g i = some c
theorem inv_begin {w:World} {gl:List (Nat × List CVal)} {F:Nat → Nat → Option CVal} (B:Begins w gl F):Inv ⟨w.heap.size,gl⟩ (Gh.of F) zDu w :=
 ⟨fun _ _ => .none, { fzs := fun ab o c h => ⟨rfl, B.cells ab o c h⟩
                      mus:=fun _ _ _ h => by simp [Gh.of] at h
                      rws:=fun _ _ _ h => by simp [Gh.of] at h
                      tks:=fun _ _ _ h => by simp [Gh.of] at h
                      ents:=fun b o h => by simp [zDu,CHeap.get,zA1] at h
                      old:=fun _ _ _ h => by simp at h
                      top:=Nat.le_refl _
                      nod:=by simp [zDu]
                      cln:=fun _ _ _ h => by simp [Gh.of] at h
                      gls:=B.globs
                      tyk:=fun b T h => by simp [zDu,CHeap.ty,zB1] at h
                      tys:=fun b T h => by simp [zDu,CHeap.ty,zB1] at h }⟩
theorem crun_calls {H:Hints} {T:Nat → Option CFn} {n f:Nat} {fn:CFunc} {args:List Value} {cs:List CVal} {v:CVal} {h':CHeap} {w:World} {F:Nat → Nat → Option CVal} {gl:List (Nat × List CVal)} (hgl:zDw H.globals gl) (hmixed:P.follows .mixedOrders = true) (hT:TOk P H ⟨w.heap.size,gl⟩ T) (hf:T f = some (.ir fn))
    (B:Begins w gl F) (ha:VRs (Gh.of F) cs args) (hrun:crun T n f cs zDu = some (v,h')):Calls P f ⟨args⟩ w fun e w' => ∃ u G,e = .returned u ∧ (Gh.of F).le G ∧ VR G v u ∧ Below w.heap.size w w' ∧ Inv ⟨w.heap.size,gl⟩ G h' w':=by
 have hs:=zKq hT hgl (exec_sim hmixed hT hgl n) (Gh.of F) zDu w f cs args v h' hrun (inv_begin B) ha
 have hfn:=hT.ir f fn hf
 obtain ⟨fm,c,E,F'⟩:=zJ3 hfn
 rcases hs with ⟨u,w',h1,_⟩ | ⟨f',args',h1,h2⟩
 · rw [zEt F'.fnc F'.name F'.body] at h1; cases h1
 · rw [zEt F'.fnc F'.name F'.body] at h1
   cases h1
   exact Calls.mono h2 fun e w' ⟨u,he,G',hv,hp⟩ => ⟨u,G',he,hp.le,hv,hp.below,hp.inv⟩
end
end Go.CI
/- A deterministic interpreter over values: functions of the model's own, without a body. -/
set_option linter.unusedVariables false
namespace Go.CI
open Go.RowKit
def cntOf (c:UInt8):List UInt8 → Nat
 | [] => 0
 | b :: r => if b == c then cntOf c r + 1 else cntOf c r
def idxFrom (c:UInt8):List UInt8 → Nat → Int
 | [],_ => -1
 | b :: r,i => if b == c then i else idxFrom c r (i + 1)
def pIndexByte (xs:List CVal) (h:CHeap):Option (CVal × CHeap) :=
 match xs with
 | [.str s,.int .u8 c] => some (.int .i64 (idxFrom c.toNat.toUInt8 s 0),h)
 | _ => none
section
variable {P:Program} {base:Base}
structure ExtOk (P:Program) (f:Nat) (e:Array Value → Sem Value):Prop where
 fn : ∃ fm, P.funcs[f]? = some fm ∧ (fm.name == "runtime.NumGoroutine") = false ∧ fm.body.isNone = true ∧ Extern.findNext fm = none ∧ Extern.find fm = some e
def zGo (P:Program) (base:Base) (f:Nat) (p:List CVal → CHeap → Option (CVal × CHeap)):Prop :=
 ∀ (G:Gh) (h:CHeap) (w:World) (xs:List CVal) (vs:List Value) (v:CVal) (h':CHeap),p xs h = some (v,h') → Inv base G h w → VRs G xs vs → Entr P (callFunc f ⟨vs⟩) w (zEn base G h w v h')
theorem vrs_one {G:Gh} {a:CVal} {vs:List Value} (h:VRs G [a] vs):∃ x,vs = [x] ∧ VR G a x:=by
 match vs,h with
 | [x],h => exact ⟨x,rfl,h.head⟩
 | [],h => have:=h.1; simp at this
 | _ :: _ :: _,h => have:=h.1; simp at this
end
end Go.CI
/- A law without arguments: what is left to show is a run of the interpreter. -/
set_option linter.unusedVariables false
namespace Go.CI
open Go.RowKit
inductive CTree where
 | leaf (i:Nat) (fn:CFn)
 | node (m:Nat) (a b:CTree)
def CTree.get:CTree → Nat → Option CFn
 | .leaf i fn,f => bif Nat.beq f i then some fn else none
 | .node m a b,f => bif Nat.blt f m then a.get f else b.get f
def CTree.All (p:Nat → CFn → Prop):CTree → Prop
 | .leaf i fn => p i fn
 | .node _ a b => a.All p ∧ b.All p
theorem CTree.get_all {p:Nat → CFn → Prop} {t:CTree} (h:t.All p) {f:Nat} {fn:CFn} (hg:t.get f = some fn):p f fn:=by
 induction t with
 | leaf i x =>
  have hg:(bif Nat.beq f i then some x else none) = some fn:=hg
  cases hb:Nat.beq f i with
  | true => rw [hb] at hg; cases hg; have:=Nat.eq_of_beq_eq_true hb; subst this; exact h
  | false => rw [hb] at hg; cases hg
 | node m a b iha ihb =>
  have hg:(bif Nat.blt f m then a.get f else b.get f) = some fn:=hg
  cases hb:Nat.blt f m with
  | true => rw [hb] at hg; exact iha h.1 hg
  | false => rw [hb] at hg; exact ihb h.2 hg
section
variable {P:Program}
def FnOkAt (P:Program) (H:Hints) (base:Base) (f:Nat):CFn → Prop
 | .ir fn => zAf P H f = some fn
 | .prim p => zGo P base f p
theorem TOk.of_tree {H:Hints} {base:Base} {t:CTree} (h:t.All (FnOkAt P H base)):TOk P H base t.get :=
 ⟨fun f fn hf => CTree.get_all h hf,fun f p hf => CTree.get_all (p:=FnOkAt P H base) h hf⟩
def zL3:Option (CVal × CHeap) → Bool
 | some (.bool b,_) => b
 | _ => false
end
section
open Go.ChangeShapes Go.WideShapes
variable {H:Type} {enc:TypeId × Value → H} {P:Program}
theorem post_of_below {f:Func} {s:ChangeSpec} {apart fresh handsOn again:Bool} {W W':World} {args:Array Value} {v:Value} {ds gs:List (DataW H)} {before pa pv:List MemPlace}
    (hW:DataW.Whole enc P f.params.toList s.vars apart W args.toList ds gs before)
    (hres:∀ (b:Nat) (sp:Nat → Bool) (hd:Bool),DataW.TrodAll enc P W' b sp hd f.resultTypes.toList (v.resultList f.resultTypes.size) (s.fn H (ds ++ gs)).results [])
    (hargs:∀ sp:Nat → Bool,(∀ p ∈ before,sp p.block = true) → DataW.TrodAll enc P W' 0 sp true f.params.toList args.toList (s.fn H (ds ++ gs)).args pa)
    (hvars:∀ sp:Nat → Bool,(∀ p ∈ before,sp p.block = true) → DataW.TrodVars enc P W' sp s.vars (s.fn H (ds ++ gs)).vars pv)
    (hps:before = pa ++ pv) (hb:Below W.heap.size W W')
    (hok:∀ (j:Nat) (t:TypeId) (r:Value),f.resultTypes[j]? = some t → (v.resultList f.resultTypes.size)[j]? = some r → Value.okWide P W' .any 0 t r) :
    s.post enc P f apart fresh handsOn again W args v W':=by
 have hold:∀ p ∈ before,(fun b => decide (b < W.heap.size)) p.block = true:=fun p hp => by simpa using hW.lt p hp
 have hlt:=hW.lt
 refine ⟨ds,gs,before,[],pa,pv,hW,hres _ _ _,hargs _ hold,hvars _ hold,World.keptBut_mono (fun p hp => ⟨hp,?_⟩) (hb.frame (· ∈ before)),fun _ => ?_⟩
 · rw [hps,List.mem_append] at hp
   exact Or.inr hp
 · obtain ⟨_,_,_,_,_,hz,hn⟩:=hW
   refine ⟨hok,_,_,([] ++ pa) ++ pv,⟨[] ++ pa,pv,trodAll_append (hargs _ (fun _ _ => rfl)) (hres _ _ _),hvars _ (fun _ _ => rfl),rfl,?_,?_⟩,?_⟩
   · intro b off hp
     have hm:MemPlace.cell b off ∈ before:=by rw [hps]; simpa using hp
     have hfr:W'.frozen? ⟨b,off,none⟩ = W.frozen? ⟨b,off,none⟩:=hb.frozen (by have:=hlt _ hm; exact this)
     rw [hfr]
     exact hz b off hm
   · intro ha
     have:=hn ha
     rw [hps] at this
     simpa using this
   · intro p hp _
     rw [hps]
     simpa using hp
end
section
variable {P:Program}
end
end Go.CI
/- strings.Builder's own functions, and others of the library, as functions of the interpreter's own. -/
set_option linter.unusedVariables false
namespace Go.CI
def zJe:List (Nat × Nat) → Nat → Nat → Bool
 | [],_,_ => false
 | (a,b) :: r,x,y => (a == x && b == y) || zJe r x y
def zCi (oks:List (Nat × Nat)) (xs:List CVal) (h:CHeap):Option (CVal × CHeap) :=
 match xs with
 | [.ptr b d o] => if zJe oks d o then match h.get b with
  | some (.cells cs) => match nth cs o with
   | .nilp => some (.tup [],h.set b (.cells (setCells cs o [.ptr b d o])))
   | .ptr b' d' o' => if b' == b && (d' == d && o' == o) then some (.tup [],h) else none
   | _ => none
  | _ => none else none
 | _ => none
def zD4:List CVal → Option (List UInt8)
 | [] => some []
 | .int .u8 n :: r => if decide (0 ≤ n) && decide (n < 256) then (zD4 r).map (UInt8.ofNat n.toNat :: ·) else none
 | _ => none
def rowOf:Option CObj → Option (Nat × List CVal)
 | some (.row v es) => some (v,es)
 | some (.frow v es) => some (v,es)
 | _ => none
def zEf (T:Nat) (xs:List CVal) (h:CHeap):Option (CVal × CHeap) :=
 match xs with
 | [.ptr b d o] => match h.get b with
  | some (.cells cs) => match nth cs (o + 1) with
   | .nils => some (.str [],h)
   | .ref r ver 1 off len => match rowOf (h.get r) with
    | some (v,es) => if v == ver && (decide (off + len ≤ es.length) && (decide (0 < len) && (decide (len ≤ zBd) && (h.ty r == some T)))) then (zD4 (cut off (off + len) es)).map fun l => (.str l,h.set r (.frow v es)) else none
    | _ => none
   | _ => none
  | _ => none
 | _ => none
def zCt (T:Nat) (xs:List CVal) (h:CHeap):Option (CVal × CHeap) :=
 match xs with
 | [.int .i64 n] => if decide (0 ≤ n) && decide (n ≤ zBd) then some (.ref h.next 0 1 0 n.toNat,(({ h with next:=h.next + 1 }:CHeap).put h.next (.row 0 [])).note h.next (T + 1)) else none
 | _ => none
def zEi:List UInt8 → List UInt8 → Bool
 | _,[] => true
 | [],_ :: _ => false
 | a :: x,b :: y => a == b && zEi x y
def zE0 (p:List UInt8):List UInt8 → Nat → Int
 | [],i => match p with
  | [] => i
  | _ :: _ => -1
 | a :: r,i => bif zEi (a :: r) p then i else zE0 p r (i + 1)
def pIndex (xs:List CVal) (h:CHeap):Option (CVal × CHeap) :=
 match xs with
 | [.str s,.str p] => if decide (s.length < 4294967281) then some (.int .i64 (zE0 p s 0),h) else none
 | _ => none
end Go.CI
/- The interpreter once more, in a form that the kernel runs fast: every choice is a recursor over closed terms. -/
set_option linter.unusedVariables false
namespace Go.CI
noncomputable def bF (b:Bool):(β:Type) → β → β → β:=@Bool.rec.{2} (fun _ => (β:Type) → β → β → β) (fun _ _ y => y) (fun _ x _ => x) b
theorem bF_eq (b:Bool) (β:Type) (x y:β):bF b β x y = if b then x else y:=by cases b <;> rfl
noncomputable def CTree.getF (t:CTree):Nat → Option CFn :=
 @CTree.rec.{1} (fun _ => Nat → Option CFn) (fun i fn f => bF (Nat.beq f i) (Option CFn) (some fn) none) (fun m _ _ a b f => bF (Nat.blt f m) (Option CFn) (a f) (b f)) t
abbrev crunF (T:Nat → Option CFn) (n f:Nat) (args:List CVal) (h:CHeap):=crun T n f args h
theorem crunF_eq (T:Nat → Option CFn) (n f:Nat) (args:List CVal) (h:CHeap):crunF T n f args h = crun T n f args h:=rfl
end Go.CI
