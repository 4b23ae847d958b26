/- A deterministic interpreter over values, proved sound against the model's rules (part 6 of 7): what a run of it gives, a call in the model gives. -/
import Derived.Test.YtcokdlfmnhjngaaGreatCi5
import Derived.Shelf.Strings.Builder1
import Derived.Shelf.Strings.Search2
import Derived.Handed
import Derived.SizedLaws
import Derived.Shelf.Vars
import Derived.Stop.LaidErr
import Derived.Shelf.Strconv.Clone
set_option linter.unusedVariables false
set_option linter.unusedSimpArgs false
namespace Go.CI
theorem CTree.getF_eq (t:CTree) (f:Nat):t.getF f = t.get f:=by
 induction t with
 | leaf i fn => show bF (Nat.beq f i) (Option CFn) (some fn) none = _; rw [bF_eq]; simp only [CTree.get]; cases Nat.beq f i <;> rfl
 | node m a b iha ihb => show bF (Nat.blt f m) (Option CFn) (a.getF f) (b.getF f) = _; rw [bF_eq,iha,ihb]; simp only [CTree.get]; cases Nat.blt f m <;> rfl
end Go.CI
/- strings.Builder.copyCheck as a function of the interpreter's own: it is the model's. -/
set_option linter.unusedVariables false
set_option linter.unusedSimpArgs false
namespace Go.CI
open Go.Shelf Go.RowKit Go.Lib Go.Proofs
section
variable {P:Program} {ρ:Ren}
set_option maxHeartbeats 1000000 in
set_option maxRecDepth 100000 in
theorem cc_used (L:Lays.n240 P ρ) (hs:(P.info? (ρ.t 72)).map (·.size) = some 2) (b o:Nat) (w:World) (h0:w.cell? ⟨b,o,none⟩ = some (.pointer (some ⟨b,o,none⟩))) :
    Calls P (ρ.f 240) #[.pointer (some ⟨b,o,none⟩)] w fun e w' => e = .returned (.tuple #[]) ∧ w' = w:=by
 obtain ⟨j,hj,_⟩:=Option.map_eq_some_iff.1 hs
 have mixed:=L.mixed
 have t72:=L.t72; have a72:=L.a72; have z72:=L.z72; have v72:=L.v72; have u72:=run_underlying L.t72
 have t70:=L.t70; have a70:=L.a70; have z70:=L.z70; have v70:=L.v70; have u70:=run_underlying L.t70
 have t9:=L.t9; have a9:=L.a9; have z9:=L.z9; have v9:=L.v9; have u9:=run_underlying L.t9
 have t4:=L.t4; have a4:=L.a4; have z4:=L.z4; have v4:=L.v4; have u4:=run_underlying L.t4
 have t164:=L.t164; have a164:=L.a164; have z164:=L.z164; have v164:=L.v164; have u164:=run_underlying L.t164
 go_enter L.f240,Body.n240_ntmps ρ
 go_wp2
 rw [Lib.run_neq_ptr_same w _ L.t70 hj]
 go_wp2
 go_end0
 exact ⟨rfl,rfl⟩
set_option maxHeartbeats 1000000 in
set_option maxRecDepth 100000 in
theorem cc_fresh (L:Lays.n240 P ρ) (hs:(P.info? (ρ.t 72)).map (·.size) = some 2) (b o:Nat) (w:World) {T cells:Nat} (h0:w.cell? ⟨b,o,none⟩ = some (.pointer none)) (hsh:w.shape? b = some (T,cells)) (hoff:o < cells)
    (hl:liesAt P P.depth T (cells / P.cellsOf T) o (ρ.t 72) 1 = true) (hfz:w.frozen? ⟨b,o,none⟩ = false) :
    Calls P (ρ.f 240) #[.pointer (some ⟨b,o,none⟩)] w fun e w' => e = .returned (.tuple #[]) ∧ w' = w.setCell ⟨b,o,none⟩ (.pointer (some ⟨b,o,none⟩)):=by
 obtain ⟨j,hj,hjs⟩:=Option.map_eq_some_iff.1 hs
 have mixed:=L.mixed
 have t72:=L.t72; have a72:=L.a72; have z72:=L.z72; have v72:=L.v72; have u72:=run_underlying L.t72
 have t70:=L.t70; have a70:=L.a70; have z70:=L.z70; have v70:=L.v70; have u70:=run_underlying L.t70
 have t9:=L.t9; have a9:=L.a9; have z9:=L.z9; have v9:=L.v9; have u9:=run_underlying L.t9
 have t4:=L.t4; have a4:=L.a4; have z4:=L.z4; have v4:=L.v4; have u4:=run_underlying L.t4
 have t164:=L.t164; have a164:=L.a164; have z164:=L.z164; have v164:=L.v164; have u164:=run_underlying L.t164
 go_enter L.f240,Body.n240_ntmps ρ
 go_wp2
 rw [Lib.run_to_unsafe w ⟨b,o,none⟩ L.t70 L.t164 hj (by rw [hjs]; decide) hsh hoff]
 simp only [Result.andThen]
 rw [Oper.upon_value]
 go_wp2
 rw [run_callFunc_extern L.f276 (by kernel_rfl) (by kernel_rfl) (by kernel_rfl) (e:=Extern.AbiNoEscape.same) (by kernel_rfl)]
 rw [Lib.run_noEscape]
 simp only [Result.andThen]
 rw [Oper.upon_value]
 go_wp2
 rw [Lib.run_from_unsafe w ⟨b,o,none⟩ L.t164 L.t70 hj hsh hl]
 simp only [Result.andThen]
 rw [Oper.upon_value]
 go_wp2
 go_end0
 exact ⟨rfl,rfl⟩
end
section
variable {P:Program} {ρ:Ren}
theorem liesAt_off {e:TypeId} (hc:P.cellsOf e = 1) (count off n:Nat) (hn:off + n ≤ count):liesAt P P.depth e count off e n = true:=by
 have hd:P.depth = (2 * (P.types.size + Made.depth) + 1) + 1:=rfl
 rw [hd]
 simp only [liesAt,Bool.or_eq_true]
 left
 rw [hd]
 simp [rowAt,hc,hn,sameLayout,Nat.mod_one]
theorem zGn (w:World) (pt it ty e:TypeId) (hp:P.underlying pt = some (.pointer e)) (hc:P.cellsOf e = 1) (g ro cells:Nat) (hsh:w.shape? g = some (e,cells)) (l:List UInt8) (h0:l ≠ []) (hn:ro + l.length ≤ cells) (h63:l.length ≤ 9223372036854775807)
    (hcell:∀ j x,l[j]? = some x → w.cell? ((⟨g,ro,none⟩:Addr).add j) = some (.int .u8 x.toNat)) :
    (Builtin.unsafeString_ #[pt,it] ty #[.pointer (some ⟨g,ro,none⟩),.int .i64 l.length]).run P w = .ok (.string ⟨l.toArray⟩) (w.freeze ⟨g,ro,none⟩ l.length):=by
 have hl:l.length ≠ 0:=by simpa using h0
 have hlb:=Lib.run_loadBytes (P:=P) w l ⟨g,ro,none⟩ .empty hcell
 have hlies:=liesAt_off (P:=P) hc (cells / P.cellsOf e) ro l.length (by rw [hc]; simpa using hn)
 have h63':¬ (9223372036854775807:Int) < (l.length:Int):=by omega
 have hdef:Builtin.unsafeString_ #[pt,it] ty #[.pointer (some ⟨g,ro,none⟩),.int .i64 l.length] =
     (do
      let n ← asInt (.int .i64 l.length)
      if n < 0 then runtimePanic (.error "unsafe.String: len out of range")
      if n > IntKind.i64.max then unsupported (.unsafePointer "String: a length above the largest int")
      if n = 0 then pure (.string .empty)
      else if ← variablesAt ⟨g,ro,none⟩ (← elemOf pt) n.toNat then do
       let s ← loadBytes ⟨g,ro,none⟩ .empty n.toNat
       freeze ⟨g,ro,none⟩ n.toNat
       pure (.string s)
      else unsupported (.unsafePointer "String: not so many bytes at ptr")) := rfl
 rw [hdef]
 have hmax:IntKind.i64.max = 9223372036854775807:=rfl
 have hneg:¬ (l.length:Int) < 0:=by omega
 simp [asInt,asIntOf,hmax,h63',hneg,hl,variablesAt,hsh,elemOf,run_underlying hp,hlies,hlb]
set_option maxHeartbeats 2000000 in
set_option maxRecDepth 100000 in
theorem bs_row (L:Lays.n169 P ρ) (X:Builder.Extra P ρ) (b o g ro cap cells:Nat) (l:List UInt8) (w:World) (hbuf:w.cell? ⟨b,o + 1,none⟩ = some (.slice (some ⟨g,ro,none⟩) l.length cap)) (h0:l ≠ []) (hcap:cap ≠ 0)
    (hsh:w.shape? g = some (ρ.t 5,cells)) (hn:ro + l.length ≤ cells) (h63:l.length ≤ 9223372036854775807) (hcell:∀ j x,l[j]? = some x → w.cell? ((⟨g,ro,none⟩:Addr).add j) = some (.int .u8 x.toNat)) :
    Calls P (ρ.f 169) #[.pointer (some ⟨b,o,none⟩)] w fun e w' => e = .returned (.string ⟨l.toArray⟩) ∧ w' = w.drew.freeze ⟨g,ro,none⟩ l.length:=by
 have c1:w.drew.cell? ⟨b,o + 1,none⟩ = some (.slice (some ⟨g,ro,none⟩) l.length cap):=hbuf
 have hSD:(Builtin.unsafeSliceData_ #[(ρ.t 37)] (ρ.t 127) #[.slice (some ⟨g,ro,none⟩) l.length cap]).run P w.drew = .ok (.pointer (some ⟨g,ro,none⟩)) w.drew :=
  Lib.run_unsafeSliceData_row _ _ _ _ _ _ hcap
 have hUS:(Builtin.unsafeString_ #[(ρ.t 127),(ρ.t 3)] (ρ.t 9) #[.pointer (some ⟨g,ro,none⟩),.int .i64 l.length]).run P w.drew = .ok (.string ⟨l.toArray⟩) (w.drew.freeze ⟨g,ro,none⟩ l.length) :=
  zGn w.drew (ρ.t 127) (ρ.t 3) (ρ.t 9) (ρ.t 5) L.t127 X.cellsByte g ro cells hsh l h0 hn h63 hcell
 have mixed:=L.mixed
 have t72:=L.t72; have a72:=L.a72; have z72:=L.z72; have v72:=L.v72; have u72:=run_underlying L.t72
 have t70:=L.t70; have a70:=L.a70; have z70:=L.z70; have v70:=L.v70; have u70:=run_underlying L.t70
 have t37:=L.t37; have a37:=L.a37; have z37:=L.z37; have v37:=L.v37; have u37:=run_underlying L.t37
 have t127:=L.t127; have a127:=L.a127; have z127:=L.z127; have v127:=L.v127; have u127:=run_underlying L.t127
 have t3:=L.t3; have a3:=L.a3; have z3:=L.z3; have v3:=L.v3; have u3:=run_underlying L.t3
 have t9:=L.t9; have a9:=L.a9; have z9:=L.z9; have v9:=L.v9; have u9:=run_underlying L.t9
 have t5:=X.t5; have a5:=X.a5; have z5:=X.z5; have v5:=X.v5; have u5:=run_underlying X.t5
 go_enter L.f169,Body.n169_ntmps ρ
 go_wp2
 go_region_o
 all_goals (go_wp2; go_ret; exact ⟨rfl,rfl⟩)
set_option maxHeartbeats 2000000 in
set_option maxRecDepth 100000 in
theorem bs_nil (L:Lays.n169 P ρ) (X:Builder.Extra P ρ) (b o:Nat) (w:World) (hbuf:w.cell? ⟨b,o + 1,none⟩ = some (.slice none 0 0)) :
    Calls P (ρ.f 169) #[.pointer (some ⟨b,o,none⟩)] w fun e w' => e = .returned (.string ⟨#[]⟩) ∧ w' = w.drew:=by
 have hUS:=Any.unsafeString_none L X
 have c1:w.drew.cell? ⟨b,o + 1,none⟩ = some (.slice none 0 0):=hbuf
 have hSD:(Builtin.unsafeSliceData_ #[(ρ.t 37)] (ρ.t 127) #[.slice none 0 0]).run P w.drew = .ok (.pointer none) w.drew:=rfl
 have mixed:=L.mixed
 have t72:=L.t72; have a72:=L.a72; have z72:=L.z72; have v72:=L.v72; have u72:=run_underlying L.t72
 have t70:=L.t70; have a70:=L.a70; have z70:=L.z70; have v70:=L.v70; have u70:=run_underlying L.t70
 have t37:=L.t37; have a37:=L.a37; have z37:=L.z37; have v37:=L.v37; have u37:=run_underlying L.t37
 have t127:=L.t127; have a127:=L.a127; have z127:=L.z127; have v127:=L.v127; have u127:=run_underlying L.t127
 have t3:=L.t3; have a3:=L.a3; have z3:=L.z3; have v3:=L.v3; have u3:=run_underlying L.t3
 have t9:=L.t9; have a9:=L.a9; have z9:=L.z9; have v9:=L.v9; have u9:=run_underlying L.t9
 have t5:=X.t5; have a5:=X.a5; have z5:=X.z5; have v5:=X.v5; have u5:=run_underlying X.t5
 go_enter L.f169,Body.n169_ntmps ρ
 go_wp2
 go_region_o
 all_goals (go_wp2; go_ret; exact ⟨rfl,rfl⟩)
end
section
variable {P:Program} {base:Base} {G:Gh} {h:CHeap} {w:World} {ρ:Ren}
theorem post_cell (I:Inv base G h w) {b ab d o:Nat} {cs:List CVal} {c:CVal} {u:Value} (hm:G.mu b = some (ab,d)) (hb:h.get b = some (.cells cs)) (ho:o < cs.length) (hc:VR G c u) (hf:c.flat = true) :
    Post base (· = h.next) G h w G (h.set b (.cells (setCells cs o [c]))) (w.setCells ab o [u]):=by
 obtain ⟨own,I⟩:=I
 obtain ⟨hbn,hab,hown,hbk⟩:=I.mus b ab d hm
 obtain ⟨hl,hcel⟩:=(I.ents b _ hb).2 ab d hm
 have hlive:∀ j,j < 1 → own ab (o + j) = some (.m b) ∧ Live w ab (o + j):=fun j hj => hown (o + j) (by omega)
 have hvs:VRs G [c] [u]:=VRs.cons hc (VRs.nil G)
 refine zG7 I (b:=b) (x:=.m b) (.inl rfl) hab (fun j hj => hlive j (by simpa using hj)) hb (fun b' hne => get_set_other hne) (fun q hq => ?_) rfl rfl (zCl h b _ I.nod)
 rw [zBj hb] at hq
 cases hq
 intro ab' k hm'
 rw [hm] at hm'
 cases hm'
 have hxl:o + [c].length ≤ cs.length:=by simp; omega
 refine ⟨by rw [zD6 _ _ _ hxl,hl],fun i c' hi => ?_⟩
 rw [getElem?_setCells _ _ _ hxl] at hi
 split at hi
 · rename_i hin
   exact ⟨by have:=List.mem_of_getElem? hi; simp at this; rw [this]; exact hf,zFc (fun j hj => (hlive j (by simpa using hj)).2) hvs hin hi⟩
 · rename_i hout
   obtain ⟨h1,v,hv,hr⟩:=hcel i c' hi
   exact ⟨h1,v,by rw [zC4 (fun _ => by simp at hout ⊢; omega)]; exact hv,hr⟩
def ccOks (P:Program) (B:TypeId) (oks:List (Nat × Nat)):Bool :=
 oks.all fun p => decide (p.1 ≠ 0) && (decide (p.2 < szOf p.1) && liesAt P P.depth (tyOf p.1) (szOf p.1 / P.cellsOf (tyOf p.1)) p.2 B 1)
theorem zIw:∀ {l:List (Nat × Nat)} {x y:Nat},zJe l x y = true → (x,y) ∈ l
 | (a,b) :: r,x,y,h => by
  simp only [zJe,Bool.or_eq_true,Bool.and_eq_true,beq_iff_eq] at h
  rcases h with ⟨rfl,rfl⟩ | h
  · simp
  · exact List.mem_cons_of_mem _ (zIw h)
theorem post_call {v:CVal} {h':CHeap} {G':Gh} {u:Value} {w':World} (hv:VR G' v u) (hp:Post base (· = h.next) G h w G' h' w'):zEn base G h w v h' u w' :=
 ⟨G',hv,post_ex hp fun j hj hlt _ => absurd hlt (by omega)⟩
theorem zL1 (L : Lays.n240 P ρ) (hname : ((Body.n240 ρ).name == "runtime.NumGoroutine") = false) (hs : (P.info? (ρ.t 72)).map (·.size) = some 2) {oks : List (Nat × Nat)} (hok : ccOks P (ρ.t 72) oks = true) : zGo P base (ρ.f 240) (zCi oks) := by
 intro G h w xs us v h' hp I hr
 unfold zCi at hp
 split at hp
 · rename_i b d o
   obtain ⟨X,rfl,hX⟩:=vrs_one hr
   split at hp
   · rename_i hpair
     have hm0:=List.all_eq_true.1 hok _ (zIw hpair)
     simp only [Bool.and_eq_true,decide_eq_true_eq] at hm0
     obtain ⟨hd0,ho,hlies⟩:=hm0
     cases hX with
     | ptr hm =>
      rename_i ab
      have I0:=I
      obtain ⟨own,Io⟩:=I0
      obtain ⟨hbn,hab,hown,hbk⟩:=Io.mus b ab d hm
      have hsh:=hbk.2 hd0
      have hent:(callFunc (ρ.f 240) ⟨[.pointer (some ⟨ab,o,none⟩)]⟩).run P w = .ok (.enter (ρ.f 240) ⟨[.pointer (some ⟨ab,o,none⟩)]⟩) w :=
       zEt (c:=((Body.n240 ρ).body).getD .skip) L.f240 hname (by rfl) _ w
      split at hp
      · rename_i cs hg
        obtain ⟨hl,hcel⟩:=(Io.ents b _ hg).2 ab d hm
        have hcl:o < cs.length:=by omega
        obtain ⟨hfl,z,hz,hzr⟩:=hcel o _ (getElem?_nth hcl)
        split at hp
        · rename_i hnil
          cases hp
          rw [hnil] at hzr
          cases hzr
          refine .inr ⟨_,_,hent,?_⟩
          refine (cc_fresh L hs ab o w hz hsh ho hlies (hown o ho).2.2).mono fun e w' ⟨he,hw'⟩ => ⟨_,he,?_⟩
          subst hw'
          exact post_call (.tup rfl (VRs.nil G).2) (post_cell I hm hg hcl (.ptr hm) rfl)
        · rename_i b' d' o' hptr
          split at hp
          · rename_i hc
            simp only [Bool.and_eq_true,beq_iff_eq] at hc
            obtain ⟨rfl,rfl,rfl⟩:=hc
            cases hp
            rw [hptr] at hzr
            cases hzr with
            | ptr hm2 =>
             rw [hm] at hm2
             cases hm2
             refine .inr ⟨_,_,hent,?_⟩
             refine (cc_used L hs ab o' w hz).mono fun e w' ⟨he,hw'⟩ => ⟨_,he,?_⟩
             subst hw'
             exact ⟨G,.tup rfl (VRs.nil G).2,.refl I⟩
          · cases hp
        · cases hp
      · cases hp
   · cases hp
 · cases hp
end
end Go.CI
/- strings.Builder.String as a function of the interpreter's own: it is the model's. -/
set_option linter.unusedVariables false
set_option linter.unusedSimpArgs false
namespace Go.CI
open Go.Shelf Go.RowKit Go.Lib Go.Proofs
section
variable {P:Program} {base:Base} {G:Gh} {h:CHeap} {w:World} {ρ:Ren}
theorem freeze_heap {ab o n:Nat} {c:Array Value} {T lo hi:Nat} (hn:n ≠ 0) (hb:w.heap[ab]? = some (.cells c T (lo,hi))) (a:Nat) :
    (w.freeze ⟨ab,o,none⟩ n).heap[a]? = if a = ab then some (.cells c T (if lo == hi then (o,o + n) else (min lo o,max hi (o + n)))) else w.heap[a]?:=by
 unfold World.freeze
 rw [if_neg hn]
 simp only [Array.getElem?_modify]
 by_cases h1:ab = a
 · subst h1
   rw [if_pos rfl,if_pos rfl,hb]; rfl
 · rw [if_neg h1,if_neg (fun e => h1 e.symm)]
theorem nth_none {l:List CVal} {i:Nat} (h:l.length ≤ i):nth l i = .undef:=by rw [zIe,List.getElem?_eq_none h]; rfl
theorem zJf:∀ {es:List CVal} {l:List UInt8},zD4 es = some l → es = l.map (fun x => CVal.int .u8 x.toNat)
 | [],l,h => by simp only [zD4] at h; cases h; rfl
 | e :: es,l,h => by
  cases e <;> try (simp [zD4] at h; done)
  rename_i k n
  cases k <;> simp only [zD4] at h <;> first | (cases h; done) | skip
  split at h
  · rename_i hn
    simp only [Bool.and_eq_true,decide_eq_true_eq] at hn
    obtain ⟨l',hl,rfl⟩:=Option.map_eq_some_iff.1 h
    rw [zJf hl]
    simp only [List.map_cons,List.cons.injEq,and_true,CVal.int.injEq,true_and]
    rw [UInt8.toNat_ofNat']
    omega
  · cases h
theorem freeze_size (a:Addr) (n:Nat):(w.freeze a n).heap.size = w.heap.size:=by
 unfold World.freeze
 split <;> simp
set_option maxHeartbeats 1000000 in
theorem zK1 (I:Inv base G h w) {b ver ab ao k cap T o n:Nat} {es:List CVal} {q0:CObj} (hb:h.get b = some q0) (hq0:q0 = .row ver es ∨ q0 = .frow ver es) (ht:h.ty b = some T) (hr:G.rw b ver = some (ab,ao,k,cap)) (hn:n ≠ 0)
    (hsz:∀ N,w.shape? ab = some (T,N) → o + n ≤ N) :
    Post base (fun _ => False) G h w G (h.set b (.frow ver es)) (w.drew.freeze ⟨ab,o,none⟩ n):=by
 obtain ⟨own,I⟩:=I
 obtain ⟨hRow,hsole⟩:=I.tys b T ht ver _ hr
 obtain ⟨c,lo,hi,hheap,hlh,hhc⟩:=hRow
 obtain ⟨hbn,hvmax,hab,hcap,hown,hel⟩:b < h.next ∧ (∀ v x,G.rw b v = some x → v ≤ ver) ∧ base ≤ ab ∧ es.length ≤ cap ∧ (∀ i,i < cap * k → own ab (ao + i) = some (.r b)) ∧
     ∀ (i:Nat) (e:CVal),es[i]? = some e → e.cells.length = k ∧ ∀ (j:Nat) (c:CVal),e.cells[j]? = some c → c.flat = true ∧ Holds G w ab (ao + i * k + j) c:=by
  obtain ⟨x1,x2⟩:=I.ents b _ hb
  rcases hq0 with rfl | rfl
  · obtain ⟨x3,x4⟩:=x2
    obtain ⟨y1,y2,y3,y4⟩:=x4 ab ao k cap hr
    exact ⟨x1,x3,y1,y2,fun i hi => (y3 i hi).1,y4⟩
  · obtain ⟨x3,x4⟩:=x2
    obtain ⟨y1,y2,y3,y4⟩:=x4 ab ao k cap hr
    exact ⟨x1,x3,y1,y2,fun i hi => (y3 i hi).1,y4⟩
 have hsz':o + n ≤ c.size:=hsz c.size (by unfold World.shape?; rw [hheap])
 have hH:=fun a => freeze_heap (w:=w.drew) (o:=o) hn (show w.drew.heap[ab]? = _ from hheap) a
 have hHo:∀ a,a ≠ ab → (w.drew.freeze ⟨ab,o,none⟩ n).heap[a]? = w.heap[a]?:=fun a ha => by rw [hH,if_neg ha]; rfl
 have hHs:=hH ab
 rw [if_pos rfl] at hHs
 have hcell:∀ a i,(w.drew.freeze ⟨ab,o,none⟩ n).cell? ⟨a,i,none⟩ = w.cell? ⟨a,i,none⟩:=fun a i => by
  by_cases ha:a = ab
  · subst ha
    unfold World.cell?
    simp only [hHs,hheap]
  · unfold World.cell?
    simp only [hHo a ha]
 have hfr:∀ a i,a ≠ ab → (w.drew.freeze ⟨ab,o,none⟩ n).frozen? ⟨a,i,none⟩ = w.frozen? ⟨a,i,none⟩:=fun a i ha => by
  unfold World.frozen?
  simp only [hHo a ha]
 have hsize:(w.drew.freeze ⟨ab,o,none⟩ n).heap.size = w.heap.size:=freeze_size _ _
 have hshape:∀ a,(w.drew.freeze ⟨ab,o,none⟩ n).shape? a = w.shape? a:=fun a => by
  by_cases ha:a = ab
  · subst ha
    unfold World.shape?
    simp only [hHs,hheap]
  · unfold World.shape?
    simp only [hHo a ha]
 have hmap:∀ (a:Nat) (es:Array MapEntry) (ck:Nat),w.heap[a]? = some (Obj.map es ck) → (w.drew.freeze ⟨ab,o,none⟩ n).heap[a]? = some (Obj.map es ck):=fun a es ck hm => by
  by_cases ha:a = ab
  · rw [ha,hheap] at hm; cases hm
  · rw [hHo a ha]; exact hm
 have hends:(if lo == hi then (o,o + n) else (min lo o,max hi (o + n))).1 ≤ (if lo == hi then (o,o + n) else (min lo o,max hi (o + n))).2 ∧ (if lo == hi then (o,o + n) else (min lo o,max hi (o + n))).2 ≤ c.size:=by
  split
  · exact ⟨by show o ≤ o + n; omega,hsz'⟩
  · refine ⟨?_,?_⟩
    · show min lo o ≤ max hi (o + n); omega
    · show max hi (o + n) ≤ c.size; omega
 have hrb:∀ a T,RowB w a T → RowB (w.drew.freeze ⟨ab,o,none⟩ n) a T:=fun a T' hr' => by
  obtain ⟨c',lo',hi',h1,h2,h3⟩:=hr'
  by_cases ha:a = ab
  · rw [ha,hheap] at h1
    have e:=Option.some.inj h1
    injection e with _ e2 _
    rw [← e2,ha]
    exact ⟨c,_,_,hHs,hends.1,hends.2⟩
  · exact ⟨c',lo',hi',by rw [hHo a ha]; exact h1,h2,h3⟩
 have hclean:∀ a,Clean w a → Clean (w.drew.freeze ⟨ab,o,none⟩ n) a:=fun a hc => by
  refine ⟨by rw [hsize]; exact hc.1,fun st T' N hs => ?_⟩
  rw [hshape] at hs
  by_cases ha:a = ab
  · subst ha
    unfold World.shape? at hs
    rw [hheap] at hs
    cases hs
    unfold World.frozen?
    simp only [hHs]
    have:=hends.2
    simp only [Bool.and_eq_false_iff,decide_eq_false_iff_not]
    right
    omega
  · rw [hfr a _ ha]; exact hc.2 st T' N hs
 have hh:∀ a i x,Holds G w a i x → Holds G (w.drew.freeze ⟨ab,o,none⟩ n) a i x:=fun a i x ⟨v,h1,h2⟩ => ⟨v,by rw [hcell]; exact h1,h2⟩
 have hlive:∀ a i y,own a i = some y → y ≠ .r b → Live w a i → Live (w.drew.freeze ⟨ab,o,none⟩ n) a i:=fun a i y hy hne hl => by
  have ha:a ≠ ab:=fun e => by subst e; exact hne (hsole i y hy)
  exact ⟨by obtain ⟨v,hv⟩:=hl.1; exact ⟨v,by rw [hcell]; exact hv⟩,by rw [hfr a i ha]; exact hl.2⟩
 have hbel:Below base w (w.drew.freeze ⟨ab,o,none⟩ n):=Go.Lib.below_freeze (Below.refl base w).drew hab n
 refine ⟨.refl G,⟨own,?_⟩,hbel,Nat.le_refl _,fun i _ _ hf => ⟨hf.1,hf.2.1,hf.2.2.1,?_⟩⟩
 · exact {
    fzs:=fun ab o c hf => ⟨(I.fzs ab o c hf).1,hh _ _ _ (I.fzs ab o c hf).2⟩
    mus:=fun b' a k' hm => by
     obtain ⟨h1,h2,h3,h4⟩:=I.mus b' a k' hm
     refine ⟨h1,h2,fun i hi => ⟨(h3 i hi).1,hlive _ _ _ (h3 i hi).1 (by simp) (h3 i hi).2⟩,fun hk => ⟨(h4.1 hk).1,?_⟩,fun hk => by rw [hshape]; exact h4.2 hk⟩
     obtain ⟨es,ck,h5⟩:=(h4.1 hk).2
     exact ⟨es,ck,hmap _ _ _ h5⟩
    rws:=I.rws
    tks:=I.tks
    ents:=fun b' q hq => by
     by_cases hbb:b' = b
     · subst hbb
       rw [zBj hb] at hq
       cases hq
       refine ⟨hbn,hvmax,fun ab2 ao2 k2 cap2 hr2 => ?_⟩
       rw [hr] at hr2
       obtain ⟨rfl,rfl,rfl,rfl⟩:ab = ab2 ∧ ao = ao2 ∧ k = k2 ∧ cap = cap2:=by simpa using hr2
       refine ⟨hab,hcap,fun i hi => ⟨hown i hi,?_⟩,fun i e hie => ⟨(hel i e hie).1,fun j x hj => ⟨((hel i e hie).2 j x hj).1,hh _ _ _ ((hel i e hie).2 j x hj).2⟩⟩⟩
       rw [hsize]
       exact I.old _ _ _ (hown i hi)
     · rw [get_set_other hbb] at hq
       obtain ⟨h1,h2⟩:=I.ents b' q hq
       refine ⟨h1,?_⟩
       cases q with
       | cells cs => exact fun ab k hm => ⟨(h2 ab k hm).1,fun i c hi => ⟨((h2 ab k hm).2 i c hi).1,hh _ _ _ ((h2 ab k hm).2 i c hi).2⟩⟩
       | row ver es => exact ⟨h2.1,fun ab ao k cap hr => let ⟨x1,x2,x3,x4⟩:=h2.2 ab ao k cap hr; ⟨x1,x2,fun i hi => ⟨(x3 i hi).1,hlive _ _ _ (x3 i hi).1 (by simpa using hbb) (x3 i hi).2⟩,fun i e hie => ⟨(x4 i e hie).1,fun j c hj => ⟨((x4 i e hie).2 j c hj).1,hh _ _ _ ((x4 i e hie).2 j c hj).2⟩⟩⟩⟩
       | frow ver es => exact ⟨h2.1,fun ab ao k cap hr => let ⟨x1,x2,x3,x4⟩:=h2.2 ab ao k cap hr; ⟨x1,x2,fun i hi => ⟨(x3 i hi).1,by rw [hsize]; exact (x3 i hi).2⟩,fun i e hie => ⟨(x4 i e hie).1,fun j c hj => ⟨((x4 i e hie).2 j c hj).1,hh _ _ _ ((x4 i e hie).2 j c hj).2⟩⟩⟩⟩
       | tok ver => exact ⟨h2.1,fun ab e k room ht => ⟨(h2.2 ab e k room ht).1,fun i hi => ⟨((h2.2 ab e k room ht).2 i hi).1,hlive _ _ _ ((h2.2 ab e k room ht).2 i hi).1 (by simp) ((h2.2 ab e k room ht).2 i hi).2⟩⟩⟩
       | map ck kvs => exact fun ab hm => let ⟨es,h3,h4⟩:=h2 ab hm; ⟨es,hmap _ _ _ h3,h4⟩
    old:=fun ab o x hx => by rw [hsize]; exact I.old ab o x hx
    top:=by rw [hsize]; exact I.top
    nod:=zCl h b _ I.nod
    cln:=fun b v x hx => hclean _ (I.cln b v x hx)
    gls:=I.gls
    tyk:=I.tyk
    tys:=fun b T ht v x hx => ⟨hrb _ _ (I.tys b T ht v x hx).1,(I.tys b T ht v x hx).2⟩ }
 · have h0:=hf.2.2.2
   have:i ≠ b:=fun e => by subst e; rw [hb] at h0; cases h0
   rw [get_set_other this]; exact h0
theorem rowOf_some {q:Option CObj} {v:Nat} {es:List CVal} (h:rowOf q = some (v,es)):∃ q0,q = some q0 ∧ (q0 = .row v es ∨ q0 = .frow v es):=by
 unfold rowOf at h
 split at h
 · cases h; exact ⟨_,rfl,.inl rfl⟩
 · cases h; exact ⟨_,rfl,.inr rfl⟩
 · cases h
set_option maxHeartbeats 1000000 in
theorem sim_bString (L : Lays.n169 P ρ) (X : Builder.Extra P ρ) (hname : ((Body.n169 ρ).name == "runtime.NumGoroutine") = false) : zGo P base (ρ.f 169) (zEf (ρ.t 5)) := by
 intro G h w xs us v h' hp I hr
 unfold zEf at hp
 split at hp
 · rename_i b d o
   obtain ⟨X0,rfl,hX⟩:=vrs_one hr
   split at hp
   · rename_i cs hg
     cases hX with
     | ptr hm =>
      rename_i ab
      have I0:=I
      obtain ⟨own,Io⟩:=I0
      have hent:(callFunc (ρ.f 169) ⟨[.pointer (some ⟨ab,o,none⟩)]⟩).run P w = .ok (.enter (ρ.f 169) ⟨[.pointer (some ⟨ab,o,none⟩)]⟩) w :=
       zEt (c:=((Body.n169 ρ).body).getD .skip) L.f169 hname (by rfl) _ w
      obtain ⟨hl,hcel⟩:=(Io.ents b _ hg).2 ab d hm
      split at hp
      · rename_i hnil
        cases hp
        have hcl:o + 1 < cs.length:=by
         rcases Nat.lt_or_ge (o + 1) cs.length with h1 | h1
         · exact h1
         · exfalso; rw [nth_none h1] at hnil; cases hnil
        obtain ⟨hfl,z,hz,hzr⟩:=hcel (o + 1) _ (getElem?_nth hcl)
        rw [hnil] at hzr
        cases hzr
        refine .inr ⟨_,_,hent,?_⟩
        refine (bs_nil L X ab o w hz).mono fun e w' ⟨he,hw'⟩ => ⟨_,he,?_⟩
        subst hw'
        exact ⟨G,zG6 rfl,⟨.refl G,I.drew,(Below.refl _ _).drew,Nat.le_refl _,fun _ _ _ hf => hf⟩⟩
      · rename_i r ver off len href
        have hcl:o + 1 < cs.length:=by
         rcases Nat.lt_or_ge (o + 1) cs.length with h1 | h1
         · exact h1
         · exfalso; rw [nth_none h1] at href; cases href
        obtain ⟨hfl,z,hz,hzr⟩:=hcel (o + 1) _ (getElem?_nth hcl)
        rw [href] at hzr
        split at hp
        · rename_i v0 es hrow0
          obtain ⟨q0,hrow,hq0⟩:=rowOf_some hrow0
          split at hp
          · rename_i hc
            simp only [Bool.and_eq_true,beq_iff_eq,decide_eq_true_eq] at hc
            obtain ⟨rfl,hle,hlen,hmost,hty⟩:=hc
            obtain ⟨l,hl1,hl2⟩:=Option.map_eq_some_iff.1 hp
            cases hl2
            have hes:=zJf hl1
            cases hzr with
            | ref hrw hk hlc hsp ha =>
             rename_i ab1 ao1 cap1 a1
             have hlcut:=zCg off (off + len) es hle
             have hnl:l.length = len:=by
              have:=congrArg List.length hes
              simp at this; omega
             rcases ha with ha | rfl
             · omega
             have hel1:∀ (i:Nat) (e:CVal),es[i]? = some e → e.cells.length = 1 ∧ ∀ (j:Nat) (c:CVal),e.cells[j]? = some c → c.flat = true ∧ Holds G w ab1 (ao1 + i * 1 + j) c:=by
              have x2:=(Io.ents r _ hrow).2
              rcases hq0 with rfl | rfl
              · exact (x2.2 ab1 ao1 1 cap1 hrw).2.2.2
              · exact (x2.2 ab1 ao1 1 cap1 hrw).2.2.2
             obtain ⟨hRow,_⟩:=Io.tys r _ hty _ _ hrw
             obtain ⟨c,lo,hi,hheap,hlh,hhc⟩:=hRow
             have hshape:w.shape? ab1 = some (ρ.t 5,c.size):=by unfold World.shape?; rw [hheap]
             have hcv:∀ j x,l[j]? = some x → w.cell? ((⟨ab1,ao1 + off * 1,none⟩:Addr).add j) = some (.int .u8 x.toNat):=fun j x hj => by
              have h1:(cut off (off + len) es)[j]? = some (.int .u8 x.toNat):=by rw [hes,List.getElem?_map,hj]; rfl
              have hjl:j < len:=by have:=(List.getElem?_eq_some_iff.1 hj).1; omega
              have h2:es[off + j]? = some (.int .u8 x.toNat):=by
               unfold cut at h1
               rw [List.getElem?_drop,List.getElem?_take_of_lt (by omega)] at h1
               exact h1
              obtain ⟨_,u,hu,hr⟩:=(hel1 _ _ h2).2 0 _ rfl
              cases hr
              rw [zEg rfl]
              rw [show ao1 + (off + j) * 1 + 0 = ao1 + off * 1 + j by omega] at hu
              exact hu
             have hfit:ao1 + off * 1 + len ≤ c.size:=by
              have hlast:len - 1 < l.length:=by omega
              have:=hcv (len - 1) _ (List.getElem?_eq_getElem hlast)
              rw [zEg rfl] at this
              unfold World.cell? at this
              simp only [hheap] at this
              have:=(Array.getElem?_eq_some_iff.1 this).1
              omega
             have hl0:l ≠ []:=fun e => by subst e; simp at hnl; omega
             have hmost':len ≤ 1073741824:=hmost
             refine .inr ⟨_,_,hent,?_⟩
             refine (bs_row L X ab o ab1 (ao1 + off * 1) (cap1 - off) c.size l w (by rw [hnl]; exact hz) hl0 (by omega) hshape (by omega) (by omega) hcv).mono fun e w' ⟨he,hw'⟩ => ⟨_,he,?_⟩
             subst hw'
             exact ⟨G,zG6 rfl,zK1 I hrow hq0 hty hrw (by omega) fun N hN => by rw [hshape] at hN; cases hN; omega⟩
          · cases hp
        · cases hp
      · cases hp
   · cases hp
 · cases hp
end
end Go.CI
/- bytealg.MakeNoZero as a function of the interpreter's own. -/
set_option linter.unusedVariables false
set_option linter.unusedSimpArgs false
namespace Go.CI
open Go.Shelf Go.RowKit Go.Lib Go.Proofs
section
variable {P:Program} {base:Base}
theorem zK4 {f t e:Nat} (ht:P.underlying t = some (.slice e)) {ps:Array TypeId} (X:ExtOk P f (Extern.BytealgMakeNoZero.makeNoZero ps #[t])):zGo P base f (zCt e):=by
 intro G h w xs us v h' hp I hr
 unfold zCt at hp
 split at hp
 · rename_i n
   split at hp
   · rename_i hn
     simp only [Bool.and_eq_true,decide_eq_true_eq] at hn
     have hm:(zBd:Int) = 1073741824:=rfl
     cases hp
     obtain ⟨x,rfl,hx⟩:=vrs_one hr
     have:=vr_int (c:=.nilp) hx
     subst this
     obtain ⟨cs,hrun,hle,_⟩:=Lib.run_makeNoZero (P:=P) w ps t e ht n.toNat (by omega)
     rw [Int.toNat_of_nonneg hn.1] at hrun
     obtain ⟨fm,h1,h2,h3,h4,h5⟩:=X.fn
     have I2:=(I.bump 1).drew.drew
     have hf:zD2 G { h with next:=h.next + 1 } h.next:=I.freshAt (Nat.le_refl _) 1
     have hpost:=zCf (T:=e) (lo:=0) (hi:=0) (b:=h.next) (ver:=0) (k:=1) (cap:=cs.size) (es:=[]) (arr:=cs) (h':=(({ h with next:=h.next + 1 }:CHeap).put h.next (.row 0 [])).note h.next (e + 1)) I2 (Nat.le_refl _) (Nat.lt_succ_self _) (zE2 hf).1
      (fun _ he => by simp at he) (fun _ he => by simp at he) (Nat.zero_le _) (by omega) (fun i c hi => by simp [zAw] at hi)
      (by rw [zEe]; exact zE3 _ _ _) (fun b' hne => by rw [zEe]; exact zD7 hne) (by rw [zHq]; rfl) (by rw [zHp]; obtain ⟨_,I⟩:=I; exact zD8 I.nod hf.2.2.2) ⟨Nat.le_refl _,Nat.zero_le _⟩ (zJv (I.bump 1) hf (.inr rfl)) zGp
     refine .inl ⟨.slice (some ⟨w.heap.size,0,none⟩) n.toNat cs.size,_,by rw [run_callFunc_extern h1 h2 h3 h4 h5,hrun]; rfl,G.withRw h.next 0 (w.heap.size,0,1,cs.size),zFn (by omega) hle,?_⟩
     have hp2:=hpost.drewL.drewL
     exact ⟨hp2.le,hp2.inv,hp2.below,by have:=hp2.next; show h.next ≤ _; exact Nat.le_trans (Nat.le_succ _) this,fun i hi _ hfr => hp2.fresh i (Nat.lt_succ_of_lt hi) (by omega) ⟨hfr.1,hfr.2.1,hfr.2.2.1,hfr.2.2.2⟩⟩
   · cases hp
 · cases hp
end
end Go.CI
/- Calls that have been run already: each is a theorem of its own, that may lean on earlier ones. -/
set_option linter.unusedVariables false
namespace Go.CI
open Go.RowKit
section
variable {P:Program} {base:Base}
theorem TOk.getF {H:Hints} {t:CTree} (h:TOk P H base t.get):TOk P H base t.getF:=by
 have e:t.getF = t.get:=funext fun f => t.getF_eq f
 rw [e]; exact h
end
end Go.CI
/- strings.Index, as the library has it, is the interpreter's. -/
set_option linter.unusedVariables false
namespace Go.CI
open Go.Shelf Go.RowKit Go.Lib Go.Proofs
section
variable {P:Program} {base:Base} {ρ:Ren}
end
end Go.CI
/- What a law's row gives at the start: cells that are known, and the shape of the world. -/
set_option linter.unusedVariables false
namespace Go
open Go.RowKit
variable {H:Type} {enc:TypeId × Value → H}
namespace CI
def Fw (w:World) (ab o:Nat):Option CVal:=match w.cell? ⟨ab,o,none⟩ with
 | some (.int k n) => some (.int k n)
 | some (.string s) => some (.str s.data.toList)
 | some (.iface t (.pointer (some a))) => match w.cell? a with
  | some (.string s) => some (.ifc t (.cptr [.str s.data.toList] 0))
  | _ => none
 | _ => none
theorem fw_holds {w:World} {ab o:Nat} {c:CVal} (h:Fw w ab o = some c):Holds (Gh.of (Fw w)) w ab o c:=by
 unfold Fw at h
 split at h
 · rename_i k n hc; cases h; exact ⟨_,hc,.int _ _⟩
 · rename_i s hc; cases h; exact ⟨_,hc,.str _⟩
 · rename_i t a hc
   split at h
   · rename_i s hs
     cases h
     have hsp:a.spot = none:=World.cell?_spot hs
     obtain ⟨b,p,sp⟩:=a
     have hsp:sp = none:=hsp
     subst hsp
     refine ⟨_,hc,.ifc (VR.cptr (o:=0) (ao:=p) fun i c hi => ?_)⟩
     match i,hi with
     | 0,hi => cases hi; exact ⟨rfl,by show Fw w b (p + 0) = _; unfold Fw; rw [Nat.add_zero,hs]⟩
     | i + 1,hi => simp at hi
   · cases h
 · cases h
def GlOk (w:World) (gl:List (Nat × List CVal)):Prop:=∀ g cs,zDk gl g = some cs → ∀ (i:Nat) (c:CVal),cs[i]? = some c → c.flat = true ∧ Fw w g i = some c
theorem GlOk.nil {w:World}:GlOk w []:=fun g cs h => by cases h
theorem GlOk.cons {w:World} {g:Nat} {c:CVal} {gl:List (Nat × List CVal)} (hc:c.flat = true) (h:Fw w g 0 = some c) (r:GlOk w gl):GlOk w ((g,[c]) :: gl):=fun g' cs h' i c' hi => by
 simp only [zDk] at h'
 split at h'
 · rename_i e
   cases h'
   have e:g = g':=by simpa using e
   subst e
   match i,hi with
   | 0,hi => cases hi; exact ⟨hc,h⟩
   | i + 1,hi => simp at hi
 · exact r g' cs h' i c' hi
theorem GlOk.int {w:World} {g:Nat} {k:IntKind} {m:Int} {gl:List (Nat × List CVal)} (h:w.cell? ⟨g,0,none⟩ = some (.int k m)) (r:GlOk w gl):GlOk w ((g,[.int k m]) :: gl) :=
 .cons rfl (by unfold Fw; rw [h]) r
theorem GlOk.err {w:World} {g:Nat} {t:TypeId} {a:Addr} {s:ByteArray} {l:List UInt8} {gl:List (Nat × List CVal)} (h1:w.cell? ⟨g,0,none⟩ = some (.iface t (.pointer (some a)))) (h2:w.cell? a = some (.string s)) (hs:s.data.toList = l) (r:GlOk w gl) :
    GlOk w ((g,[.ifc t (.cptr [.str l] 0)]) :: gl) :=
 .cons rfl (by unfold Fw; rw [h1]; simp only [h2,hs]) r
theorem begins_w {w:World} {gl:List (Nat × List CVal)} (h:GlOk w gl):Begins w gl (Fw w):=⟨fun ab o c hc => fw_holds hc,h⟩
theorem zDw.cons {a:List (Nat × List CVal)} {g:Nat} {c:List CVal} (h:zDk a g = none):zDw a ((g,c) :: a):=fun g' cs h' => by
 unfold zDk
 by_cases e:g = g'
 · subst e; rw [h] at h'; cases h'
 · rw [if_neg (by simpa using e)]; exact h'
end CI
end Go
/- stringslite.Clone, as the library has it: the same text. -/
set_option linter.unusedVariables false
namespace Go.CI
open Go.Shelf Go.RowKit Go.Lib Go.Proofs
theorem Inv.below {base:Base} {G:Gh} {h:CHeap} {w w':World} (I:Inv base G h w) (hb:Below w.heap.size w w'):Inv base G h w':=by
 obtain ⟨own,I⟩:=I
 have hc:∀ ab i v,w.cell? ⟨ab,i,none⟩ = some v → w'.cell? ⟨ab,i,none⟩ = some v:=fun ab i v hv => by rw [hb.cell (p:=⟨ab,i,none⟩) (zFg hv)]; exact hv
 have hl:∀ ab i,Live w ab i → Live w' ab i:=fun ab i ⟨⟨v,h1⟩,h2⟩ => ⟨⟨v,hc _ _ _ h1⟩,by rw [hb.frozen (p:=⟨ab,i,none⟩) (zFg h1)]; exact h2⟩
 have hh:∀ ab i c,Holds G w ab i c → Holds G w' ab i c:=fun ab i c ⟨v,h1,h2⟩ => ⟨v,hc _ _ _ h1,h2⟩
 have hg:∀ (ab:Nat) (o:Obj),w.heap[ab]? = some o → w'.heap[ab]? = some o:=fun ab o ho => by
  rw [hb.block ab (by rcases Nat.lt_or_ge ab w.heap.size with h | h; exact h; rw [Array.getElem?_eq_none h] at ho; cases ho)]; exact ho
 have hsh:∀ ab x,w.shape? ab = some x → w'.shape? ab = some x:=fun ab x hx => by
  unfold World.shape? at hx ⊢
  cases ho:w.heap[ab]? with
  | none => rw [ho] at hx; cases hx
  | some o => rw [hg ab o ho]; rw [ho] at hx; exact hx
 have hrb:∀ ab T,RowB w ab T → RowB w' ab T:=fun ab T ⟨c,lo,hi,h1,h2⟩ => ⟨c,lo,hi,hg _ _ h1,h2⟩
 refine ⟨own,fun ab o c hf => ⟨(I.fzs ab o c hf).1,hh _ _ _ (I.fzs ab o c hf).2⟩,fun b ab k hm => ⟨(I.mus b ab k hm).1,(I.mus b ab k hm).2.1,fun i hi => ⟨((I.mus b ab k hm).2.2.1 i hi).1,hl _ _ ((I.mus b ab k hm).2.2.1 i hi).2⟩,fun hk => ⟨((I.mus b ab k hm).2.2.2.1 hk).1,let ⟨es,ck,h1⟩:=((I.mus b ab k hm).2.2.2.1 hk).2; ⟨es,ck,hg _ _ h1⟩⟩,fun hk => hsh _ _ ((I.mus b ab k hm).2.2.2.2 hk)⟩,I.rws,I.tks,fun b o ho => ⟨(I.ents b o ho).1,?_⟩,fun ab o x hx => Nat.lt_of_lt_of_le (I.old ab o x hx) hb.size,Nat.le_trans I.top hb.size,I.nod,
  fun b v x hx => ⟨Nat.lt_of_lt_of_le (I.cln b v x hx).1 hb.size,fun st T n hq => by
   have hlt:=(I.cln b v x hx).1
   rw [hb.frozen (p:=⟨x.1,n,none⟩) hlt]
   refine (I.cln b v x hx).2 st T n ?_
   unfold World.shape? at hq ⊢
   rw [← hb.block x.1 hlt]; exact hq⟩,I.gls,I.tyk,fun b T ht v x hx => ⟨hrb _ _ (I.tys b T ht v x hx).1,(I.tys b T ht v x hx).2⟩⟩
 have he:=(I.ents b o ho).2
 cases o with
 | cells cs => exact fun ab k hm => ⟨(he ab k hm).1,fun i c hi => ⟨((he ab k hm).2 i c hi).1,hh _ _ _ ((he ab k hm).2 i c hi).2⟩⟩
 | row ver es => exact ⟨he.1,fun ab ao k cap hr => let ⟨h1,h2,h3,h4⟩:=he.2 ab ao k cap hr; ⟨h1,h2,fun i hi => ⟨(h3 i hi).1,hl _ _ (h3 i hi).2⟩,fun i e hie => ⟨(h4 i e hie).1,fun j c hj => ⟨((h4 i e hie).2 j c hj).1,hh _ _ _ ((h4 i e hie).2 j c hj).2⟩⟩⟩⟩
 | frow ver es => exact ⟨he.1,fun ab ao k cap hr => let ⟨h0,h1,h2,h3⟩:=he.2 ab ao k cap hr; ⟨h0,h1,fun i hi => ⟨(h2 i hi).1,Nat.lt_of_lt_of_le (h2 i hi).2 hb.size⟩,fun i e hie => ⟨(h3 i e hie).1,fun j c hj => ⟨((h3 i e hie).2 j c hj).1,hh _ _ _ ((h3 i e hie).2 j c hj).2⟩⟩⟩⟩
 | map ck kvs => exact fun ab hm => let ⟨es,h1,h2⟩:=he ab hm; ⟨es,hg _ _ h1,h2⟩
 | tok ver => exact ⟨he.1,fun ab e k room ht => ⟨(he.2 ab e k room ht).1,fun i hi => ⟨((he.2 ab e k room ht).2 i hi).1,hl _ _ ((he.2 ab e k room ht).2 i hi).2⟩⟩⟩
section
variable {P:Program}
theorem zCu {t:TypeId} {d:TypeDesc} (h:P.underlying t = some d) (w:World):(isAgg t).run P w = .ok (zE9 d) w:=r_agg h
theorem lay_size {t:TypeId} {n:Nat} (h:(P.info? t).map (·.size) = some n) (w:World):(Go.sizeOf t).run P w = .ok n w:=by
 obtain ⟨i,hi,rfl⟩:=Option.map_eq_some_iff.1 h
 exact zCk hi
theorem zC6 {t:TypeId} {z:Value} (h:(P.info? t).bind (·.zero) = some z) (w:World):(zeroValue t).run P w = .ok z w:=by
 obtain ⟨i,hi,hz⟩:=Option.bind_eq_some_iff.1 h
 exact zGe hi hz
end
def pClone (xs:List CVal) (h:CHeap):Option (CVal × CHeap) :=
 match xs with
 | [.str s] => if decide (s.length ≤ 281474976710656) then some (.str s,h) else none
 | _ => none
section
variable {P:Program} {base:Base} {ρ:Ren}
end
end Go.CI
/- Runs of the interpreter, whatever the fuel. -/
set_option linter.unusedVariables false
set_option linter.unusedSimpArgs false
namespace Go.CI
def MonoX (ex ex':CCode → CSt → Option (CExit × CSt)):Prop:=∀ c st r,ex c st = some r → ex' c st = some r
def MonoC (cf cf':Nat → List CVal → CHeap → Option (CVal × CHeap)):Prop:=∀ f a h r,cf f a h = some r → cf' f a h = some r
section
variable {T:Nat → Option CFn}
theorem zHf {ex ex':CCode → CSt → Option (CExit × CSt)} (hx:MonoX ex ex') {cd cd':List (Nat × List CVal) → CHeap → Option CHeap} (hcd:∀ d h r,cd d h = some r → cd' d h = some r)
    {fn:CFunc} {args:List CVal} {h:CHeap} {r:CVal × CHeap} (hr:zCh ex cd fn args h = some r):zCh ex' cd' fn args h = some r:=by
 unfold zCh at hr ⊢
 split at hr
 · rename_i hn
   rw [if_pos hn]
   cases hb:ex fn.body ⟨fn.params.map (initVar args),h,[]⟩ with
   | none => rw [hb] at hr; cases hr
   | some p =>
    rw [hb] at hr
    rw [hx _ _ _ hb]
    obtain ⟨x,st⟩:=p
    cases hc:cd st.defs st.h with
    | none => cases x <;> simp [hc] at hr
    | some h1 => cases x <;> simp only [hc,hcd _ _ _ hc] at hr ⊢ <;> exact hr
 · cases hr
theorem noDefs_mono:∀ (d:List (Nat × List CVal)) (h:CHeap) (r:CHeap),zIm d h = some r → zIm d h = some r:=fun _ _ _ h => h
theorem zDs {ex ex':CCode → CSt → Option (CExit × CSt)} (hx:MonoX ex ex'):∀ (d:List (Nat × List CVal)) (h:CHeap) (r:CHeap),zEr T ex d h = some r → zEr T ex' d h = some r
 | [],h,r,hr => hr
 | (f,args) :: d,h,r,hr => by
  unfold zEr at hr ⊢
  cases hc:zF0 T ex f args h with
  | none => rw [hc] at hr; cases hr
  | some p =>
   have:zF0 T ex' f args h = some p:=by
    unfold zF0 at hc ⊢
    split at hc
    · exact zHf hx noDefs_mono hc
    · cases hc
   rw [hc] at hr
   rw [this]
   exact zDs hx d _ _ hr
theorem zGv {ex ex':CCode → CSt → Option (CExit × CSt)} (hx:MonoX ex ex'):MonoC (zE1 T ex) (zE1 T ex'):=fun f a h r hr => by
 unfold zE1 at hr ⊢
 split at hr
 · exact zHf hx (zDs hx) hr
 · exact hr
 · cases hr
theorem evalE_mono {cf cf':Nat → List CVal → CHeap → Option (CVal × CHeap)} (hc:MonoC cf cf') {ev:COpnd → CVal} {h:CHeap} {id:Nat} {op:COp} {r:CVal × CHeap} (hr:zBr cf ev h id op = some r):zBr cf' ev h id op = some r:=by
 cases op with
 | lit m a z n ps => cases m <;> exact hr
 | mkslice m a z l c => cases m <;> exact hr
 | s2b m x => cases m <;> exact hr
 | call keep f args => exact hc _ _ _ _ hr
 | callv keep x args =>
  unfold zBr at hr ⊢
  cases hx:ev x <;> simp only [hx] at hr ⊢ <;> try (cases hr; done)
  rename_i f a b
  cases f <;> simp only at hr ⊢ <;> first | exact hc _ _ _ _ hr | (cases hr; done)
 | _ => exact hr
theorem zFa {cf cf':Nat → List CVal → CHeap → Option (CVal × CHeap)} (hc:MonoC cf cf') {tm:List CVal} {id:Nat} {o:COper} {s r:RS} (hr:zBn cf tm id o s = some r):zBn cf' tm id o s = some r:=by
 unfold zBn at hr ⊢
 split at hr
 · rename_i hg
   rw [if_pos hg]
   cases hcls:o.op.cls <;> simp only [hcls] at hr ⊢ <;> try exact hr
   cases he:zBr cf (zAl tm s.vals) s.h id o.op with
   | none => rw [he] at hr; cases hr
   | some p => rw [evalE_mono hc he]; rw [he] at hr; exact hr
 · rename_i hg
   rw [if_neg hg]; exact hr
theorem zDp {cf cf':Nat → List CVal → CHeap → Option (CVal × CHeap)} (hc:MonoC cf cf') {tm:List CVal}:∀ {ops:List COper} {id:Nat} {s r:RS},zB8 cf tm id ops s = some r → zB8 cf' tm id ops s = some r
 | [],_,_,_,hr => hr
 | o :: ops,id,s,r,hr => by
  unfold zB8 at hr ⊢
  cases he:zBn cf tm id o s with
  | none => rw [he] at hr; cases hr
  | some s' => rw [zFa hc he]; rw [he] at hr; exact zDp hc hr
theorem zLn {ex ex':CCode → CSt → Option (CExit × CSt)} (hx:MonoX ex ex'):MonoX (zAt T ex) (zAt T ex'):=fun c st r hr => by
 cases c with
 | region ops wb chk sw =>
  simp only [zAt] at hr ⊢
  cases he:zB8 (zE1 T ex) st.tm st.h.next ops ⟨[],{ st.h with next:=st.h.next + ops.length },st.defs,[]⟩ with
  | none => rw [he] at hr; cases hr
  | some s => rw [zDp (zGv hx) he]; rw [he] at hr; exact hr
 | seq a b =>
  simp only [zAt] at hr ⊢
  cases he:ex a st with
  | none => rw [he] at hr; cases hr
  | some p =>
   rw [hx _ _ _ he]; rw [he] at hr
   obtain ⟨x,st'⟩:=p
   cases x <;> simp only at hr ⊢ <;> first | exact hx _ _ _ hr | exact hr
 | cond c a b =>
  simp only [zAt] at hr ⊢
  generalize zAl st.tm [] c = v at hr ⊢
  cases v with
  | bool q => cases q <;> exact hx _ _ _ hr
  | _ => cases hr
 | block i b =>
  simp only [zAt] at hr ⊢
  cases he:ex b st with
  | none => rw [he] at hr; cases hr
  | some p => rw [hx _ _ _ he]; rw [he] at hr; exact hr
 | loop d b =>
  simp only [zAt] at hr ⊢
  cases he:ex b st with
  | none => rw [he] at hr; cases hr
  | some p =>
   rw [hx _ _ _ he]; rw [he] at hr
   obtain ⟨x,st'⟩:=p
   cases x <;> simp only at hr ⊢ <;> first | exact hx _ _ _ hr | exact hr
 | skip => exact hr
 | exit i => exact hr
 | ret => exact hr
 | stuck => exact hr
theorem zDt (n:Nat):exec T (n + 1) = zAt T (exec T n):=rfl
theorem zKp:∀ n,MonoX (exec T n) (exec T (n + 1))
 | 0 => fun c st r hr => by cases hr
 | n + 1 => zLn (zKp n)
theorem zCd {n m:Nat} (h:n ≤ m):MonoX (exec T n) (exec T m):=by
 induction h with
 | refl => exact fun _ _ _ h => h
 | step _ ih => exact fun c st r hr => zKp _ c st r (ih c st r hr)
def Ev (T:Nat → Option CFn) (c:CCode) (st:CSt) (x:CExit) (st':CSt):Prop:=∃ n,exec T n c st = some (x,st')
def Cl (T:Nat → Option CFn) (f:Nat) (args:List CVal) (h:CHeap) (v:CVal) (h':CHeap):Prop:=∃ n,zE1 T (exec T n) f args h = some (v,h')
def Ops (T:Nat → Option CFn) (tm:List CVal) (id:Nat) (ops:List COper) (s s':RS):Prop:=∃ n,zB8 (zE1 T (exec T n)) tm id ops s = some s'
theorem Ev.skip {st:CSt}:Ev T .skip st .normal st:=⟨1,rfl⟩
theorem Ev.ret {st:CSt}:Ev T .ret st .ret st:=⟨1,rfl⟩
theorem Ev.exit {st:CSt} {i:Nat}:Ev T (.exit i) st (.exit i) st:=⟨1,rfl⟩
theorem Ev.seq {a b:CCode} {st st1 st':CSt} {x:CExit} (h1:Ev T a st .normal st1) (h2:Ev T b st1 x st'):Ev T (.seq a b) st x st':=by
 obtain ⟨n,h1⟩:=h1
 obtain ⟨m,h2⟩:=h2
 refine ⟨max n m + 1,?_⟩
 rw [zDt]
 simp only [zAt]
 rw [zCd (Nat.le_max_left n m) _ _ _ h1]
 exact zCd (Nat.le_max_right n m) _ _ _ h2
theorem Ev.seq_out {a b:CCode} {st st':CSt} {x:CExit} (h1:Ev T a st x st') (hx:x ≠ .normal):Ev T (.seq a b) st x st':=by
 obtain ⟨n,h1⟩:=h1
 refine ⟨n + 1,?_⟩
 rw [zDt]
 simp only [zAt]
 rw [h1]
 cases x <;> first | rfl | exact absurd rfl hx
theorem Ev.cond_true {c:COpnd} {a b:CCode} {st st':CSt} {x:CExit} (hc:zAl st.tm [] c = .bool true) (h:Ev T a st x st'):Ev T (.cond c a b) st x st':=by
 obtain ⟨n,h⟩:=h
 refine ⟨n + 1,?_⟩
 rw [zDt]
 simp only [zAt]
 rw [hc]; exact h
theorem Ev.cond_false {c:COpnd} {a b:CCode} {st st':CSt} {x:CExit} (hc:zAl st.tm [] c = .bool false) (h:Ev T b st x st'):Ev T (.cond c a b) st x st':=by
 obtain ⟨n,h⟩:=h
 refine ⟨n + 1,?_⟩
 rw [zDt]
 simp only [zAt]
 rw [hc]; exact h
def zAd (id:Nat):CExit → CExit
 | .exit i => if i = id then .normal else .exit i
 | x => x
theorem Ev.block {id:Nat} {c:CCode} {st st':CSt} {x:CExit} (h:Ev T c st x st'):Ev T (.block id c) st (zAd id x) st':=by
 obtain ⟨n,h⟩:=h
 refine ⟨n + 1,?_⟩
 rw [zDt]
 simp only [zAt]
 rw [h]
 cases x <;> simp only [zAd]
 split <;> rfl
def dropped (drop:Bool) (n:Nat) (st:CSt):CSt:=if drop then { st with h:={ st.h with ents:=zAc st.h.ents n } } else st
theorem Ev.loop_step {drop:Bool} {c:CCode} {st st1 st':CSt} {x:CExit} (h1:Ev T c st .normal st1) (h2:Ev T (.loop drop c) (dropped drop st.h.next st1) x st'):Ev T (.loop drop c) st x st':=by
 obtain ⟨n,h1⟩:=h1
 obtain ⟨m,h2⟩:=h2
 refine ⟨max n m + 1,?_⟩
 rw [zDt]
 simp only [zAt]
 rw [zCd (Nat.le_max_left n m) _ _ _ h1]
 exact zCd (Nat.le_max_right n m) _ _ _ h2
theorem Ev.loop_out {drop:Bool} {c:CCode} {st st':CSt} {x:CExit} (h1:Ev T c st x st') (hx:x ≠ .normal):Ev T (.loop drop c) st x st':=by
 obtain ⟨n,h1⟩:=h1
 refine ⟨n + 1,?_⟩
 rw [zDt]
 simp only [zAt]
 rw [h1]
 cases x <;> first | rfl | exact absurd rfl hx
theorem Ops.nil {tm:List CVal} {id:Nat} {s:RS}:Ops T tm id [] s s:=⟨0,rfl⟩
theorem Ops.plain {tm:List CVal} {id:Nat} {o:COper} {r:List COper} {s s1 s':RS} (h1:zBn (fun _ _ _ => none) tm id o s = some s1) (h2:Ops T tm (id + 1) r s1 s'):Ops T tm id (o :: r) s s':=by
 obtain ⟨n,h2⟩:=h2
 refine ⟨n,?_⟩
 unfold zB8
 rw [zFa (cf:=fun _ _ _ => none) (fun _ _ _ _ h => by cases h) h1]
 exact h2
open Classical in
theorem Ops.call {tm:List CVal} {id:Nat} {o:COper} {r:List COper} {s s1 s':RS} {f:Nat} {args:List CVal} {v:CVal} {h':CHeap} (hc:Cl T f args s.h v h')
    (h1:zBn (fun g a h => if g = f ∧ a = args ∧ h = s.h then some (v,h') else none) tm id o s = some s1) (h2:Ops T tm (id + 1) r s1 s'):Ops T tm id (o :: r) s s':=by
 obtain ⟨n,hc⟩:=hc
 obtain ⟨m,h2⟩:=h2
 refine ⟨max n m,?_⟩
 unfold zB8
 rw [zFa (cf:=fun g a h => if g = f ∧ a = args ∧ h = s.h then some (v,h') else none) (fun g a h q hq => by
  by_cases e:g = f ∧ a = args ∧ h = s.h
  · obtain ⟨rfl,rfl,rfl⟩:=e
    simp at hq
    subst hq
    exact zGv (zCd (Nat.le_max_left n m)) _ _ _ _ hc
  · simp only [if_neg e] at hq; cases hq) h1]
 exact zDp (zGv (zCd (Nat.le_max_right n m))) h2
theorem Ev.region {ops:List COper} {wb:List (Nat × Nat)} {chk:List (Nat × Nat × Nat)} {sw:List (Nat × Nat)} {st:CSt} {s:RS} (h:Ops T st.tm st.h.next ops ⟨[],{ st.h with next:=st.h.next + ops.length },st.defs,[]⟩ s)
    (hc:(chk.all (zF2 st.tm ops ops.length s.vals (s.h :: s.hs).reverse) && sw.all (zGy st.tm ops ops.length s.vals)) = true) :
    Ev T (.region ops wb chk sw) st .normal ⟨zBu ops.length s.vals st.tm wb,s.h,s.defs⟩:=by
 obtain ⟨n,h⟩:=h
 refine ⟨n + 1,?_⟩
 rw [zDt]
 simp only [zAt]
 rw [h]
 simp only [hc,if_true]
def Defs (T:Nat → Option CFn) (d:List (Nat × List CVal)) (h h':CHeap):Prop:=∃ n,zEr T (exec T n) d h = some h'
theorem Defs.nil {h:CHeap}:Defs T [] h h:=⟨0,rfl⟩
theorem Defs.cons {f:Nat} {fn:CFunc} {args:List CVal} {d:List (Nat × List CVal)} {h h1 h':CHeap} {st:CSt} {x:CExit} {vs:List CVal} {v:CVal} (hf:T f = some (.ir fn)) (hn:args.length = fn.nargs)
    (hb:Ev T fn.body ⟨fn.params.map (initVar args),h,[]⟩ x st) (hx:∀ i,x ≠ .exit i) (hd:st.defs = []) (hr:zBw st.h st.tm fn.results = some vs) (hfin:zDx fn h.next (zBt vs) st.h = some (v,h1)) (h2:Defs T d h1 h'):Defs T ((f,args) :: d) h h':=by
 obtain ⟨n,hb⟩:=hb
 obtain ⟨m,h2⟩:=h2
 refine ⟨max n m,?_⟩
 unfold zEr
 have:zF0 T (exec T (max n m)) f args h = some (v,h1):=by
  unfold zF0
  rw [hf]
  show zCh _ _ _ _ _ = _
  unfold zCh
  rw [if_pos hn,zCd (Nat.le_max_left n m) _ _ _ hb]
  cases x with
  | exit i => exact absurd rfl (hx i)
  | normal => simp only [hd,zIm,hr,hfin]
  | ret => simp only [hd,zIm,hr,hfin]
 rw [this]
 exact zDs (zCd (Nat.le_max_right n m)) _ _ _ h2
theorem Cl.mk {f:Nat} {fn:CFunc} {args:List CVal} {h h1 h':CHeap} {st:CSt} {x:CExit} {vs:List CVal} {v:CVal} (hf:T f = some (.ir fn)) (hn:args.length = fn.nargs)
    (hb:Ev T fn.body ⟨fn.params.map (initVar args),h,[]⟩ x st) (hx:∀ i,x ≠ .exit i) (hd:Defs T st.defs st.h h1) (hr:zBw h1 st.tm fn.results = some vs) (hfin:zDx fn h.next (zBt vs) h1 = some (v,h')):Cl T f args h v h':=by
 obtain ⟨n,hb⟩:=hb
 obtain ⟨m,hd⟩:=hd
 refine ⟨max n m,?_⟩
 unfold zE1
 rw [hf]
 show zCh _ _ _ _ _ = _
 unfold zCh
 rw [if_pos hn,zCd (Nat.le_max_left n m) _ _ _ hb]
 cases x with
 | exit i => exact absurd rfl (hx i)
 | normal => simp only [zDs (zCd (Nat.le_max_right n m)) _ _ _ hd,hr,hfin]
 | ret => simp only [zDs (zCd (Nat.le_max_right n m)) _ _ _ hd,hr,hfin]
theorem Cl.prim {f:Nat} {p:List CVal → CHeap → Option (CVal × CHeap)} {args:List CVal} {h h':CHeap} {v:CVal} (hf:T f = some (.prim p)) (hp:p args h = some (v,h')):Cl T f args h v h':=by
 refine ⟨0,?_⟩
 unfold zE1
 rw [hf]; exact hp
end
end Go.CI
