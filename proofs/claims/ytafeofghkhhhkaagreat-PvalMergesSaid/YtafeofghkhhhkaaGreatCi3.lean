/- A deterministic interpreter over values, proved sound against the model's rules (part 3 of 7): what a run of it gives, a call in the model gives. -/
import Derived.Test.YtafeofghkhhhkaaGreatCi2
import Derived.Laws.MakeOwn
import Derived.Orders
set_option linter.unusedVariables false
set_option linter.unusedSimpArgs false
namespace Go.CI
open Go.RowKit
section
variable {P:Program} {base:Base} {G:Gh} {h:CHeap} {w:World} {id:Nat}
theorem zKe {k:Nat} {es:List CVal} (hk:AllK k es) (n:Nat):zAp (es.take n)=(zAp es).take (n * k):=by
 induction es generalizing n with
 | nil=>simp [zAp]
 | cons a r ih =>
  have h1:=hk a (by simp)
  cases n with
  | zero=>simp [zAp]
  | succ n =>
   have:=ih (fun e he=>hk e (by simp [he])) n
   simp only [zAp,List.take_succ_cons,List.flatMap_cons] at this ⊢
   rw [this,show (n+1) * k=a.cells.length+n * k from by rw [Nat.succ_mul,h1,Nat.add_comm],List.take_length_add_append]
theorem zDi (a b:List CVal):zAp (a++b)=zAp a++zAp b:=by simp [zAp]
theorem zC1 {k:Nat} {a b:List CVal} (ha:AllK k a) (hb:AllK k b):AllK k (a++b):=fun e he=>(List.mem_append.1 he).elim (ha e) (hb e)
theorem zHf {k:Nat} {a:List CVal} (ha:AllK k a) (n:Nat):AllK k (a.take n):=fun e he=>ha e (List.mem_of_mem_take he)
def zBt (es:List CVal):Prop:=∀ e ∈ es,∀ c ∈ e.cells,c.flat=true
theorem zB9 {a b:List CVal} (ha:zBt a) (hb:zBt b):zBt (a++b):=fun e he=>(List.mem_append.1 he).elim (ha e) (hb e)
theorem src_ok (I:Inv base G h w) {k n:Nat} {c:CVal} {z:Value} {es:List CVal} (he:elems h k c=some es) (hc:VR G c z) (hn:n<=es.length) :
    AllK k es/\zBt es/\(Builtin.lenOf z).run P w=.ok es.length w/\∃ news:List Value,VRs G (zAp (es.take n)) news/\(Builtin.firstCells k n z).run P w=.ok news.toArray w:=by
 obtain ⟨own,I⟩:=I
 rcases zEy I he hc with ⟨s,rfl,rfl,rfl⟩ | ⟨rfl,rfl⟩ | ⟨a,cap,rfl,hsp,hall,hk,hcap,hcell⟩
 . obtain ⟨ba,rfl,rfl⟩:=zFc hc
   have hl:(u8s ba.data.toList).length=ba.size:=by unfold u8s;rw [List.length_map,size_eq]
   refine ⟨zLj _,zLh _,by rw [hl];rfl,((ba.data.toList.take n).map fun b=>Value.int .u8 b.toNat),?_,?_⟩
   . have:(u8s ba.data.toList).take n=u8s (ba.data.toList.take n):=by unfold u8s;rw [List.map_take]
     rw [this,zJ0]
     refine ⟨by simp [u8s],fun i c v hc hv=>?_⟩
     unfold u8s at hc
     rw [List.getElem?_map] at hc hv
     cases hb:(ba.data.toList.take n)[i]? with
     | none=>rw [hb] at hc;cases hc
     | some b=>rw [hb] at hc hv;cases hc;cases hv;exact .int _ _
   . have:((ba.extract 0 n).data.map fun b=>Value.int .u8 b.toNat)=((ba.data.toList.take n).map fun b=>Value.int .u8 b.toNat).toArray:=by
      apply Array.ext'
      simp [ByteArray.data_extract]
     simp only [Builtin.firstCells,Sem.run_pure,this]
 . cases hc
   have:n=0:=by simpa using hn
   subst this
   exact ⟨fun e he=>by simp at he,fun e he=>by simp at he,rfl,[],VRs.nil G,by simp [Builtin.firstCells]⟩
 . have hfl:zBt es:=by
    intro e he c hc
    obtain ⟨i,hi⟩:=List.getElem?_of_mem he
    obtain ⟨j,hj⟩:=List.getElem?_of_mem hc
    exact (hcell i e hi j c hj).1
   have hrow:∀ (j:Nat) (c:CVal),(zAp (es.take n))[j]? = some c->Holds G w a.block (a.off+j) c:=by
    intro j c hj
    rw [zKe hall] at hj
    rw [List.getElem?_take] at hj
    split at hj
    . rename_i hlt
      have hlen:=(List.getElem?_eq_some_iff.1 hj).1
      rw [zAl hall] at hlen
      have hdiv:j / k<es.length:=Nat.div_lt_of_lt_mul (by rw [Nat.mul_comm];exact hlen)
      have hmod:j % k<k:=Nat.mod_lt _ hk
      have he1:=getElem?_nth hdiv
      have hek:(nth es (j / k)).cells.length=k:=hall _ (List.mem_of_getElem? he1)
      have hc1:=getElem?_nth (l:=(nth es (j / k)).cells) (i:=j % k) (by omega)
      have h2:=zDk hall he1 hc1
      rw [Nat.mul_comm,Nat.div_add_mod,hj] at h2
      cases h2
      have:=(hcell _ _ he1 _ _ hc1).2
      rw [Nat.add_assoc,Nat.mul_comm,Nat.div_add_mod] at this
      exact this
    . cases hj
   obtain ⟨news,h1,h2⟩:=zG1 _ _ hrow
   have hl:news.length=n * k:=by rw [<- h1.1,zAl (zHf hall n),List.length_take];congr 1;omega
   refine ⟨hall,hfl,rfl,news,h1,?_⟩
   exact run_firstCells_some w k n a es.length cap news hl (fun j v hj=>by rw [zE8 hsp];exact h2 j v hj)
theorem zEk {cs:List CVal} {vs:List Value} (hv:VRs G cs vs) (hf:∀ c ∈ cs,c.flat=true):∀ v ∈ vs,v.oneCell'=true:=by
 intro v hm
 obtain ⟨j,hj⟩:=List.getElem?_of_mem hm
 have hlt:j<cs.length:=by rw [hv.1];exact (List.getElem?_eq_some_iff.1 hj).1
 exact (hv.2 j _ v (getElem?_nth hlt) hj).oneCell (hf _ (List.mem_of_getElem? (getElem?_nth hlt)))
theorem zEp {es:List CVal} (hf:zBt es):∀ c ∈ zAp es,c.flat=true:=by
 intro c hc
 obtain ⟨e,he,hce⟩:=List.mem_flatMap.1 hc
 exact hf e he c hce
theorem run_append_fits {t u e:TypeId} {d:TypeDesc} {g:ElemInfo} {ty:TypeId} {a:Addr} {sLen sCap n:Nat} {x:Value} {news:List Value} (ht:P.underlying t=some (.slice e)) (hu:P.underlying u=some d) (hd:d=.string\/∃ e',d=.slice e') (hg:zAt P e=some g)
    (ha:a.spot=none) (hl:(Builtin.lenOf x).run P w=.ok n w) (hf:(Builtin.firstCells g.size n x).run P w=.ok news.toArray w) (hroom:sLen+n<=sCap) (hlive:∀ j,j<news.length->Live w a.block (a.off+sLen * g.size+j)) (h1:∀ v ∈ news,v.oneCell'=true) :
    (Builtin.append_ #[t,u] ty #[.slice (some a) sLen sCap,x]).run P w=.ok (.slice (some a) (sLen+n) sCap) (w.setCells a.block (a.off+sLen * g.size) news):=by
 obtain ⟨i,d',z,ok⟩:=zAz hg
 have hst:=run_storeCells_cells (P:=P) a.block (a.off+sLen * g.size) news 0 w (fun j hj=>by
  obtain ⟨v,hv⟩:=(hlive j hj).1
  rw [Nat.add_zero,hv];rfl) (fun j hj=>by rw [Nat.add_zero];exact (hlive j hj).2) h1
 rw [Nat.add_zero] at hst
 rw [ok.size] at hf hst ⊢
 rcases hd with rfl | ⟨e',rfl⟩
 all_goals
  simp [Builtin.append_,zB5 ht,zB5 hu,zCe ok.info,hl,hroom,hf,zE8 ha,hst]
theorem zIf {t u e:TypeId} {d:TypeDesc} {g:ElemInfo} {ty:TypeId} {a:Option Addr} {sLen sCap n:Nat} {x:Value} {olds news:List Value} (ht:P.underlying t=some (.slice e)) (hu:P.underlying u=some d) (hd:d=.string\/∃ e',d=.slice e') (hg:zAt P e=some g)
    (hb:g.bytes<=4096) (hl:(Builtin.lenOf x).run P w=.ok n w) (ho:(Builtin.firstCells g.size sLen (.slice a sLen sCap)).run P w.drew=.ok olds.toArray w.drew) (hf:(Builtin.firstCells g.size n x).run P w.drew=.ok news.toArray w.drew) (hroom:sCap<sLen+n) (hmost:sLen+n<=zB7) :
    ∃ newCap rest,sLen+n<=newCap/\rest.length=(newCap - (sLen+n)) * g.size/\(Builtin.append_ #[t,u] ty #[.slice a sLen sCap,x]).run P w=.ok (.slice (some ⟨w.heap.size,0,none⟩) (sLen+n) newCap) (w.drew.alloc (.cells (olds++(news++rest)).toArray e)):=by
 obtain ⟨i,d',z,ok⟩:=zAz hg
 have hcapge:sLen+n<=grownCap w (sLen+n) sCap e:=grownCap_ge w _ _ _
 refine ⟨grownCap w (sLen+n) sCap e,(Builtin.zeroCells z.cells (grownCap w (sLen+n) sCap e - (sLen+n))).toList,hcapge,?_,?_⟩
 . rw [Array.length_toList,size_zeroCells,ok.zsize]
 . rw [ok.size] at ho hf
   have hby:i.bytes<=4096:=by rw [<- ok.bytes];exact hb
   have hm:zB7=1073741824:=rfl
   have h1:Builtin.nextslicecap (sLen+n) sCap * i.bytes<=281474976710656:=growslice_fits hroom (by
    have:(sLen+n) * i.bytes<=1073741824 * 4096:=Nat.mul_le_mul (by omega) hby
    omega)
   have h2:¬ sLen+n<=sCap:=by omega
   have h3:¬ ((sLen+n:Nat):Int) > IntKind.i64.max:=by
    have:IntKind.i64.max=9223372036854775807:=rfl
    rw [this];omega
   have h4:¬ Builtin.nextslicecap (sLen+n) sCap * i.bytes > 2 ^ 48:=by omega
   have h5:(Question.appendCap (sLen+n) sCap e).forced=false:=rfl
   have hgc:(Question.appendCap (sLen+n) sCap e).cut (w.tape w.drawn (.appendCap (sLen+n) sCap e))=grownCap w (sLen+n) sCap e:=rfl
   rcases hd with rfl | ⟨e',rfl⟩
   all_goals
    simp [Builtin.append_,zB5 ht,zB5 hu,zCe ok.info,zNv ok.info,zGa ok.info ok.zero,hl,h2,h4,h5,hf,ho,hgc,newRow]
    rw [if_neg (by omega)]
    have harr:olds.toArray++(news.toArray++Builtin.zeroCells z.cells (grownCap w (sLen+n) sCap e - (sLen+n)))=(olds++(news++(Builtin.zeroCells z.cells (grownCap w (sLen+n) sCap e - (sLen+n))).toList)).toArray:=by
     apply Array.ext';simp
    rw [harr]
end
end Go.CI
namespace Go.CI
open Go.RowKit
section
variable {P:Program} {base:Base} {G:Gh} {h:CHeap} {w:World} {id:Nat}
theorem zKo {e:CVal} (hf:∀ c ∈ e.cells,c.flat=true):e.whole=true:=by
 cases e <;> first | rfl | (have:=hf _ (List.mem_singleton.2 rfl);cases this)
theorem zIs {k:Nat} {ys:List CVal} (hk:AllK k ys) (hf:zBt ys):zAp (ys.map CVal.bare)=(zAp ys).map CVal.strip/\AllK k (ys.map CVal.bare)/\zBt (ys.map CVal.bare):=by
 have hcell:∀ e ∈ ys,e.bare.cells=e.cells.map CVal.strip:=fun e he=>(zPg e).resolve_right (by rw [zKo (hf e he)];simp)
 refine ⟨?_,?_,?_⟩
 . clear hk hf
   induction ys with
   | nil=>rfl
   | cons a r ih =>
    have:=ih (fun e he=>hcell e (by simp [he]))
    simp only [zAp,List.map_cons,List.flatMap_cons,List.map_append] at this ⊢
    rw [this,hcell a (by simp)]
 . intro e he
   obtain ⟨y,hy,rfl⟩:=List.mem_map.1 he
   rw [zEq];exact hk y hy
 . intro e he c hc
   obtain ⟨y,hy,rfl⟩:=List.mem_map.1 he
   rw [hcell y hy] at hc
   obtain ⟨x,hx,rfl⟩:=List.mem_map.1 hc
   rw [zHu];exact hf y hy x hx
theorem zF3 {L:List CVal} {olds news rest:List Value} {es ys:List CVal} (hL:L=es++ys) (ho:VRs G (zAp es) olds) (hn:VRs G (zAp ys) news) :
    ∀ (i:Nat) (c:CVal),(zAp L)[i]? = some c->∃ v,(olds++(news++rest)).toArray[i]? = some v/\VR G c v:=by
 intro i c hc
 subst hL
 rw [zDi] at hc
 have hh:=ho.append hn
 have hi:i<(olds++news).length:=by rw [<- hh.1];exact (List.getElem?_eq_some_iff.1 hc).1
 refine ⟨(olds++news)[i],?_,hh.2 i c _ hc (List.getElem?_eq_getElem hi)⟩
 rw [List.getElem?_toArray,<- List.append_assoc,List.getElem?_append_left hi,List.getElem?_eq_getElem hi]
theorem zLe (I:Inv base G h w) {b ver ab e k room:Nat} {ys:List CVal} {news:List Value} (hk:AllK k ys) (hf:zBt ys) (hb:h.get b=some (.tok ver)) (htk:G.tk b ver=some (ab,e,k,room)) (hn:ys.length<=room) (hv:VRs G (zAp ys) news) :
    Post base (· = id) G h w ({ G with fz:=fun a o=>if a=ab/\e<=o/\o<e+ys.length * k then (zAp ys)[o - e]? else G.fz a o }.withTk b (ver+1) (ab,e+ys.length * k,k,room - ys.length)) (h.set b (.tok (ver+1))) (w.setCells ab e news):=by
 obtain ⟨own,I⟩:=I
 obtain ⟨hbn,hvmax,htok⟩:=I.ents b _ hb
 obtain ⟨hab,hroom⟩:=htok ab e k room htk
 have hlen:(zAp ys).length=ys.length * k:=zAl hk
 have hmul:ys.length * k<=room * k:=Nat.mul_le_mul_right _ hn
 have hown:∀ o,e<=o->o<e+ys.length * k->own ab o=some (.t b):=fun o h1 h2=>by
  have:=(hroom (o - e) (by omega)).1
  rwa [show e+(o - e)=o by omega] at this
 have hlive:∀ j,j<news.length->own ab (e+j)=some (.t b)/\Live w ab (e+j):=fun j hj=>hroom j (by rw [<- hv.1,hlen] at hj;omega)
 have hle1:G.le { G with fz:=fun a o=>if a=ab/\e<=o/\o<e+ys.length * k then (zAp ys)[o - e]? else G.fz a o }:=by
  refine ⟨fun a o c hc=>?_,fun _ _ h=>h,fun _ _ _ h=>h,fun _ _ _ h=>h⟩
  show (if a=ab/\e<=o/\o<e+ys.length * k then _ else G.fz a o)=some c
  rw [if_neg ?_]
  . exact hc
  . rintro ⟨rfl,h1,h2⟩
    have:=(I.fzs _ _ _ hc).1
    rw [hown o h1 h2] at this;cases this
 have hle:=hle1.trans (zMh (b:=b) (ver:=ver+1) (x:=(ab,e+ys.length * k,k,room - ys.length)) (by
  show G.tk b (ver+1)=none
  cases hx:G.tk b (ver+1) with
  | none=>rfl
  | some x=>exact absurd (hvmax _ x hx) (by omega)))
 have hC0:=zCr (w:=w) (vs:=news) hlive
 have hC:Chg (.t b) own (fun a o=>if a=ab/\e<=o/\o<e+ys.length * k then none else own a o) w (w.setCells ab e news):=by
  refine ⟨hC0.live,hC0.cell,fun a o hne _=>?_,fun a o c hc=>?_,hC0.size,hC0.mark,hC0.shp,fun a es ck _ he=>zBx ab news e w he,hC0.objs,hC0.rowb,fun a o y _ hy=>by
   have hy:(if a=ab/\e<=o/\o<e+ys.length * k then none else own a o)=some y:=hy
   split at hy
   . cases hy
   . exact hy⟩
  . show (if a=ab/\e<=o/\o<e+ys.length * k then none else own a o)=own a o
    rw [if_neg]
    rintro ⟨rfl,h1,h2⟩
    exact hne (hown o h1 h2)
  . show (if a=ab/\e<=o/\o<e+ys.length * k then none else own a o)=_
    rw [if_neg]
    . exact hc
    . rintro ⟨rfl,h1,h2⟩
      rw [hown o h1 h2] at hc;cases hc
 refine ⟨hle,⟨_,I.step (x:=.t b) hle hC (Nat.le_refl _) ?_ (fun _ _ _ h=>.inl h) (fun _ _ _ h=>.inl h) ?_ ?_ ?_ (zCv h b _ I.nod) (fun _ _ h=>.inl ⟨h,fun _ _ h=>h⟩)⟩,below_setCells hab _ _ w,Nat.le_refl _,fun i _ _ hfr=>?_⟩
 . intro a o c hc0
   have hc:(if a=ab/\e<=o/\o<e+ys.length * k then (zAp ys)[o - e]? else G.fz a o)=some c:=hc0
   clear hc0
   split at hc
   . rename_i hin
     obtain ⟨rfl,h1,h2⟩:=hin
     refine .inr ⟨by show (if a=a/\e<=o/\o<e+ys.length * k then none else own a o)=none;rw [if_pos ⟨rfl,h1,h2⟩],?_⟩
     exact (zFt (fun j hj=>(hlive j hj).2) hv (by rw [hlen];omega) hc).mono hle (fun v hv=>hv)
   . exact .inl hc
 . intro c v y hy
   by_cases hcb:c=b
   . subst hcb;exact .inr hbn
   . rw [zCt hcb] at hy;exact .inl hy
 . intro c o ho
   by_cases hcb:c=b
   . subst hcb
     rw [zBm hb] at ho
     cases ho
     refine .inr ⟨hbn,fun v x hx=>?_,fun ab' e' k' room' hr=>?_⟩
     . have hx:(if c=c/\v=ver+1 then some (ab,e+ys.length * k,k,room - ys.length) else G.tk c v)=some x:=hx
       split at hx
       . rename_i e;omega
       . have:=hvmax v x hx;omega
     . rw [zEu] at hr
       cases hr
       refine ⟨hab,fun i hi=>?_⟩
       rw [Nat.sub_mul] at hi
       have h1:=hroom (ys.length * k+i) (by omega)
       rw [<- Nat.add_assoc] at h1
       refine ⟨?_,hC.live _ _ h1.2⟩
       show (if ab=ab/\e<=e+ys.length * k+i/\e+ys.length * k+i<e+ys.length * k then none else own ab _)=_
       rw [if_neg (by omega)]
       exact h1.1
   . rw [get_set_other hcb] at ho
     exact .inl ⟨ho,⟨rfl,fun _=>rfl,fun v=>zCt hcb⟩,by simp,by simp,by simp;exact fun e=>hcb e.symm⟩
 . intro a o y ho
   rw [setCells_size]
   have ho:(if a=ab/\e<=o/\o<e+ys.length * k then none else own a o)=some y:=ho
   split at ho
   . cases ho
   . exact I.old a o y ho
 . obtain ⟨h1,h2,h3,h4⟩:=hfr
   have hne:i≠b:=fun e=>by rw [e,hb] at h4;cases h4
   exact ⟨h1,h2,fun v=>by rw [zCt hne];exact h3 v,by rw [get_set_other hne];exact h4⟩
theorem zIa (I:Inv base G h w) {b ver ab ao k cap off len:Nat} {es ys:List CVal} {news:List Value} (hk:AllK k ys) (hf:zBt ys) (hk0:0<k) (hb:h.get b=some (.row ver es)) (hrw:G.rw b ver=some (ab,ao,k,cap)) (hle0:off+len<=es.length) (hn:off+len+ys.length<=cap) (hv:VRs G (zAp ys) news) :
    Post base (· = id) G h w (G.withRw b (ver+1) (ab,ao+off * k,k,cap - off)) (h.set b (.row (ver+1) (cut off (off+len) es++ys))) (w.setCells ab (ao+(off+len) * k) news):=by
 obtain ⟨own,I⟩:=I
 obtain ⟨hbn,hvmax,hrow⟩:=I.ents b _ hb
 obtain ⟨hab,hcap,hown,hel⟩:=hrow ab ao k cap hrw
 have hlen:(zAp ys).length=ys.length * k:=zAl hk
 have hmul:(off+len+ys.length) * k<=cap * k:=Nat.mul_le_mul_right _ hn
 have hlive:∀ j,j<news.length->own ab (ao+(off+len) * k+j)=some (.r b)/\Live w ab (ao+(off+len) * k+j):=fun j hj=>by
  rw [<- hv.1,hlen] at hj
  have:=hown ((off+len) * k+j) (by rw [Nat.add_mul (off+len)] at hmul;omega)
  rw [<- Nat.add_assoc] at this;exact this
 have hle:G.le (G.withRw b (ver+1) (ab,ao+off * k,k,cap - off)):=zJb (by
  cases hx:G.rw b (ver+1) with
  | none=>rfl
  | some x=>exact absurd (hvmax _ x hx) (by omega))
 have hC:=zCr (w:=w) (vs:=news) hlive
 have hcutl:(cut off (off+len) es).length=len:=by rw [zBv _ _ _ hle0];omega
 have hY:∀ b' T',(h.set b (.row (ver+1) (cut off (off+len) es++ys))).ty b'=some T'->(h.ty b'=some T'/\∀ v y,(G.withRw b (ver+1) (ab,ao+off * k,k,cap - off)).rw b' v=some y->G.rw b' v=some y) \/
     ((∃ v,(G.withRw b (ver+1) (ab,ao+off * k,k,cap - off)).rw b' v≠none)/\∀ v y,(G.withRw b (ver+1) (ab,ao+off * k,k,cap - off)).rw b' v=some y->RowB (w.setCells ab (ao+(off+len) * k) news) y.1 T'/\∀ i z,own y.1 i=some z->z=.r b'):=fun b' T' ht=>by
  have ht:h.ty b'=some T':=ht
  by_cases hbb:b'=b
  . subst hbb
    refine .inr ⟨⟨ver+1,by rw [zBi];simp⟩,fun v y hy=>?_⟩
    have hy:(if b'=b'/\v=ver+1 then some (ab,ao+off * k,k,cap - off) else G.rw b' v)=some y:=hy
    split at hy
    . cases hy
      obtain ⟨h3,h4⟩:=I.tys b' T' ht ver _ hrw
      exact ⟨hC.rowb _ _ h3,h4⟩
    . obtain ⟨h3,h4⟩:=I.tys b' T' ht v y hy
      exact ⟨hC.rowb _ _ h3,h4⟩
  . exact .inl ⟨ht,fun v y hy=>by rw [zAw hbb] at hy;exact hy⟩
 refine ⟨hle,⟨own,I.step (x:=.r b) hle hC (Nat.le_refl _) (fun _ _ _ h=>.inl h) (fun _ _ _ h=>.inl h) ?_ (fun _ _ _ h=>.inl h) ?_ ?_ (zCv h b _ I.nod) hY⟩,below_setCells hab _ _ w,Nat.le_refl _,fun i _ _ hfr=>?_⟩
 . intro c v y hy
   by_cases hcb:c=b
   . subst hcb
     by_cases hv:v=ver+1
     . subst hv
       rw [zBi] at hy
       cases hy
       exact .inr ⟨hbn,hC.mark ab (I.cln _ _ (ab,ao,k,cap) hrw)⟩
     . have hy':(if c=c/\v=ver+1 then some (ab,ao+off * k,k,cap - off) else G.rw c v)=some y:=hy
       rw [if_neg (fun e=>hv e.2)] at hy'
       exact .inl hy'
   . rw [zAw hcb] at hy;exact .inl hy
 . intro c o ho
   by_cases hcb:c=b
   . subst hcb
     rw [zBm hb] at ho
     cases ho
     refine .inr ⟨hbn,fun v x hx=>?_,fun ab' ao' k' cap' hr=>?_⟩
     . have hx:(if c=c/\v=ver+1 then some (ab,ao+off * k,k,cap - off) else G.rw c v)=some x:=hx
       split at hx
       . rename_i e;omega
       . have:=hvmax v x hx;omega
     . rw [zBi] at hr
       cases hr
       refine ⟨hab,by rw [List.length_append,hcutl];omega,fun i hi=>?_,fun i e he=>?_⟩
       . rw [Nat.sub_mul] at hi
         have h1:=hown (off * k+i) (by omega)
         rw [<- Nat.add_assoc] at h1
         exact ⟨h1.1,hC.live _ _ h1.2⟩
       . by_cases hi:i<len
         . rw [List.getElem?_append_left (by omega),getElem?_cut,if_pos (by omega)] at he
           obtain ⟨h1,h2⟩:=hel _ _ he
           refine ⟨h1,fun j c hc=>⟨(h2 j c hc).1,?_⟩⟩
           have h3:=(h2 j c hc).2
           rw [Nat.add_mul,<- Nat.add_assoc] at h3
           refine h3.mono hle (fun v hv'=>?_)
           rw [zAh (fun _=>.inl ?_)]
           . exact hv'
           . have hj:=(List.getElem?_eq_some_iff.1 hc).1
             rw [h1] at hj
             have:(i+1) * k<=len * k:=Nat.mul_le_mul_right _ (by omega)
             rw [Nat.succ_mul] at this
             rw [Nat.add_mul]
             omega
         . rw [List.getElem?_append_right (by omega),hcutl] at he
           have hm:=List.mem_of_getElem? he
           refine ⟨hk e hm,fun j c hc=>⟨hf e hm c (List.mem_of_getElem? hc),?_⟩⟩
           have hfc:=zDk hk he hc
           have hidx:(i - len) * k+j<ys.length * k:=by rw [<- hlen];exact (List.getElem?_eq_some_iff.1 hfc).1
           have e1:i * k=len * k+(i - len) * k:=by rw [<- Nat.add_mul];congr 1;omega
           refine (zFt (fun j hj=>(hlive j hj).2) hv (i:=ao+off * k+i * k+j) ?_ ?_).mono hle (fun v hv=>hv)
           . rw [hlen,Nat.add_mul];omega
           . rw [show ao+off * k+i * k+j - (ao+(off+len) * k)=(i - len) * k+j by rw [Nat.add_mul];omega]
             exact hfc
   . rw [get_set_other hcb] at ho
     exact .inl ⟨ho,⟨rfl,fun v=>zAw hcb,fun _=>rfl⟩,by simp,by simp;exact fun e=>hcb e.symm,by simp⟩
 . intro a o y ho
   rw [setCells_size];exact I.old a o y ho
 . obtain ⟨h1,h2,h3,h4⟩:=hfr
   have hne:i≠b:=fun e=>by rw [e,hb] at h4;cases h4
   exact ⟨h1,fun v=>by rw [zAw hne];exact h2 v,h3,by rw [get_set_other hne];exact h4⟩
theorem zEr (I:Inv base G h w) {b ver ab ao k cap o:Nat} {es ys:List CVal} {news:List Value} (hk:AllK k ys) (hf:zBt ys) (hb:h.get b=some (.row ver es)) (hrw:G.rw b ver=some (ab,ao,k,cap)) (hle:o+ys.length<=es.length) (hv:VRs G (zAp ys) news) :
    Post base (· = id) G h w G (h.set b (.row ver (setCells es o ys))) (w.setCells ab (ao+o * k) news):=by
 obtain ⟨own,I⟩:=I
 obtain ⟨hbn,hvmax,hrow⟩:=I.ents b _ hb
 obtain ⟨hab,hcap,hown,hel⟩:=hrow ab ao k cap hrw
 have hlen:(zAp ys).length=ys.length * k:=zAl hk
 have hmul:(o+ys.length) * k<=cap * k:=Nat.mul_le_mul_right _ (by omega)
 have hlive:∀ j,j<news.length->own ab (ao+o * k+j)=some (.r b)/\Live w ab (ao+o * k+j):=fun j hj=>by
  rw [<- hv.1,hlen] at hj
  have:=hown (o * k+j) (by rw [Nat.add_mul] at hmul;omega)
  rw [<- Nat.add_assoc] at this;exact this
 have hC:=zCr (w:=w) (vs:=news) hlive
 refine zHx I (b:=b) (x:=.r b) (.inr rfl) hab hlive hb (fun b' hne=>get_set_other hne) (fun q hq=>?_) rfl rfl (zCv h b _ I.nod)
 rw [zBm hb] at hq
 cases hq
 refine ⟨hvmax,fun ab' ao' k' cap' hm'=>?_⟩
 rw [hrw] at hm'
 cases hm'
 refine ⟨hab,by rw [zDw _ _ _ hle];exact hcap,fun j hj=>⟨(hown j hj).1,hC.live _ _ (hown j hj).2⟩,fun i e he=>?_⟩
 rw [getElem?_setCells _ _ _ hle] at he
 split at he
 . rename_i hin
   have hm:=List.mem_of_getElem? he
   refine ⟨hk e hm,fun j c hc=>⟨hf e hm c (List.mem_of_getElem? hc),?_⟩⟩
   have hfc:=zDk hk he hc
   have hidx:(i - o) * k+j<ys.length * k:=by rw [<- hlen];exact (List.getElem?_eq_some_iff.1 hfc).1
   have e1:i * k=o * k+(i - o) * k:=by rw [<- Nat.add_mul];congr 1;omega
   refine zFt (fun j hj=>(hlive j hj).2) hv (i:=ao+i * k+j) ?_ ?_
   . rw [hlen];omega
   . rw [show ao+i * k+j - (ao+o * k)=(i - o) * k+j by omega];exact hfc
 . rename_i hout
   obtain ⟨h1,h2⟩:=hel i e he
   refine ⟨h1,fun j c hc=>⟨(h2 j c hc).1,?_⟩⟩
   obtain ⟨_,v,hv',hr⟩:=h2 j c hc
   refine ⟨v,?_,hr⟩
   rw [zAh (fun _=>?_)]
   . exact hv'
   . have hj:=(List.getElem?_eq_some_iff.1 hc).1
     rw [h1] at hj
     rw [<- hv.1,hlen]
     by_cases hio:i<o
     . have:(i+1) * k<=o * k:=Nat.mul_le_mul_right _ (by omega)
       rw [Nat.succ_mul] at this
       omega
     . have:(o+ys.length) * k<=i * k:=Nat.mul_le_mul_right _ (by omega)
       rw [Nat.add_mul] at this
       omega
end
end Go.CI
namespace Go.CI
open Go.RowKit
section
variable {P:Program} {base:Base} {G:Gh} {h:CHeap} {w:World} {id:Nat}
theorem zLa {ex ex':Nat->Prop} {G':Gh} {h':CHeap} {w':World} (p:Post base ex G h w G' h' w') (hx:∀ i,ex i->i<h.next->zCw G h i->ex' i):Post base ex' G h w G' h' w' :=
 ⟨p.le,p.inv,p.below,p.next,fun i hi he hf=>p.fresh i hi (fun h=>he (hx i h hi hf)) hf⟩
theorem setCells_nil (w:World) (b o:Nat):w.setCells b o []=w:=rfl
theorem zO4 {t u e:TypeId} {d:TypeDesc} {g:ElemInfo} {ty:TypeId} {m:SMode} {x y v:CVal} {X Y:Value} {ys0:List CVal} {h':CHeap} (I:Inv base G h w) (hfr:zCw G h id) (hid:id<h.next) (ht:P.underlying t=some (.slice e)) (hu:P.underlying u=some d) (hd:d=.string\/∃ e',d=.slice e')
    {T:Nat} (hg:zAt P e=some g) (hT:T=0\/T=e+1) (hb:g.bytes<=4096) (hx:VR G x X) (hy:VR G y Y) (hel:elems h g.size y=some ys0) (hv:zD7 h id m T g.size x (ys0.map CVal.bare)=some (v,h')) :
    OutE P base G h id v h' (do pure (.value (<- Builtin.append_ #[t,u] ty #[X,Y]))) w:=by
 obtain ⟨hk0,hf0,hlen,news,hvn0,hfirst⟩:=src_ok (P:=P) I hel hy (Nat.le_refl _)
 obtain ⟨_,_,_,newsD,hvnD0,hfirstD⟩:=src_ok (P:=P) I.drew hel hy (Nat.le_refl _)
 rw [List.take_length] at hvn0 hvnD0
 obtain ⟨hfl,hk,hf⟩:=zIs hk0 hf0
 have hvn:VRs G (zAp (ys0.map CVal.bare)) news:=by rw [hfl];exact hvn0.map _ fun _ _=>VR.strip
 have hvnD:VRs G (zAp (ys0.map CVal.bare)) newsD:=by rw [hfl];exact hvnD0.map _ fun _ _=>VR.strip
 have hone:=zEk hvn (zEp hf)
 have hyl:(ys0.map CVal.bare).length=ys0.length:=List.length_map _
 generalize hys:ys0.map CVal.bare=ys at *
 have hnl:news.length=ys0.length * g.size:=by rw [<- hvn.1,zAl hk,hyl]
 have hgs:0<g.size:=by obtain ⟨_,_,_,ok⟩:=zAz hg;exact ok.pos
 -- the ways in which the model may go
 have fits:∀ (a:Addr) (sLen sCap:Nat),a.spot=none->X=.slice (some a) sLen sCap->sLen+ys0.length<=sCap->(∀ j,j<news.length->Live w a.block (a.off+sLen * g.size+j)) ->
     (Builtin.append_ #[t,u] ty #[X,Y]).run P w=.ok (.slice (some a) (sLen+ys0.length) sCap) (w.setCells a.block (a.off+sLen * g.size) news):=by
  intro a sLen sCap hs hX hroom hlive
  subst hX
  exact run_append_fits ht hu hd hg hs hlen hfirst hroom hlive hone
 have grows:∀ (a:Option Addr) (sLen sCap:Nat) (olds:List Value),X=.slice a sLen sCap->(Builtin.firstCells g.size sLen (.slice a sLen sCap)).run P w.drew=.ok olds.toArray w.drew->sCap<sLen+ys0.length->sLen+ys0.length<=zB7->olds.length=sLen * g.size ->
     ∃ newCap rest,sLen+ys0.length<=newCap/\(olds++(newsD++rest)).toArray.size=newCap * g.size/\(Builtin.append_ #[t,u] ty #[X,Y]).run P w=.ok (.slice (some ⟨w.heap.size,0,none⟩) (sLen+ys0.length) newCap) (w.drew.alloc (.cells (olds++(newsD++rest)).toArray e)):=by
  intro a sLen sCap olds hX ho hroom hmost hol
  subst hX
  obtain ⟨newCap,rest,h1,h2,h3⟩:=zIf ht hu hd hg hb hlen ho hfirstD hroom hmost
  refine ⟨newCap,rest,h1,?_,h3⟩
  have hnlD:newsD.length=ys0.length * g.size:=by rw [<- hvnD.1,zAl hk,hyl]
  rw [List.size_toArray,List.length_append,List.length_append,hol,hnlD,h2,<- Nat.add_mul,<- Nat.add_mul]
  congr 1;omega
 unfold zD7 at hv
 cases ys with
 | nil =>
  -- nothing is added
  have hn0:ys0.length=0:=by rw [<- hyl];rfl
  have hnews:news=[]:=List.eq_nil_of_length_eq_zero (by rw [hnl,hn0,Nat.zero_mul])
  simp only at hv
  cases x <;> first | (cases hv;done) | skip
  . cases hv;cases hx
    obtain ⟨i,d',z,ok⟩:=zAz hg
    refine .inl ⟨.slice none 0 0,w,?_,G,.nils,.refl I⟩
    rw [hn0] at hlen hfirst
    rw [ok.size] at hfirst
    rcases hd with rfl | ⟨e',rfl⟩ <;> simp [Builtin.append_,zB5 ht,zB5 hu,zCe ok.info,hlen,hfirst]
  . cases hv
    have hx':=hx
    cases hx with
    | imm hs hk hcap hfz htg =>
     rename_i a cap
     have:=fits a _ cap hs rfl (by omega) (fun j hj=>by rw [hnews] at hj;simp at hj)
     rw [hnews,setCells_nil,hn0,Nat.add_zero] at this
     exact .inl ⟨_,_,by rw [Sem.run_bind,this];rfl,G,hx',.refl I⟩
  . cases hv
    have hx':=hx
    cases hx with
    | ref hw hk hl hs ha =>
     rename_i ab ao cap a
     have:=fits a _ _ hs rfl (by omega) (fun j hj=>by rw [hnews] at hj;simp at hj)
     rw [hnews,setCells_nil,hn0,Nat.add_zero] at this
     exact .inl ⟨_,_,by rw [Sem.run_bind,this];rfl,G,hx',.refl I⟩
 | cons y1 yr =>
  have hnpos:0<ys0.length:=by rw [<- hyl];simp
  rw [hyl] at hv
  generalize hyy:y1::yr=ys at *
  have hyl':ys.length=ys0.length:=hyl
  cases x <;> first | (rw [<- hyy] at hv;cases hv;done) | skip
  . -- nil
    rw [<- hyy] at hv
    dsimp only at hv
    rw [hyy] at hv
    cases hx
    split at hv
    . rename_i hmost
      obtain ⟨newCap,rest,h1,h2,h3⟩:=grows none 0 0 [] rfl (by simp [Builtin.firstCells]) (by omega) (by omega) (by simp)
      rw [Nat.zero_add] at h1 h3
      have hgc:=zF3 (rest:=rest) (L:=ys) (es:=[]) (by simp) (VRs.nil G) hvnD
      cases m with
      | imm =>
       cases hv
       have hroom:ys.length+(newCap - ys.length)=newCap:=by omega
       refine .inl ⟨_,_,by rw [Sem.run_bind,h3];rfl,_,?_,Post.drewL (zFp (room:=newCap - ys.length) I.drew hid (zEc hfr).2 hk hf (by rw [hroom,h2];exact Nat.le_refl _) hgc (zE6 _ _ _) (fun b' hne=>zDe hne) rfl (by obtain ⟨_,I⟩:=I;exact zDd I.nod hfr.2.2.2) rfl)⟩
       have:=zHl (G:=G) (b:=id) (ver:=0) (room:=newCap - ys.length) (w:=w.drew) hk hgs hf
       rw [hroom] at this
       rw [<- hyl']
       exact this
      | ref =>
       cases hv
       exact .inl ⟨_,_,by rw [Sem.run_bind,h3];rfl,G.withRw id 0 (w.heap.size,0,g.size,newCap),zFr hgs h1,Post.drewL (zC9 (lo:=0) (hi:=0) (cap:=newCap) I.drew (Nat.le_refl _) hid (zEc hfr).1 hk hf (by omega) (by rw [h2];exact Nat.le_refl _) hgc (by rw [zFu];exact zE6 _ _ _) (fun b' hne=>by rw [zFu];exact zDe hne) (zIy _ _ _) (by rw [zIr];obtain ⟨_,I⟩:=I;exact zDd I.nod hfr.2.2.2) ⟨Nat.le_refl _,Nat.zero_le _⟩ (zK1 I.drew hfr hT) zHo)⟩
    . cases hv
  . -- a list
    rename_i tg l es
    rw [<- hyy] at hv
    have hx':=hx
    cases hx with
    | imm hs hkl hcap hfz htg =>
     rename_i a cap
     have hel':elems h l (.imm tg l es)=some es:=by simp [elems]
     cases tg with
     | none=>dsimp only at hv;cases hv
     | full =>
      dsimp only at hv
      rw [hyy] at hv
      split at hv
      . rename_i hc
        simp only [Bool.and_eq_true,decide_eq_true_eq] at hc
        obtain ⟨rfl,hmost⟩:=hc
        have hcapeq:cap=es.length:=htg
        obtain ⟨hke,hfe,_,olds,hvo,holds⟩:=src_ok (P:=P) I.drew hel' hx' (Nat.le_refl _)
        rw [List.take_length] at hvo
        have hol:olds.length=es.length * g.size:=by rw [<- hvo.1,zAl hke]
        obtain ⟨newCap,rest,h1,h2,h3⟩:=grows (some a) _ cap olds rfl holds (by omega) (by omega) hol
        have hgc:=zF3 (rest:=rest) (L:=es++ys) rfl hvo hvnD
        have hll:(es++ys).length=es.length+ys0.length:=by rw [List.length_append,hyl']
        cases m with
        | imm =>
         cases hv
         have hroom:(es++ys).length+(newCap - (es++ys).length)=newCap:=by omega
         refine .inl ⟨_,_,by rw [Sem.run_bind,h3];rfl,_,?_,Post.drewL (zFp (room:=newCap - (es++ys).length) I.drew hid (zEc hfr).2 (zC1 hke hk) (zB9 hfe hf) (by rw [hroom,h2];exact Nat.le_refl _) hgc (zE6 _ _ _) (fun b' hne=>zDe hne) rfl (by obtain ⟨_,I⟩:=I;exact zDd I.nod hfr.2.2.2) rfl)⟩
         have:=zHl (G:=G) (b:=id) (ver:=0) (room:=newCap - (es++ys).length) (w:=w.drew) (zC1 hke hk) hgs (zB9 hfe hf)
         rw [hroom] at this
         rw [<- hll]
         exact this
        | ref =>
         cases hv
         exact .inl ⟨_,_,by rw [Sem.run_bind,h3];rfl,G.withRw id 0 (w.heap.size,0,g.size,newCap),zFr hgs (by omega),Post.drewL (zC9 (lo:=0) (hi:=0) (cap:=newCap) I.drew (Nat.le_refl _) hid (zEc hfr).1 (zC1 hke hk) (zB9 hfe hf) (by omega) (by rw [h2];exact Nat.le_refl _) hgc (by rw [zFu];exact zE6 _ _ _) (fun b' hne=>by rw [zFu];exact zDe hne) (zIy _ _ _) (by rw [zIr];obtain ⟨_,I⟩:=I;exact zDd I.nod hfr.2.2.2) ⟨Nat.le_refl _,Nat.zero_le _⟩ (zK1 I.drew hfr hT) zHo)⟩
      . cases hv
     | own i ver =>
      dsimp only at hv
      rw [hyy] at hv
      split at hv
      . rename_i uu hgi
        split at hv
        . rename_i hc
          simp only [Bool.and_eq_true,decide_eq_true_eq] at hc
          obtain ⟨rfl,rfl,hmost⟩:=hc
          cases hv
          obtain ⟨ab,e0,room,htk,hcapeq,hend⟩:=htg
          obtain ⟨own,Io⟩:=I
          obtain ⟨hin,hvmax,htok⟩:=Io.ents i _ hgi
          obtain ⟨hab,hroomlive⟩:=htok _ _ _ _ htk
          have I:Inv base G h w:=⟨own,Io⟩
          have hke:AllK g.size es:=fun e' he'=>by obtain ⟨j,hj⟩:=List.getElem?_of_mem he';exact (hfz j e' hj).1
          have hfe:zBt es:=fun e' he' c hc=>by obtain ⟨j,hj⟩:=List.getElem?_of_mem he';obtain ⟨q,hq⟩:=List.getElem?_of_mem hc;exact ((hfz j e' hj).2 q c hq).1
          by_cases hfit:es.length+ys0.length<=cap
          . have hr0:room≠0:=by omega
            obtain ⟨he1,he2⟩:=hend.resolve_left hr0
            subst he1 he2
            have hlive:∀ j,j<news.length->Live w a.block (a.off+es.length * g.size+j):=fun j hj=>(hroomlive j (by
             have:ys0.length * g.size<=room * g.size:=Nat.mul_le_mul_right _ (by omega)
             omega)).2
            have hrun:=fits a _ cap hs rfl hfit hlive
            have hp:=zLe (id:=id) I hk hf hgi htk (by omega) hvn
            refine .inl ⟨_,_,by rw [Sem.run_bind,hrun];rfl,_,?_,hp⟩
            have hll:(es++ys).length=es.length+ys0.length:=by rw [List.length_append,hyl']
            rw [<- hll]
            refine .imm hs hkl (by omega) ?_ ⟨a.block,a.off+es.length * g.size+ys.length * g.size,room - ys.length,zEu _ _ _ _,by omega,.inr ⟨rfl,by rw [List.length_append,Nat.add_mul,Nat.add_assoc]⟩⟩
            intro j e' he'
            by_cases hj:j<es.length
            . rw [List.getElem?_append_left hj] at he'
              exact ⟨(hfz j e' he').1,fun q c hq=>⟨((hfz j e' he').2 q c hq).1,hp.le.fz _ _ _ ((hfz j e' he').2 q c hq).2⟩⟩
            . rw [List.getElem?_append_right (by omega)] at he'
              have hm:=List.mem_of_getElem? he'
              refine ⟨hk e' hm,fun q c hq=>⟨hf e' hm c (List.mem_of_getElem? hq),?_⟩⟩
              have hfc:=zDk hk he' hq
              have hlt:=(List.getElem?_eq_some_iff.1 hfc).1
              rw [zAl hk] at hlt
              have e1:j * g.size=es.length * g.size+(j - es.length) * g.size:=by rw [<- Nat.add_mul];congr 1;omega
              show (if a.block=a.block/\a.off+es.length * g.size<=a.off+j * g.size+q/\a.off+j * g.size+q<a.off+es.length * g.size+ys.length * g.size then (zAp ys)[a.off+j * g.size+q - (a.off+es.length * g.size)]? else _)=some c
              rw [if_pos ⟨rfl,by omega,by omega⟩,show a.off+j * g.size+q - (a.off+es.length * g.size)=(j - es.length) * g.size+q by omega]
              exact hfc
          . obtain ⟨_,_,_,olds,hvo,holds⟩:=src_ok (P:=P) I.drew hel' hx' (Nat.le_refl _)
            rw [List.take_length] at hvo
            have hol:olds.length=es.length * g.size:=by rw [<- hvo.1,zAl hke]
            obtain ⟨newCap,rest,h1,h2,h3⟩:=grows (some a) _ cap olds rfl holds (by omega) (by omega) hol
            have hgc:=zF3 (rest:=rest) (L:=es++ys) rfl hvo hvnD
            have hll:(es++ys).length=es.length+ys0.length:=by rw [List.length_append,hyl']
            have hroom:(es++ys).length+(newCap - (es++ys).length)=newCap:=by omega
            refine .inl ⟨_,_,by rw [Sem.run_bind,h3];rfl,_,?_,zLa (Post.drewL (zFp (ver:=uu+1) (room:=newCap - (es++ys).length) I.drew hin (fun v x hx=>by have:=hvmax v x hx;omega) (zC1 hke hk) (zB9 hfe hf) (by rw [hroom,h2];exact Nat.le_refl _) hgc (zBm hgi) (fun b' hne=>get_set_other hne) rfl (zCv h i _ Io.nod) rfl)) (fun j hj _ hfj=>by subst hj;have:=hfj.2.2.2;rw [hgi] at this;cases this)⟩
            have:=zHl (G:=G) (b:=i) (ver:=uu+1) (room:=newCap - (es++ys).length) (w:=w.drew) (zC1 hke hk) hgs (zB9 hfe hf)
            rw [hroom] at this
            rw [<- hll]
            exact this
        . cases hv
      . cases hv
  . -- a row
    rename_i b ver l off len
    rw [<- hyy] at hv
    dsimp only at hv
    rw [hyy] at hv
    have hx':=hx
    split at hv
    . rename_i v' es hgb
      split at hv
      . rename_i hc
        simp only [Bool.and_eq_true,decide_eq_true_eq] at hc
        obtain ⟨rfl,rfl,hle,hmost⟩:=hc
        cases hx with
        | ref hw hkl hl hs ha =>
         rename_i ab ao cap a
         obtain ⟨own,Io⟩:=I
         obtain ⟨hbn,hvmax,hrow⟩:=Io.ents b _ hgb
         obtain ⟨hab,hcapl,hown,hel2⟩:=hrow _ _ _ _ hw
         have I:Inv base G h w:=⟨own,Io⟩
         have hel':elems h g.size (.ref b v' g.size off len)=some (cut off (off+len) es):=by simp [elems,hgb,hle]
         have hcl:(cut off (off+len) es).length=len:=by rw [zBv _ _ _ hle];omega
         have livec:off+len+ys0.length<=cap->a=⟨ab,ao+off * g.size,none⟩->∀ j,j<news.length->Live w a.block (a.off+len * g.size+j):=by
          intro hle2 ha2 j hj
          subst ha2
          have h1:(off+len+ys0.length) * g.size<=cap * g.size:=Nat.mul_le_mul_right _ hle2
          have:=(hown (off * g.size+len * g.size+j) (by rw [Nat.add_mul,Nat.add_mul] at h1;omega)).2
          rw [<- Nat.add_assoc,<- Nat.add_assoc] at this
          exact this
         split at hv
         . rename_i hin
           cases hv
           have ha2:=ha.resolve_left (by omega)
           have hrun:=fits a _ _ hs rfl (by omega) (livec (by omega) ha2)
           have hp:=zEr (id:=id) (o:=off+len) I hk hf hgb hw (by omega) hvn
           refine .inl ⟨_,_,by rw [Sem.run_bind,hrun];rfl,G,?_,?_⟩
           . exact .ref hw hkl (by omega) hs ha
           . subst ha2
             rw [Nat.add_mul,<- Nat.add_assoc] at hp
             exact hp
         . rename_i hout
           split at hv
           . rename_i hto
             cases hv
             by_cases hfit:len+ys0.length<=cap - off
             . have ha2:=ha.resolve_left (by omega)
               have hrun:=fits a _ _ hs rfl hfit (livec (by omega) ha2)
               have hp:=zIa (id:=id) I hk hf hkl hgb hw hle (by omega) hvn
               have hvr:VR (G.withRw b (v'+1) (ab,ao+off * g.size,g.size,cap - off)) (.ref b (v'+1) g.size 0 (len+ys0.length)) (.slice (some a) (len+ys0.length) (cap - off)):=by
                have:=VR.ref (off:=0) (len:=len+ys0.length) (a:=a) (zBi G b (v'+1) (ab,ao+off * g.size,g.size,cap - off)) hkl (by omega) hs (.inr (by rw [ha2];simp))
                simpa using this
               refine .inl ⟨_,_,by rw [Sem.run_bind,hrun];rfl,_,hvr,?_⟩
               subst ha2
               rw [Nat.add_mul,<- Nat.add_assoc] at hp
               exact hp
             . obtain ⟨hke,hfe,_,olds,hvo,holds⟩:=src_ok (P:=P) I.drew hel' hx' (Nat.le_refl _)
               rw [List.take_length] at hvo
               rw [hcl] at holds
               have hol:olds.length=len * g.size:=by rw [<- hvo.1,zAl hke,hcl]
               obtain ⟨newCap,rest,h1,h2,h3⟩:=grows (some a) _ _ olds rfl holds (by omega) (by omega) hol
               have hgc:=zF3 (rest:=rest) (L:=cut off (off+len) es++ys) rfl hvo hvnD
               have hll:(cut off (off+len) es++ys).length=len+ys0.length:=by rw [List.length_append,hyl',hcl]
               exact .inl ⟨_,_,by rw [Sem.run_bind,h3];rfl,G.withRw b (v'+1) (w.heap.size,0,g.size,newCap),zFr hgs (by omega),zLa (Post.drewL (zC9 (lo:=0) (hi:=0) (ver:=v'+1) (cap:=newCap) I.drew (Nat.le_refl _) hbn (fun v x hx=>by have:=hvmax v x hx;omega) (zC1 hke hk) (zB9 hfe hf) (by omega) (by rw [h2];exact Nat.le_refl _) hgc (zBm hgb) (fun b' hne=>get_set_other hne) rfl (zCv h b _ Io.nod) ⟨Nat.le_refl _,Nat.zero_le _⟩ (fun T' h1=>⟨zVq hT hto h1,.inl h1⟩) (fun b' T' _ h1=>h1))) (fun j hj _ hfj=>by subst hj;have:=hfj.2.2.2;rw [hgb] at this;cases this)⟩
           . cases hv
      . cases hv
    . cases hv
end
end Go.CI
namespace Go.CI
open Go.RowKit
section
variable {P:Program} {base:Base} {G:Gh} {h:CHeap} {w:World} {id:Nat}
theorem zYv {t u e:TypeId} {g:ElemInfo} {ty:TypeId} {x y v:CVal} {X Y:Value} {ys:List CVal} {h':CHeap} (I:Inv base G h w)
    (hv:(match x with
     | .ref b ver l off len=>match h.get b with
      | some (.row v es)=>if g.size=l && (v=ver && decide (off+len<=es.length)) then some (CVal.int .i64 (min ys.length len:Nat),h.set b (.row ver (setCells es off ((ys.take len).map CVal.bare)))) else none
      | _=>none
     | .nils=>some (.int .i64 0,h)
     | _=>none)=some (v,h'))
    (ht:P.underlying t=some (.slice e))
    (hg:zAt P e=some g) (hx:VR G x X) (hy:VR G y Y) (hel:elems h g.size y=some ys) :
    OutE P base G h id v h' (do pure (.value (<- Builtin.copy_ #[t,u] ty #[X,Y]))) w:=by
 obtain ⟨i,d',z,ok⟩:=zAz hg
 cases x <;> first | (cases hv;done) | skip
 . cases hv;cases hx
   obtain ⟨_,_,hl,news,hvn,hf⟩:=src_ok (P:=P) (n:=0) I hel hy (Nat.zero_le _)
   rw [ok.size] at hf
   refine .inl ⟨.int .i64 0,w,?_,G,.int _ _,.refl I⟩
   simp [Builtin.copy_,zB5 ht,hl,zCe ok.info,hf,goInt]
 . rename_i b ver l off len
   dsimp only at hv
   split at hv
   . rename_i v' es hgb
     split at hv
     . rename_i hc
       simp only [Bool.and_eq_true,decide_eq_true_eq] at hc
       obtain ⟨rfl,rfl,hle⟩:=hc
       cases hv
       obtain ⟨hk0,hf0,hl,news,hvn0,hf⟩:=src_ok (P:=P) (n:=min ys.length len) I hel hy (Nat.min_le_left _ _)
       obtain ⟨hfl,hk,hfl2⟩:=zIs (zHf hk0 (min ys.length len)) (fun e he=>hf0 e (List.mem_of_mem_take he))
       have hvn:VRs G (zAp ((ys.take (min ys.length len)).map CVal.bare)) news:=by rw [hfl];exact hvn0.map _ fun _ _=>VR.strip
       have htk:ys.take (min ys.length len)=ys.take len:=by
        rcases Nat.le_total ys.length len with h1 | h1
        . rw [Nat.min_eq_left h1,List.take_length,List.take_of_length_le h1]
        . rw [Nat.min_eq_right h1]
       rw [htk] at hk hfl2 hvn
       have hnl:((ys.take len).map CVal.bare).length=min ys.length len:=by rw [List.length_map,List.length_take,Nat.min_comm]
       cases hx with
       | ref hw hkl hll hs ha =>
        rename_i ab ao cap a
        have I':=I
        obtain ⟨own,Io⟩:=I
        obtain ⟨hbn,hvmax,hrow⟩:=Io.ents b _ hgb
        obtain ⟨hab,hcapl,hown,hel2⟩:=hrow _ _ _ _ hw
        have hp:=zEr (id:=id) (o:=off) I' hk hfl2 hgb hw (by rw [hnl];have:=Nat.min_le_right ys.length len;omega) hvn
        have hnews:news.length=min ys.length len * g.size:=by rw [<- hvn.1,zAl hk,hnl]
        by_cases h0:cap - off=0
        . have hm0:min ys.length len=0:=by have:=Nat.min_le_right ys.length len;omega
          have hne:news=[]:=List.eq_nil_of_length_eq_zero (by rw [hnews,hm0,Nat.zero_mul])
          subst hne
          rw [setCells_nil] at hp
          refine .inl ⟨.int .i64 (min ys.length len:Nat),w,?_,G,.int _ _,hp⟩
          rw [ok.size] at hf
          simp [Builtin.copy_,zB5 ht,hl,zCe ok.info,hf,goInt,storeCells]
        . have ha2:=ha.resolve_left h0
          subst ha2
          refine .inl ⟨.int .i64 (min ys.length len:Nat),_,?_,G,.int _ _,hp⟩
          have hst:=run_storeCells_cells (P:=P) ab (ao+off * g.size) news 0 w (fun j hj=>by
              rw [Nat.add_zero]
              have h1:(off+min ys.length len) * g.size<=cap * g.size:=Nat.mul_le_mul_right _ (by have:=Nat.min_le_right ys.length len;omega)
              obtain ⟨v,hv⟩:=(hown (off * g.size+j) (by rw [Nat.add_mul] at h1;omega)).2.1
              rw [<- Nat.add_assoc] at hv
              rw [hv];rfl) (fun j hj=>by
              rw [Nat.add_zero]
              have h1:(off+min ys.length len) * g.size<=cap * g.size:=Nat.mul_le_mul_right _ (by have:=Nat.min_le_right ys.length len;omega)
              have:=(hown (off * g.size+j) (by rw [Nat.add_mul] at h1;omega)).2.2
              rw [<- Nat.add_assoc] at this
              exact this) (zEk hvn (zEp hfl2))
          rw [Nat.add_zero] at hst
          rw [ok.size] at hf hst
          rw [ok.size]
          simp [Builtin.copy_,zB5 ht,hl,zCe ok.info,hf,goInt,hst]
     . cases hv
   . cases hv
theorem zIu {t e:TypeId} {g:ElemInfo} {i:TypeInfo} {d:TypeDesc} {z:Value} {kl kc:IntKind} {l c:Int} (ht:P.underlying t=some (.slice e)) (ok:InfoOk P e g i d z) (hb:g.bytes<=4096) (h0:0<=l) (h1:l<=c) (h2:c<=zB7) :
    (Instr.makeSlice t (.int kl l) (.int kc c)).run P w=.ok (.slice (some ⟨w.heap.size,0,none⟩) l.toNat c.toNat) (w.alloc (.cells ((Array.range (c.toNat * g.size)).map fun i=>z.cells[i % z.cells.size]!) e)):=by
 have hm:(zB7:Int)=1073741824:=rfl
 have hby:(i.bytes:Int)<=4096:=by rw [<- ok.bytes];omega
 have hmul:(i.bytes:Int) * c<=4096 * 1073741824:=Int.mul_le_mul hby (by omega) (by omega) (by omega)
 rw [ok.size]
 exact run_make w t e i z ht ok.info ok.zero kl kc l c h0 h1 (by omega) (by omega)
theorem zLz (E:Env) (e:TypeId):zJi E e=0\/zJi E e=e+1:=by unfold zJi;split <;> simp
theorem zTh {s d e:TypeId} {c v:CVal} {z:Value} {h':CHeap} (I:Inv base G h w) (hfr:zCw G h id) (hid:id<h.next) (hs:P.underlying s=some .string) (hd:P.underlying d=some (.slice e)) (he:P.underlying e=some (.int .u8))
    (hv:(if zG2=true then none else match c with | .str s=>some (CVal.ref id 0 1 0 s.length,h.put id (.row 0 (s.map fun b=>.int .u8 b.toNat))) | _=>none)=some (v,h')) (hc:VR G c z):OutE P base G h id v h' (do pure (.value (<- convert s d z))) w:=by
 split at hv
 . cases hv
 rename_i hst
 cases c <;> first | (cases hv;done) | skip
 rename_i l
 cases hv
 obtain ⟨ba,rfl,rfl⟩:=zFc hc
 have hcap:=zGd w ba.size e
 have hlen:(u8s ba.data.toList).length=ba.size:=by unfold u8s;rw [List.length_map,size_eq]
 have hll:ba.data.toList.length=ba.size:=by rw [size_eq]
 have harr:grownCap w ba.size 0 e * 1<=(bytesRow ba (grownCap w ba.size 0 e)).size:=by
  unfold bytesRow;simp;omega
 rw [hll]
 refine .inl ⟨_,_,by rw [Sem.run_bind,run_bytes_of_string w s d e ba hs hd he];rfl,G.withRw id 0 (w.heap.size,0,1,grownCap w ba.size 0 e),zFr (by omega) hcap,?_⟩
 refine Post.drewL (zHb (es:=u8s ba.data.toList) (cap:=grownCap w ba.size 0 e) I.drew (.inr ⟨by simpa using hst,Nat.le_refl _⟩) hid (zEc hfr).1 (zLj _) (zLh _) (by rw [hlen];exact hcap) harr (fun i c hc=>by rw [zJ0] at hc;exact zUk G ba _ i c hc)
  (zE6 _ _ _) (fun b' hne=>zDe hne) rfl (by obtain ⟨_,I⟩:=I;exact zDd I.nod hfr.2.2.2) (.inr ?_) (zK1 (Tn:=0) I.drew hfr (.inl rfl)) (zHo (Tn:=0)))
 intro T' ht
 have hn:h.ty id=some T':=ht
 rw [zOk I hfr] at hn
 cases hn
theorem zV2 {t e:TypeId} {g:ElemInfo} {kl kc:IntKind} {l c:Int} (I:Inv base G h w) (hfr:zCw G h id) (hid:id<h.next) (ht:P.underlying t=some (.slice e)) (hg:zAt P e=some g) (hb:g.bytes<=4096) (h0:0<=l) (h1:l<=c) (h2:c<=zB7) :
    OutE P base G h id (.ref id 0 g.zero.length 0 l.toNat) (h.put id (.row 0 (List.replicate c.toNat (zBk g.agg g.zero)))) (do pure (.value (<- Instr.makeSlice t (.int kl l) (.int kc c)))) w:=by
 obtain ⟨i,d,z,ok⟩:=zAz hg
 rw [ok.len]
 have hk0:AllK g.size (List.replicate c.toNat (zBk g.agg g.zero)):=by
  intro e he;rw [(List.mem_replicate.1 he).2,zBl ok,ok.len]
 have hf0:zBt (List.replicate c.toNat (zBk g.agg g.zero)):=by
  intro e he;rw [(List.mem_replicate.1 he).2,zBl ok];exact ok.flat
 have hz:=zH7 ok G c.toNat
 refine .inl ⟨_,_,by rw [Sem.run_bind,zIu ht ok hb h0 h1 h2];rfl,G.withRw id 0 (w.heap.size,0,g.size,c.toNat),zFr ok.pos (by omega),?_⟩
 exact zC9 I (lo:=0) (hi:=0) (Nat.le_refl _) hid (zEc hfr).1 hk0 hf0 (by rw [List.length_replicate];exact Nat.le_refl _) (by simp) (fun j c hc=>by
  have hj:=(List.getElem?_eq_some_iff.1 hc).1
  rw [hz.1] at hj
  exact ⟨_,by rw [<- Array.getElem?_toList];exact List.getElem?_eq_getElem hj,hz.2 j c _ hc (List.getElem?_eq_getElem hj)⟩)
  (zE6 _ _ _) (fun b' hne=>zDe hne) rfl (by obtain ⟨_,I⟩:=I;exact zDd I.nod hfr.2.2.2) ⟨Nat.le_refl _,Nat.zero_le _⟩ (zK1 (Tn:=0) I hfr (.inl rfl)) (zHo (Tn:=0))
theorem zVh {t e:TypeId} {g:ElemInfo} {kl kc:IntKind} {c:Int} (I:Inv base G h w) (ht:P.underlying t=some (.slice e)) (hg:zAt P e=some g) (hb:g.bytes<=4096) (h0:0<=c) (h2:c<=zB7) :
    OutE P base G h id (.imm .full g.zero.length (List.replicate c.toNat (zBk g.agg g.zero))) h (do pure (.value (<- Instr.makeSlice t (.int kl c) (.int kc c)))) w:=by
 obtain ⟨i,d,z,ok⟩:=zAz hg
 rw [ok.len]
 have hk0:AllK g.size (List.replicate c.toNat (zBk g.agg g.zero)):=by
  intro e he;rw [(List.mem_replicate.1 he).2,zBl ok,ok.len]
 have hf0:zBt (List.replicate c.toNat (zBk g.agg g.zero)):=by
  intro e he;rw [(List.mem_replicate.1 he).2,zBl ok];exact ok.flat
 have hz:=zH7 ok G c.toNat
 obtain ⟨G',hv',hpost⟩:=zIt I (· = id) ((Array.range (c.toNat * g.size)).map fun i=>z.cells[i % z.cells.size]!) e (0,0) g.size c.toNat (List.replicate c.toNat (zBk g.agg g.zero)) .full ok.pos hk0 (by rw [List.length_replicate];exact Nat.le_refl _) (.inr ⟨rfl,by rw [List.length_replicate]⟩) hf0 (fun j c hc=>by
  have hj:=(List.getElem?_eq_some_iff.1 hc).1
  rw [hz.1] at hj
  exact ⟨_,by rw [<- Array.getElem?_toList];exact List.getElem?_eq_getElem hj,hz.2 j c _ hc (List.getElem?_eq_getElem hj)⟩)
 rw [List.length_replicate] at hv'
 exact .inl ⟨_,_,by rw [Sem.run_bind,zIu ht ok hb h0 (Int.le_refl _) h2];rfl,G',hv',hpost⟩
def COp.isCall:COp->Bool
 | .call _ _ _=>true
 | .callv _ _ _=>true
 | _=>false
theorem simE {E:Env} {rg i:Nat} {dsts:List (Option Tmp)} {earlier later:List Oper} {o:Oper} {c:COp} {cf:Nat->List CVal->CHeap->Option (CVal × CHeap)} {ev:COpnd->CVal} {ρ:Operand->Value} {v:CVal} {h':CHeap} (hE:E.P=P) (hc:cop0 E rg i dsts earlier later o=some c) (hcls:c.cls=.e) (hnc:c.isCall=false)
    (hr:ORel G E dsts ev ρ) (hv:zBq cf ev h id c=some (v,h')) (I:Inv base G h w) (hid:id<h.next) (hf:zCw G h id):OutE P base G h id v h' (execOp ρ o) w:=by
 obtain ⟨dst,op,type,pos,after,guard⟩:=o
 subst hE
 cases op
 case slice t x lo hi mx =>
  exfalso
  cases mx with
  | some m=>simp [cop0] at hc
  | none =>
   simp only [cop0] at hc
   split at hc
   . cases hc;simp [COp.cls] at hcls
   . split at hc
     . cases hc;simp [COp.cls] at hcls
     . cases hc
   . cases hc
 all_goals simp only [cop0] at hc
 all_goals try (cases hc;done)
 case alloc t =>
  split at hc
  . rename_i f d hfi
    split at hc
    . split at hc
      . cases hc;simp [COp.cls] at hcls
      . cases hc
    . cases hc
      simp only [zBq] at hv
      split at hv
      . rename_i hbm;cases hv;exact zW4 I hf hid hfi hbm
      . cases hv
  . cases hc
 case box t x =>
  obtain ⟨y,hy,rfl⟩:=Option.map_eq_some_iff.1 hc
  simp only [zBq] at hv
  split at hv
  . rename_i hw
    simp only [Bool.and_eq_true,decide_eq_true_eq] at hw
    cases hv;exact zau I hf hid hw.1 hw.2 (hr x y hy)
  . cases hv
 case buildSlice t len parts =>
  split at hc
  . rename_i e ps hu hps
    split at hc
    . rename_i g hg
      split at hc
      . rename_i hlen
        cases hc
        cases hm:zEb E rg i with
        | imm=>rw [hm] at hcls;simp [COp.cls] at hcls
        | ref =>
         rw [hm] at hv
         simp only [zBq] at hv
         split at hv
         . rename_i es hes;cases hv;exact zTd I hf hid hu hg hlen (hr.parts _ _ hps) hes
         . cases hv
      . cases hc
    . cases hc
  . cases hc
 case store t a x =>
  have key:∀ f b y,zAt E.P t=some f->zDb E dsts a=some b->zDb E dsts x=some y->zBq cf ev h id (.store f.size b y)=some (v,h')->OutE E.P base G h id v h' (do Instr.storeAt t (ρ a) (ρ x);pure .skip) w:=by
   intro f b y hfi hb hy hv
   simp only [zBq] at hv
   split at hv
   . rename_i hcond
     simp only [Bool.and_eq_true,decide_eq_true_eq] at hcond
     obtain ⟨hw,hk⟩:=hcond
     have h1:=hr _ _ hb
     have h2:=hr _ _ hy
     split at hv
     . rename_i b' sz o' hev
       rw [hev] at h1
       split at hv
       . rename_i cs hgb
         split at hv
         . rename_i hle;cases hv;exact zN7 I hfi hw hk h1 h2 hgb hle
         . cases hv
       . cases hv
     . rename_i b' ver i' o' hev
       rw [hev] at h1
       split at hv
       . rename_i v' es hgb
         split at hv
         . rename_i hcond2
           simp only [Bool.and_eq_true,decide_eq_true_eq] at hcond2
           obtain ⟨⟨rfl,hi⟩,hle⟩:=hcond2
           cases hv
           exact zLp I hfi hw hk h1 h2 hgb hi hle
         . cases hv
       . cases hv
     . cases hv
   . cases hv
  have keyI:∀ f b y,zAt E.P t=some f->zDb E dsts a=some b->zDb E dsts x=some y->zBq cf ev h id (.init f.size b y)=some (v,h')->OutE E.P base G h id v h' (do Instr.storeAt t (ρ a) (ρ x);pure .skip) w:=by
   intro f b y hfi hb hy hv
   simp only [zBq] at hv
   split at hv
   . rename_i hcond
     simp only [Bool.and_eq_true,decide_eq_true_eq] at hcond
     obtain ⟨hw,hk⟩:=hcond
     have h1:=hr _ _ hb
     have h2:=hr _ _ hy
     split at hv
     . rename_i b' sz o' hev
       rw [hev] at h1
       split at hv
       . rename_i hcond2
         simp only [Bool.and_eq_true,decide_eq_true_eq] at hcond2
         obtain ⟨hsd,rfl⟩:=hcond2
         split at hv
         . rename_i hgb;cases hv;exact zYu I hfi hw hk hsd h1 h2 hgb
         . cases hv
       . cases hv
     . cases hv
   . cases hv
  split at hc
  . rename_i f b y hfi hb hy
    split at hc
    . split at hc
      . cases hc;exact keyI f b y hfi hb hy hv
      . cases hc;exact key f b y hfi hb hy hv
    . cases hc;exact key f b y hfi hb hy hv
  . cases hc
 case convert s d x =>
  split at hc
  . cases hc;simp [COp.cls] at hcls
  . cases hc;simp [COp.cls] at hcls
  . rename_i e y hs hd hy
    split at hc
    . rename_i he
      cases hc
      cases hm:zEb E rg i with
      | imm=>rw [hm] at hcls;simp [COp.cls] at hcls
      | ref =>
       rw [hm] at hv
       exact zTh I hf hid hs hd he hv (hr _ _ hy)
    . cases hc
  . split at hc
    . cases hc;simp [COp.cls] at hcls
    . cases hc
  . cases hc
 case makeSlice t l cp =>
  split at hc
  . rename_i e ly cy hu hl hcp
    split at hc
    . rename_i g hg
      split at hc
      . rename_i hsm
        cases hc
        have hb:g.bytes<=4096:=by simpa [zCs] using hsm
        have h1:=hr _ _ hl
        have h2:=hr _ _ hcp
        show OutE E.P base G h id v h' (do pure (.value (<- Instr.makeSlice t (ρ l) (ρ cp)))) w
        cases hm:zEb E rg i with
        | imm =>
         rw [hm] at hv
         simp only [zBq] at hv
         split at hv
         . rename_i k1 n1 k2 n2 e1 e2
           split at hv
           . rename_i hcond
             simp only [Bool.and_eq_true,decide_eq_true_eq] at hcond
             obtain ⟨h0,rfl,h3⟩:=hcond
             cases hv
             rw [e1] at h1
             rw [e2] at h2
             generalize ρ l=X at h1 ⊢
             generalize ρ cp=Y at h2 ⊢
             cases h1;cases h2
             exact zVh I hu hg hb h0 h3
           . cases hv
         . cases hv
        | ref =>
         rw [hm] at hv
         simp only [zBq] at hv
         split at hv
         . rename_i k1 n1 k2 n2 e1 e2
           split at hv
           . rename_i hcond
             simp only [Bool.and_eq_true,decide_eq_true_eq] at hcond
             obtain ⟨h0,h3,h4⟩:=hcond
             cases hv
             rw [e1] at h1
             rw [e2] at h2
             generalize ρ l=X at h1 ⊢
             generalize ρ cp=Y at h2 ⊢
             cases h1;cases h2
             exact zV2 I hf hid hu hg hb h0 h3 h4
           . cases hv
         . cases hv
      . cases hc
    . cases hc
  . cases hc
 case call cl =>
  obtain ⟨callee,args,argTypes⟩:=cl
  simp only at hc
  split at hc
  . obtain ⟨y,hy,rfl⟩:=Option.map_eq_some_iff.1 hc;simp [COp.isCall] at hnc
  . split at hc
    . cases hc;simp [COp.isCall] at hnc
    . cases hc
  . split at hc
    . split at hc
      . obtain ⟨y,hy,rfl⟩:=Option.map_eq_some_iff.1 hc;simp [COp.cls] at hcls
      . obtain ⟨y,hy,rfl⟩:=Option.map_eq_some_iff.1 hc;simp [COp.cls] at hcls
      . cases hc
    . cases hc
  . split at hc
    . rename_i t u x y hts hxs
      have e1:argTypes=#[t,u]:=by apply Array.ext';simpa using hts
      have e2:args=#[x,y]:=by apply Array.ext';simpa using hxs
      subst e1 e2
      have key:∀ e d g a b,E.P.underlying t=some (.slice e)->E.P.underlying u=some d->(d=.string\/∃ e',d=.slice e')->zAt E.P e=some g->zCs g.bytes=true->zDb E dsts x=some a->zDb E dsts y=some b ->
          zBq cf ev h id (.append (zEb E rg i) (zJi E e) g.size a b)=some (v,h')->OutE E.P base G h id v h' (do pure (.value (<- Builtin.append_ #[t,u] type #[ρ x,ρ y]))) w:=by
       intro e d g a b ht hu hd hg hsm ha hb hv
       simp only [zBq] at hv
       split at hv
       . rename_i ys hys
         exact zO4 I hf hid ht hu hd hg (zLz E e) (by simpa [zCs] using hsm) (hr _ _ ha) (hr _ _ hb) hys hv
       . cases hv
      split at hc
      . rename_i e e' a b ht hu ha hb
        split at hc
        . rename_i g hg
          split at hc
          . rename_i hsm
            cases hc
            have:=key e _ g a b ht hu (.inr ⟨e',rfl⟩) hg hsm ha hb hv
            simpa [execOp,resolve,invoke,builtin] using this
          . cases hc
        . cases hc
      . rename_i e a b ht hu ha hb
        split at hc
        . rename_i g hg
          split at hc
          . rename_i hsm
            cases hc
            have:=key e _ g a b ht hu (.inl rfl) hg hsm ha hb hv
            simpa [execOp,resolve,invoke,builtin] using this
          . cases hc
        . cases hc
      . cases hc
    . cases hc
  . split at hc
    . rename_i t u x y hts hxs
      have e1:argTypes=#[t,u]:=by apply Array.ext';simpa using hts
      have e2:args=#[x,y]:=by apply Array.ext';simpa using hxs
      subst e1 e2
      split at hc
      . rename_i e a b ht ha hb
        split at hc
        . rename_i g hg
          cases hc
          simp only [zBq] at hv
          have h1:=hr _ _ ha
          have h2:=hr _ _ hb
          have:OutE E.P base G h id v h' (do pure (.value (<- Builtin.copy_ #[t,u] type #[ρ x,ρ y]))) w:=by
           cases hel:elems h g.size (ev b) with
           | none=>rw [hel] at hv;cases hv
           | some ys =>
            rw [hel] at hv
            refine zYv I ?_ ht hg h1 h2 hel
            cases hea:ev a <;> simp only [hea] at hv ⊢ <;> first | exact hv | (cases hv;done)
          simpa [execOp,resolve,invoke,builtin] using this
        . cases hc
      . cases hc
    . cases hc
  . split at hc
    . split at hc
      . cases hc;simp [COp.cls] at hcls
      . cases hc
    . cases hc
  . split at hc
    . split at hc
      . cases hc;simp [COp.cls] at hcls
      . cases hc
    . cases hc
  . cases hc
 all_goals
  exfalso
  revert hcls
  first
   | (obtain ⟨y,_,rfl⟩:=Option.map_eq_some_iff.1 hc;simp [COp.cls];done)
   | (repeat' (split at hc))
 all_goals first
  | (cases hc;done)
  | (cases hc;simp [COp.cls];done)
  | (obtain ⟨y,_,rfl⟩:=Option.map_eq_some_iff.1 hc;simp [COp.cls];done)
end
end Go.CI
namespace Go.CI
open Go.RowKit
def COper.w (c:COper):Bool:=match c.op.cls with
 | .e=>true
 | .d=>true
 | _=>false
def zG7 (cf:Nat->List CVal->CHeap->Option (CVal × CHeap)) (ev:COpnd->CVal) (id:Nat) (c:COper) (wanted:Bool) (v:CVal) (h:CHeap) (ds:List (Nat × List CVal)) (h':CHeap) (ds':List (Nat × List CVal)):Prop :=
 if wanted then match c.op.cls with
  | .p=>zGl ev id c.op=some v/\v.isUndef=false/\h'=h/\ds'=ds
  | .l=>zFi ev h c.op=some v/\v.isUndef=false/\h'=h/\ds'=ds
  | .e=>zBq cf ev h id c.op=some (v,h')/\(v.isUndef=true->c.op.isStore=true)/\ds'=ds
  | .d=>∃ x args f first cap,c.op=.defer x args/\ev x=.fn (.func f) first cap/\v=.undef/\h'=h/\ds'=(f,first++(args.map ev++cap))::ds
 else v=.undef/\h'=h/\ds'=ds
structure Stepped (cf:Nat->List CVal->CHeap->Option (CVal × CHeap)) (tm:List CVal) (id:Nat) (c:COper) (s s':RS) (v:CVal):Prop where
 vals:s'.vals=v::s.vals
 hs:s'.hs=if c.w then s.h::s.hs else s.hs
 tr:zG7 cf (zAq tm s.vals) id c (zC4 s.vals c.guard) v s.h s.defs s'.h s'.defs
theorem zOz {cf:Nat->List CVal->CHeap->Option (CVal × CHeap)} {tm:List CVal} {id:Nat} {c:COper} {s s':RS} (h:zBo cf tm id c s=some s'):∃ v,Stepped cf tm id c s s' v:=by
 unfold zBo at h
 split at h
 . rename_i hw
   split at h
   . rename_i hcl
     split at h
     . rename_i v hv
       split at h
       . cases h
       . rename_i hu
         cases h
         exact ⟨v,rfl,by simp [COper.w,hcl],by simp [zG7,hw,hcl,hv];simpa using hu⟩
     . cases h
   . rename_i hcl
     split at h
     . rename_i v hv
       split at h
       . cases h
       . rename_i hu
         cases h
         exact ⟨v,rfl,by simp [COper.w,hcl],by simp [zG7,hw,hcl,hv];simpa using hu⟩
     . cases h
   . rename_i hcl
     split at h
     . rename_i v h1 hv
       split at h
       . cases h
       . rename_i hu
         cases h
         exact ⟨v,rfl,by simp [COper.w,hcl],by simp [zG7,hw,hcl,hv];simpa using hu⟩
     . cases h
   . rename_i hcl
     split at h
     . rename_i x args hop
       split at h
       . rename_i f first cap hx
         cases h
         refine ⟨.undef,rfl,by simp [COper.w,hcl],?_⟩
         simp only [zG7,hw,hcl,if_true]
         exact ⟨x,args,f,first,cap,hop,hx,by simp⟩
       . cases h
     . cases h
 . rename_i hw
   cases h
   refine ⟨.undef,rfl,?_,by simp [zG7,hw]⟩
   unfold COper.w
   generalize c.op.cls=q
   cases q <;> simp
theorem zOo {cf:Nat->List CVal->CHeap->Option (CVal × CHeap)} {tm:List CVal}:∀ (cs:List COper) (id:Nat) (s s':RS),zB8 cf tm id cs s=some s' ->
    ∃ (tr:Nat->RS) (r:Nat->CVal),tr 0=s/\tr cs.length=s'/\∀ i c,cs[i]? = some c->Stepped cf tm (id+i) c (tr i) (tr (i+1)) (r i)
 | [],id,s,s',h=>by
  simp only [zB8] at h;cases h
  exact ⟨fun _=>s,fun _=>.undef,rfl,rfl,fun i c h=>by simp at h⟩
 | c::cs,id,s,s',h=>by
  simp only [zB8] at h
  split at h
  . rename_i s1 h1
    obtain ⟨v,hv⟩:=zOz h1
    obtain ⟨tr,r,h0,hn,hst⟩:=zOo cs (id+1) s1 s' h
    refine ⟨fun i=>match i with | 0=>s | i+1=>tr i,fun i=>match i with | 0=>v | i+1=>r i,rfl,hn,fun i c' hc=>?_⟩
    cases i with
    | zero=>simp at hc;subst hc;simp only [h0];exact hv
    | succ i =>
     simp at hc
     have:=hst i c' hc
     rw [show id+1+i=id+(i+1) by omega] at this
     exact this
  . cases h
structure Run (cf:Nat->List CVal->CHeap->Option (CVal × CHeap)) (tm:List CVal) (id:Nat) (cs:List COper) (tr:Nat->RS) (r:Nat->CVal):Prop where
 v0:(tr 0).vals=[]
 hs0:(tr 0).hs=[]
 st:∀ i c,cs[i]? = some c->Stepped cf tm (id+i) c (tr i) (tr (i+1)) (r i)
section
variable {cf:Nat->List CVal->CHeap->Option (CVal × CHeap)} {tm:List CVal} {id:Nat} {cs:List COper} {tr:Nat->RS} {r:Nat->CVal}
theorem Run.valsS (R:Run cf tm id cs tr r) {i:Nat} (hi:i<cs.length):(tr (i+1)).vals=r i::(tr i).vals :=
 (R.st i _ (List.getElem?_eq_getElem hi)).vals
theorem Run.nth (R:Run cf tm id cs tr r):∀ (i k:Nat),i<=cs.length->k<i->nth (tr i).vals k=r (i - 1 - k)
 | 0,k,_,h=>by omega
 | i+1,k,hi,hk=>by
  rw [R.valsS (by omega)]
  cases k with
  | zero=>simp [CI.nth]
  | succ k =>
   simp only [CI.nth]
   rw [R.nth i k (by omega) (by omega)]
   congr 1;omega
theorem Run.len (R:Run cf tm id cs tr r):∀ (i:Nat),i<=cs.length->(tr i).vals.length=i
 | 0,_=>by rw [R.v0];rfl
 | i+1,hi=>by rw [R.valsS (by omega),List.length_cons,R.len i (by omega)]
theorem Run.dropV (R:Run cf tm id cs tr r):∀ (k i:Nat),i+k=cs.length->(tr cs.length).vals.drop k=(tr i).vals
 | 0,i,h=>by simp at h;subst h;rfl
 | k+1,i,h=>by
  have:=R.dropV k (i+1) (by omega)
  rw [R.valsS (by omega)] at this
  rw [Nat.add_comm k 1,Nat.add_comm 1 k,<- List.drop_drop,this]
  rfl
theorem zE9 (cs:List COper) (i:Nat):zJs cs i=cs[i]?:=by
 induction cs generalizing i with
 | nil=>simp [zJs]
 | cons a r ih=>cases i with
  | zero=>rfl
  | succ i=>simp [zJs,ih]
theorem zKb {i:Nat} {c:COper} (h:cs[i]? = some c):isW cs i=c.w:=by
 unfold isW COper.w
 rw [zE9,h]
 rfl
theorem zO0 {i:Nat} (h:isW cs i=true):i<cs.length:=by
 unfold isW at h
 rw [zE9] at h
 rcases Nat.lt_or_ge i cs.length with h1 | h1
 . exact h1
 . rw [List.getElem?_eq_none h1] at h;cases h
def cnt (cs:List COper) (m:Nat):Nat:=((List.range m).filter (isW cs)).length
theorem zOj (m:Nat):cnt cs (m+1)=cnt cs m+if isW cs m then 1 else 0:=by
 unfold cnt
 rw [List.range_succ,List.filter_append,List.length_append]
 congr 1
 by_cases h:isW cs m=true <;> simp [h]
theorem Run.hsS (R:Run cf tm id cs tr r) {i:Nat} (hi:i<cs.length):(tr (i+1)).hs=if isW cs i then (tr i).h::(tr i).hs else (tr i).hs:=by
 have:=(R.st i _ (List.getElem?_eq_getElem hi)).hs
 rw [zKb (List.getElem?_eq_getElem hi)];exact this
theorem Run.hsLen (R:Run cf tm id cs tr r):∀ (m:Nat),m<=cs.length->(tr m).hs.length=cnt cs m
 | 0,_=>by rw [R.hs0];rfl
 | m+1,h=>by
  rw [R.hsS (by omega),zOj]
  by_cases hw:isW cs m=true <;> simp [hw,R.hsLen m (by omega)]
theorem Run.quiet (R:Run cf tm id cs tr r) {i:Nat} (hi:i<cs.length) (hw:isW cs i=false):(tr (i+1)).h=(tr i).h/\(tr (i+1)).defs=(tr i).defs:=by
 have hc:=List.getElem?_eq_getElem hi
 have:=(R.st i _ hc).tr
 rw [zKb hc] at hw
 unfold zG7 at this
 split at this
 . unfold COper.w at hw
   split at this
   . exact ⟨this.2.2.1,this.2.2.2⟩
   . exact ⟨this.2.2.1,this.2.2.2⟩
   . rename_i h;rw [h] at hw;cases hw
   . rename_i h;rw [h] at hw;cases hw
 . exact ⟨this.2.1,this.2.2⟩
theorem Run.quietTo (R:Run cf tm id cs tr r) {i:Nat}:∀ (k:Nat),i+k<=cs.length->(∀ j,i<=j->j<i+k->isW cs j=false)->(tr (i+k)).h=(tr i).h/\(tr (i+k)).defs=(tr i).defs
 | 0,_,_=>⟨rfl,rfl⟩
 | k+1,h,hq=>by
  obtain ⟨h1,h2⟩:=R.quietTo k (by omega) (fun j a b=>hq j a (by omega))
  obtain ⟨h3,h4⟩:=R.quiet (i:=i+k) (by omega) (hq _ (by omega) (by omega))
  exact ⟨h3.trans h1,h4.trans h2⟩
theorem Run.same (R:Run cf tm id cs tr r) {i j:Nat} (hij:i<=j) (hj:j<=cs.length) (hq:∀ k,i<=k->k<j->isW cs k=false):(tr j).h=(tr i).h/\(tr j).defs=(tr i).defs:=by
 have:=R.quietTo (i:=i) (j - i) (by omega) (fun k a b=>hq k a (by omega))
 rwa [show i+(j - i)=j by omega] at this
theorem Run.heaps (R:Run cf tm id cs tr r):∀ (k m:Nat),m+k=cs.length->∃ rest,((tr cs.length).h::(tr cs.length).hs).reverse=(tr m).hs.reverse++rest/\rest[0]? = some (tr m).h
 | 0,m,h=>by simp at h;subst h;exact ⟨[(tr cs.length).h],by simp,rfl⟩
 | k+1,m,h=>by
  obtain ⟨rest,h1,h2⟩:=R.heaps k (m+1) (by omega)
  have hm:m<cs.length:=by omega
  have hs:=R.hsS hm
  by_cases hw:isW cs m=true
  . rw [hw,if_pos rfl] at hs
    rw [hs,List.reverse_cons (a:=(tr m).h),List.append_assoc] at h1
    exact ⟨_,h1,rfl⟩
  . have hw':isW cs m=false:=by simpa using hw
    rw [hw',if_neg (by simp)] at hs
    rw [hs] at h1
    exact ⟨rest,h1,by rw [h2,(R.quiet hm hw').1]⟩
theorem Run.heapAt (R:Run cf tm id cs tr r) {m:Nat} (hm:m<=cs.length):((tr cs.length).h::(tr cs.length).hs).reverse[cnt cs m]? = some (tr m).h:=by
 obtain ⟨rest,h1,h2⟩:=R.heaps (cs.length - m) m (by omega)
 rw [h1,<- R.hsLen m hm,List.getElem?_append_right (by simp)]
 simpa using h2
mutual
theorem zH9:∀ (a b:CVal),a.beq b=true->a=b
 | a,b,h=>by
  cases a <;> cases b <;> simp only [CVal.beq,Bool.and_eq_true,decide_eq_true_eq,beq_iff_eq] at h <;> first
   | (cases h;done)
   | rfl
   | (simp_all;done)
   | skip
  . rw [zD9 _ _ h.1,h.2]
  . rw [h.1.1,h.1.2,zD9 _ _ h.2]
  . rw [h.1.1,zD9 _ _ h.1.2,zD9 _ _ h.2]
  . rw [h.1,zH9 _ _ h.2]
  . rw [zD9 _ _ h]
  . rw [zD9 _ _ h]
theorem zD9:∀ (a b:List CVal),beqs a b=true->a=b
 | [],[],_=>rfl
 | [],_::_,h=>by simp [beqs] at h
 | _::_,[],h=>by simp [beqs] at h
 | a::x,b::y,h=>by
  simp only [beqs,Bool.and_eq_true] at h
  rw [zH9 a b h.1,zD9 x y h.2]
end
theorem zK3 {ev:COpnd->CVal} {op:COp} {v:CVal}:∀ {l:List CHeap} {h:CHeap},sameAt ev op v l=true->h ∈ l->zFi ev h op=some v
 | [],_,_,hm=>by simp at hm
 | a::l,h,hs,hm=>by
  simp only [sameAt,Bool.and_eq_true] at hs
  rcases List.mem_cons.1 hm with rfl | hm
  . have:=hs.1
    split at this
    . rename_i u hu;rw [hu,zH9 _ _ this]
    . cases this
  . exact zK3 hs.2 hm
theorem zJ4 (cf:Nat->List CVal->CHeap->Option (CVal × CHeap)) (ev:COpnd->CVal) (id k:Nat) (a x:COpnd):∃ f:CObj->Option CObj,∀ h:CHeap,zBq cf ev h id (.store k a x) =
    match (ev a).block with
    | some b=>match h.get b with
     | some o=>(f o).map fun o'=>(.undef,h.set b o')
     | none=>none
    | none=>none:=by
 by_cases hc:((ev x).whole && decide ((ev x).cells.length=k))=true
 . cases ha:ev a with
   | ptr b s o =>
    refine ⟨fun ob=>match ob with | .cells cs=>if o+k<=cs.length then some (.cells (setCells cs o (ev x).cells)) else none | _=>none,fun h=>?_⟩
    simp only [zBq,ha,hc,if_true,CVal.block]
    cases h.get b with
    | none=>rfl
    | some ob=>cases ob <;> simp only <;> (try rfl);split <;> rfl
   | eptr b ver i o =>
    refine ⟨fun ob=>match ob with | .row v es=>if v=ver && decide (i<es.length) && decide (o+k<=(CI.nth es i).cells.length) then some (.row ver (zBw es i (zHr (CI.nth es i) o (ev x).bare.cells))) else none | _=>none,fun h=>?_⟩
    simp only [zBq,ha,hc,if_true,CVal.block]
    cases h.get b with
    | none=>rfl
    | some ob=>cases ob <;> simp only <;> (try rfl);split <;> rfl
   | _=>exact ⟨fun _=>none,fun h=>by simp [zBq,ha,hc,CVal.block]⟩
 . refine ⟨fun _=>none,fun h=>?_⟩
   simp only [zBq,if_neg hc,Option.map_none]
   cases (ev a).block with
   | none=>rfl
   | some b=>simp only;cases h.get b <;> rfl
theorem zEw (l:List (Nat × CObj)) {a b:Nat} (x y:CObj) (h:a≠b):zA2 (zA2 l a x) b y=zA2 (zA2 l b y) a x:=by
 induction l with
 | nil=>rfl
 | cons p r ih =>
  obtain ⟨i,q⟩:=p
  by_cases h1:i=a
  . subst h1
    simp [zA2,h]
  . by_cases h2:i=b
    . subst h2
      simp [zA2,h1]
    . simp [zA2,h1,h2,ih]
theorem zOx {eva evb:COpnd->CVal} {ida idb ka kb:Nat} {a x b y:COpnd} {va vb:CVal} {h h1 h2:CHeap} {A B:Nat} (hA:(eva a).block=some A) (hB:(evb b).block=some B) (hne:A≠B)
    (ha:zBq cf eva h ida (.store ka a x)=some (va,h1)) (hb:zBq cf evb h1 idb (.store kb b y)=some (vb,h2)) :
    ∃ h',zBq cf evb h idb (.store kb b y)=some (vb,h')/\zBq cf eva h' ida (.store ka a x)=some (va,h2):=by
 obtain ⟨f,hf⟩:=zJ4 cf eva ida ka a x
 obtain ⟨g,hg⟩:=zJ4 cf evb idb kb b y
 rw [hf,hA] at ha
 rw [hg,hB] at hb
 simp only at ha hb
 cases hoa:h.get A with
 | none=>rw [hoa] at ha;cases ha
 | some oa =>
  rw [hoa] at ha
  simp only at ha
  obtain ⟨oa',hfa,he⟩:=Option.map_eq_some_iff.1 ha
  cases he
  rw [get_set_other (Ne.symm hne)] at hb
  cases hob:h.get B with
  | none=>rw [hob] at hb;cases hb
  | some ob =>
   rw [hob] at hb
   simp only at hb
   obtain ⟨ob',hgb,he⟩:=Option.map_eq_some_iff.1 hb
   cases he
   refine ⟨h.set B ob',by rw [hg,hB];simp [hob,hgb],?_⟩
   rw [hf,hA]
   simp only
   rw [get_set_other hne,hoa]
   simp only [hfa,Option.map_some,Option.some.injEq,Prod.mk.injEq,true_and]
   simp only [CHeap.set,CHeap.mk.injEq,and_true]
   exact zEw _ _ _ (Ne.symm hne)
end
end Go.CI
namespace Go.CI
open Go.RowKit
section
variable {cf:Nat->List CVal->CHeap->Option (CVal × CHeap)} {tm:List CVal} {id:Nat} {cs:List COper} {tr:Nat->RS} {r:Nat->CVal}
def zIn (cf:Nat->List CVal->CHeap->Option (CVal × CHeap)) (tm:List CVal) (id:Nat) (cs:List COper) (tr:Nat->RS) (r:Nat->CVal) (i:Nat) (h:CHeap) (ds:List (Nat × List CVal)) (h':CHeap) (ds':List (Nat × List CVal)):Prop :=
 ∀ c,cs[i]? = some c->zG7 cf (zAq tm (tr i).vals) (id+i) c (zC4 (tr i).vals c.guard) (r i) h ds h' ds'
def zKp (cf:Nat->List CVal->CHeap->Option (CVal × CHeap)) (tm:List CVal) (id:Nat) (cs:List COper) (tr:Nat->RS) (r:Nat->CVal) (sw:List (Nat × Nat)) (S:Nat->Bool) (h:CHeap) (ds:List (Nat × List CVal)):Prop :=
 (∃ m,m<=cs.length/\(∀ j,isW cs j=true->(S j=true ↔ j<m))/\h=(tr m).h/\ds=(tr m).defs) \/
 ∃ a b,sw=[(a,b)]/\(∀ j,isW cs j=true->(S j=true ↔ j<a\/j=b))/\zIn cf tm id cs tr r a h ds (tr (b+1)).h (tr (b+1)).defs
structure Bound (cf:Nat->List CVal->CHeap->Option (CVal × CHeap)) (tm:List CVal) (id:Nat) (cs:List COper) (tr:Nat->RS) (r:Nat->CVal) (sw:List (Nat × Nat)) (Bef:Nat->Nat->Prop):Prop where
 chain:∀ i j,isW cs i=true->isW cs j=true->i<j->Bef i j\/(i,j) ∈ sw
 swap:sw=[]\/∃ a b,sw=[(a,b)]/\a<b/\isW cs a=true/\isW cs b=true/\(∀ j,a<j->j<b->isW cs j=false) /\
  (∀ i,isR cs i=true->(Bef a i/\Bef b i)\/(Bef i a/\Bef i b)) /\
  ∃ hx,zIn cf tm id cs tr r b (tr a).h (tr a).defs hx (tr a).defs/\zIn cf tm id cs tr r a hx (tr a).defs (tr (b+1)).h (tr (b+1)).defs
 read:∀ i c,cs[i]? = some c->c.op.cls=.l->zC4 (tr i).vals c.guard=true->∀ m,m<=cs.length->(∀ j,isW cs j=true->Bef j i->j<m)->(∀ j,isW cs j=true->j<m->¬ Bef i j) ->
  zFi (zAq tm (tr i).vals) (tr m).h c.op=some (r i)
theorem zM3 {sw:List (Nat × Nat)} {Bef:Nat->Nat->Prop} (R:Run cf tm id cs tr r) (B:Bound cf tm id cs tr r sw Bef) {S:Nat->Bool} {h:CHeap} {ds:List (Nat × List CVal)} {i:Nat} (hi:i<cs.length)
    (hS:S i=false) (hpre:∀ j,Bef j i->S j=true) (hcl0:∀ j k,S k=true->Bef j k->S j=true) (H:zKp cf tm id cs tr r sw S h ds) :
    ∃ h' ds',zIn cf tm id cs tr r i h ds h' ds'/\zKp cf tm id cs tr r sw (fun j=>S j || j == i) h' ds':=by
 have hc:=List.getElem?_eq_getElem hi
 generalize cs[i]=c at hc
 have hst:=(R.st i c hc).tr
 have hone:∀ {h' ds'},zG7 cf (zAq tm (tr i).vals) (id+i) c (zC4 (tr i).vals c.guard) (r i) h ds h' ds'->zIn cf tm id cs tr r i h ds h' ds':=fun ht c' hc'=>by rw [hc] at hc';cases hc';exact ht
 by_cases hw:isW cs i=true
 . rcases H with ⟨m,hm,hsm,rfl,rfl⟩ | ⟨a,b,hsw,hsm,hta⟩
   . have hmi:m<=i:=by
      rcases Nat.lt_or_ge i m with h1 | h1
      . rw [(hsm i hw).2 h1] at hS;cases hS
      . exact h1
     by_cases hmid:∃ j,isW cs j=true/\m<=j/\j<i
     . obtain ⟨j,hj,hmj,hji⟩:=hmid
       have hnS:S j≠true:=fun h1=>by have:=(hsm j hj).1 h1;omega
       have hsw:∀ k,isW cs k=true->m<=k->k<i->(k,i) ∈ sw:=fun k hk hmk hki=>(B.chain k i hk hw hki).resolve_left (fun hb=>by have:=(hsm k hk).1 (hpre k hb);omega)
       rcases B.swap with h0 | ⟨a,b,h0,hab,hwa,hwb,hnone,hrd,hx,h1,h2⟩
       . have:=hsw j hj hmj hji;rw [h0] at this;cases this
       . have hjj:=hsw j hj hmj hji
         rw [h0,List.mem_singleton] at hjj
         cases hjj
         have hsame:=R.same (i:=m) (j:=j) hmj (by omega) (fun k h3 h4=>by
          rcases Bool.eq_false_or_eq_true (isW cs k) with h5 | h5
          . have:=hsw k h5 h3 (by omega)
            rw [h0,List.mem_singleton] at this
            cases this;omega
          . exact h5)
         rw [hsame.1,hsame.2] at h1
         refine ⟨hx,(tr m).defs,h1,.inr ⟨j,i,h0,fun k hk=>?_,by rw [<- hsame.2];exact h2⟩⟩
         simp only [Bool.or_eq_true,beq_iff_eq]
         rw [hsm k hk]
         constructor
         . rintro (h3 | h3)
           . exact .inl (by omega)
           . exact .inr h3
         . rintro (h3 | h3)
           . left
             rcases Nat.lt_or_ge k m with h4 | h4
             . exact h4
             . have:=hsw k hk h4 (by omega)
               rw [h0,List.mem_singleton] at this
               cases this;omega
           . exact .inr h3
     . have hsame:=R.same (i:=m) (j:=i) hmi (by omega) (fun k h3 h4=>by
        rcases Bool.eq_false_or_eq_true (isW cs k) with h5 | h5
        . exact absurd ⟨k,h5,h3,h4⟩ hmid
        . exact h5)
       refine ⟨(tr (i+1)).h,(tr (i+1)).defs,hone (by rw [<- hsame.1,<- hsame.2];exact hst),.inl ⟨i+1,hi,fun k hk=>?_,rfl,rfl⟩⟩
       simp only [Bool.or_eq_true,beq_iff_eq]
       rw [hsm k hk]
       constructor
       . rintro (h3 | h3) <;> omega
       . intro h3
         rcases Nat.lt_or_ge k m with h4 | h4
         . exact .inl h4
         . right
           rcases Nat.lt_or_ge k i with h5 | h5
           . exact absurd ⟨k,hk,h4,h5⟩ hmid
           . omega
   . rcases B.swap with h0 | ⟨a',b',h0,hab,hwa,hwb,hnone,hrd,hx,h1,h2⟩
     . rw [hsw] at h0;cases h0
     . rw [hsw] at h0
       cases h0
       have hia:i=a:=by
        rcases Nat.lt_trichotomy i a with h3 | h3 | h3
        . rw [(hsm i hw).2 (.inl h3)] at hS;cases hS
        . exact h3
        . have hnb:i≠b:=fun e=>by rw [(hsm i hw).2 (.inr e)] at hS;cases hS
          rcases B.chain a i hwa hw h3 with h4 | h4
          . have:=(hsm a hwa).1 (hpre a h4);omega
          . rw [hsw,List.mem_singleton] at h4;cases h4;exact absurd rfl hnb
       subst hia
       refine ⟨_,_,hta,.inl ⟨b+1,zO0 hwb,fun k hk=>?_,rfl,rfl⟩⟩
       simp only [Bool.or_eq_true,beq_iff_eq]
       rw [hsm k hk]
       constructor
       . rintro ((h3 | h3) | h3) <;> omega
       . intro h3
         rcases Nat.lt_trichotomy k i with h4 | h4 | h4
         . exact .inl (.inl h4)
         . exact .inr h4
         . rcases Nat.lt_or_ge k b with h5 | h5
           . rw [hnone k h4 h5] at hk;cases hk
           . exact .inl (.inr (by omega))
 . have hw':isW cs i=false:=by simpa using hw
   have hkeep:zKp cf tm id cs tr r sw (fun j=>S j || j == i) h ds:=by
    have hiff:∀ j,isW cs j=true->((S j || j == i)=true ↔ S j=true):=fun j hj=>by
     simp only [Bool.or_eq_true,beq_iff_eq]
     exact ⟨fun h=>h.elim (fun x=>x) (fun e=>by rw [e,hw'] at hj;cases hj),.inl⟩
    rcases H with ⟨m,hm,hsm,h1,h2⟩ | ⟨a,b,hsw,hsm,hta⟩
    . exact .inl ⟨m,hm,fun j hj=>(hiff j hj).trans (hsm j hj),h1,h2⟩
    . exact .inr ⟨a,b,hsw,fun j hj=>(hiff j hj).trans (hsm j hj),hta⟩
   refine ⟨h,ds,hone ?_,hkeep⟩
   rw [zKb hc] at hw'
   unfold zG7 at hst ⊢
   by_cases hwt:zC4 (tr i).vals c.guard=true
   . rw [if_pos hwt] at hst ⊢
     cases hcl:c.op.cls with
     | p=>rw [hcl] at hst;exact ⟨hst.1,hst.2.1,rfl,rfl⟩
     | l =>
      rw [hcl] at hst
      refine ⟨?_,hst.2.1,rfl,rfl⟩
      rcases H with ⟨m,hm,hsm,rfl,rfl⟩ | ⟨a,b,hsw,hsm,hta⟩
      . exact B.read i c hc hcl hwt m hm (fun j hj hb=>(hsm j hj).1 (hpre j hb)) (fun j hj hjm hb=>by
         have:=hcl0 i j ((hsm j hj).2 hjm) hb
         rw [hS] at this;cases this)
      . exfalso
        rcases B.swap with h0 | ⟨a',b',h0,hab,hwa,hwb,hnone,hrd,hx,h1,h2⟩
        . rw [hsw] at h0;cases h0
        . rw [hsw] at h0
          cases h0
          have hr:isR cs i=true:=by unfold isR;rw [zE9,hc];simp [hcl]
          rcases hrd i hr with ⟨h3,h4⟩ | ⟨h3,h4⟩
          . have:=(hsm a hwa).1 (hpre a h3);omega
          . rw [hcl0 i b ((hsm b hwb).2 (.inr rfl)) h4] at hS;cases hS
     | e=>simp [COper.w,hcl] at hw'
     | d=>simp [COper.w,hcl] at hw'
   . rw [if_neg hwt] at hst ⊢
     exact ⟨hst.1,rfl,rfl⟩
end
end Go.CI
namespace Go.CI
open Go.RowKit
section
variable {cf:Nat->List CVal->CHeap->Option (CVal × CHeap)} {tm:List CVal} {id:Nat} {cs:List COper} {tr:Nat->RS} {r:Nat->CVal}
theorem Run.readAt (R:Run cf tm id cs tr r) {i:Nat} {c:COper} (hc:cs[i]? = some c) (hl:c.op.cls=.l) (hw:zC4 (tr i).vals c.guard=true):zFi (zAq tm (tr i).vals) (tr i).h c.op=some (r i):=by
 have:=(R.st i c hc).tr
 unfold zG7 at this
 rw [if_pos hw,hl] at this
 exact this.1
theorem zMg {i:Nat} {c:COper} (hc:cs[i]? = some c) (hl:c.op.cls=.l):isW cs i=false:=by
 rw [zKb hc];simp [COper.w,hl]
theorem zQ1 (R:Run cf tm id cs tr r):Bound cf tm id cs tr r [] (fun j i=>j<i) where
 chain i j _ _ h:=.inl h
 swap:=.inl rfl
 read i c hc hl hw m hm h1 h2:=by
  have hi:i<cs.length:=(List.getElem?_eq_some_iff.1 hc).1
  have hr:=R.readAt hc hl hw
  have hnw:=zMg hc hl
  have hs:(tr m).h=(tr i).h:=by
   rcases Nat.le_total m i with h3 | h3
   . refine (R.same h3 (by omega) (fun k a b=>?_)).1.symm
     rcases Bool.eq_false_or_eq_true (isW cs k) with h5 | h5
     . have:=h1 k h5 b;omega
     . exact h5
   . refine (R.same h3 hm (fun k a b=>?_)).1
     rcases Bool.eq_false_or_eq_true (isW cs k) with h5 | h5
     . have:=h2 k h5 b
       have:k=i:=by omega
       rw [this] at h5;rw [h5] at hnw;cases hnw
     . exact h5
  rw [hs];exact hr
theorem zMe {n m:Nat} (hm:m<=n):cnt cs m=(List.range n).countP fun e=>isW cs e && decide (e<m):=by
 induction n generalizing m with
 | zero=>simp at hm;subst hm;rfl
 | succ n ih =>
  rw [List.range_succ,List.countP_append]
  rcases Nat.lt_or_ge m (n+1) with h | h
  . rw [ih (by omega)]
    have:([n].countP fun e=>isW cs e && decide (e<m))=0:=by simp;intro _;omega
    rw [this];rfl
  . have:m=n+1:=by omega
    subst this
    rw [zOj]
    have h1:((List.range n).countP fun e=>isW cs e && decide (e<n+1))=(List.range n).countP fun e=>isW cs e && decide (e<n):=by
     apply List.countP_congr
     intro x hx
     rw [List.mem_range] at hx
     simp [hx,show x<n+1 by omega]
    rw [h1,<- ih (Nat.le_refl n)]
    congr 1
    by_cases hw:isW cs n=true <;> simp [hw]
theorem zPz (pre:List Nat) (i:Nat):(zDo pre cs i).1=(List.range cs.length).countP fun e=>isW cs e && (decide (e<i) && (pre.getD i 0).testBit e):=List.countP_eq_length_filter.symm
theorem zRz (pre:List Nat) (i:Nat):(zDo pre cs i).2=(List.range cs.length).countP fun e=>isW cs e && (decide (e<i) || !(pre.getD e 0).testBit i):=List.countP_eq_length_filter.symm
theorem zPt (R:Run cf tm id cs tr r) {pre:List Nat} {sw:List (Nat × Nat)} (h1:zN6 pre cs sw=true) (h2:zNb pre cs sw=true)
    (h3:(zIk pre cs).all (zF5 tm cs cs.length (tr cs.length).vals ((tr cs.length).h::(tr cs.length).hs).reverse)=true)
    (h4:sw.all (zGk tm cs cs.length (tr cs.length).vals)=true):Bound cf tm id cs tr r sw (fun j i=>(pre.getD i 0).testBit j=true) where
 chain i j hi hj hij:=by
  simp only [zN6,List.all_eq_true,List.mem_range] at h1
  have:=h1 j (zO0 hj) i (zO0 hi)
  simp only [hi,hj,hij,decide_true,Bool.and_self,Bool.not_true,Bool.false_or,Bool.or_eq_true,List.contains_iff_mem] at this
  exact this
 swap:=by
  match sw,h2,h4 with
  | [],_,_=>exact .inl rfl
  | [(a,b)],h2,h4 =>
   right
   simp only [zNb,Bool.and_eq_true,decide_eq_true_eq,List.all_eq_true,List.mem_range] at h2
   obtain ⟨⟨hab,hsa,hsb⟩,hall⟩:=h2
   simp only [List.all_cons,List.all_nil,Bool.and_true,zGk] at h4
   have hvals:∀ i,i<cs.length->(tr cs.length).vals.drop (cs.length - i)=(tr i).vals:=fun i hi=>R.dropV (cs.length - i) i (by omega)
   have shape:∀ i,isStore cs i=true->∃ k x y,cs[i]? = some ⟨.store k x y,none⟩:=fun i hi=>by
    unfold isStore at hi
    rw [zE9] at hi
    split at hi
    . rename_i k x y h;exact ⟨k,x,y,h⟩
    . cases hi
   obtain ⟨ka,xa,ya,hca⟩:=shape a hsa
   obtain ⟨kb,xb,yb,hcb⟩:=shape b hsb
   have ha:a<cs.length:=(List.getElem?_eq_some_iff.1 hca).1
   have hb:b<cs.length:=(List.getElem?_eq_some_iff.1 hcb).1
   have hwa:isW cs a=true:=by rw [zKb hca];rfl
   have hwb:isW cs b=true:=by rw [zKb hcb];rfl
   have hnone:∀ j,a<j->j<b->isW cs j=false:=fun j h5 h6=>by
    have:=(hall j (by omega)).1
    rcases Bool.eq_false_or_eq_true (isW cs j) with h7 | h7
    . simp [h7,h5,h6] at this
    . exact h7
   refine ⟨a,b,rfl,hab,hwa,hwb,hnone,fun i hi=>?_,?_⟩
   . have hlt:i<cs.length:=by
      unfold isR at hi
      rw [zE9] at hi
      rcases Nat.lt_or_ge i cs.length with h | h
      . exact h
      . rw [List.getElem?_eq_none h] at hi;cases hi
     have:=(hall i hlt).2
     simp only [hi,Bool.not_true,Bool.false_or,Bool.or_eq_true,Bool.and_eq_true] at this
     exact this
   . simp only [zIl,zE9,hca,hcb,hvals a ha,hvals b hb] at h4
     cases hA:(zAq tm (tr a).vals xa).block with
     | none=>rw [hA] at h4;cases h4
     | some A =>
      cases hB:(zAq tm (tr b).vals xb).block with
      | none=>rw [hA,hB] at h4;cases h4
      | some B =>
       rw [hA,hB] at h4
       have hne:A≠B:=by simpa using h4
       have ta:=(R.st a _ hca).tr
       have tb:=(R.st b _ hcb).tr
       simp only [zG7,zC4,if_true,COp.cls,COp.isStore] at ta tb
       obtain ⟨hea,_,hda⟩:=ta
       obtain ⟨heb,_,hdb⟩:=tb
       have hsame:=R.same (i:=a+1) (j:=b) hab (by omega) (fun k h5 h6=>hnone k (by omega) h6)
       rw [hsame.1] at heb
       obtain ⟨hx,hx1,hx2⟩:=zOx hA hB hne hea heb
       refine ⟨hx,fun c' hc'=>?_,fun c' hc'=>?_⟩
       . rw [hcb] at hc';cases hc'
         simp only [zG7,zC4,if_true,COp.cls,COp.isStore]
         exact ⟨hx1,fun _=>trivial,trivial⟩
       . rw [hca] at hc';cases hc'
         simp only [zG7,zC4,if_true,COp.cls,COp.isStore]
         exact ⟨hx2,fun _=>trivial,by rw [hdb,hsame.2,hda]⟩
 read i c hc hl hw m hm hlo hhi:=by
  have hi:i<cs.length:=(List.getElem?_eq_some_iff.1 hc).1
  have hr:=R.readAt hc hl hw
  have hnw:=zMg hc hl
  have hrd:isR cs i=true:=by unfold isR;rw [zE9,hc];simp [hl]
  have b1:∀ m',m'<=cs.length->(∀ j,isW cs j=true->j<i->(pre.getD i 0).testBit j=true->j<m')->(zDo pre cs i).1<=cnt cs m':=fun m' hm' h=>by
   rw [zMe hm',zPz]
   apply List.countP_mono_left
   intro x _ hx
   simp only [Bool.and_eq_true,decide_eq_true_eq] at hx ⊢
   exact ⟨hx.1,h x hx.1 hx.2.1 hx.2.2⟩
  have b2:∀ m',m'<=cs.length->(∀ j,isW cs j=true->j<m'->j<i\/¬ (pre.getD j 0).testBit i=true)->cnt cs m'<=(zDo pre cs i).2:=fun m' hm' h=>by
   rw [zMe hm',zRz]
   apply List.countP_mono_left
   intro x _ hx
   simp only [Bool.and_eq_true,decide_eq_true_eq,Bool.or_eq_true,Bool.not_eq_true'] at hx ⊢
   exact ⟨hx.1,(h x hx.1 hx.2).imp (fun h=>h) (fun h=>by simpa using h)⟩
  have m1:=b1 m hm (fun j h5 _ h6=>hlo j h5 h6)
  have m2:=b2 m hm (fun j h5 h6=>.inr (hhi j h5 h6))
  have i1:=b1 i (by omega) (fun j _ h6 _=>h6)
  have i2:=b2 i (by omega) (fun j _ h6=>.inl h6)
  have hF:=R.heapAt hm
  by_cases heq:(zDo pre cs i).1=(zDo pre cs i).2
  . have:cnt cs m=cnt cs i:=by omega
    rw [this,R.heapAt (show i<=cs.length by omega)] at hF
    have e:=Option.some.inj hF
    rw [<- e];exact hr
  . have hmem:(i,(zDo pre cs i).1,(zDo pre cs i).2) ∈ zIk pre cs:=by
     unfold zIk
     rw [List.mem_filterMap]
     exact ⟨i,List.mem_range.2 hi,by simp [hrd,heq]⟩
    have hck:=List.all_eq_true.1 h3 _ hmem
    unfold zF5 at hck
    simp only [zE9,hc] at hck
    rw [R.dropV (cs.length - i) i (by omega),if_pos hw] at hck
    refine (zK3 hck ?_).trans ?_
    . rw [List.mem_iff_getElem?]
      refine ⟨cnt cs m - (zDo pre cs i).1,?_⟩
      rw [List.getElem?_drop,show (zDo pre cs i).1+(cnt cs m - (zDo pre cs i).1)=cnt cs m by omega,List.getElem?_take,if_pos (by omega)]
      exact hF
    . rw [R.nth cs.length (cs.length - 1 - i) (Nat.le_refl _) (by omega),show cs.length - 1 - (cs.length - 1 - i)=i by omega]
end
end Go.CI
