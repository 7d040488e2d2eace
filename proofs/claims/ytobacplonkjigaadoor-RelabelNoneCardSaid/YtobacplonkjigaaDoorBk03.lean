import Derived.Test.YtobacplonkjigaaDoorBk02
import Derived.Laws.MakeOwn
import Derived.Laws.IdiomCopy
import Derived.Laws.StructEq
set_option linter.unusedSimpArgs false
set_option linter.unusedVariables false
namespace Go.Proofs.YtobacplonkjigaaDoor
open Go.RowKit P
def AS.withH(σ:AS)(h:List (Nat × List AV)):AS:={ n:=σ.n,t:=σ.t,h:=h,e:=σ.e }
def eu{α:Type}(k:Nat):List (Nat × α)→List (Nat × α)
 | [] =>[]
 |p::r=>if p.1=k then eu k r else p::eu k r
theorem sQ{α:Type}{k' k:Nat}{a:α}:∀ {h:List (Nat × α)},look (eu k' h) k=some a→k≠k'∧look h k=some a
 | [],h=>by simp[eu,av] at h
 | (q,b)::r,h=>by
   simp only[eu] at h
   by_cases e:q=k'
   ·rw[if_pos e] at h
    obtain⟨h1,h2⟩:=sQ h
    refine⟨h1,?_⟩
    rw[ab,if_neg (by rw[e];exact h1)];exact h2
   ·rw[if_neg e,ab] at h
    by_cases e2:k=q
    ·rw[if_pos e2] at h
     rw[ab,if_pos e2]
     exact⟨by rw[e2];exact e,h⟩
    ·rw[if_neg e2] at h
     obtain⟨h1,h2⟩:=sQ h
     rw[ab,if_neg e2];exact⟨h1,h2⟩
theorem Gz(σ:AS)(k:Nat)(cs:List AV):(σ.setc k cs).h=(k,cs)::σ.h:=rfl
def xM(l body:List Oper)(om oa:Oper)(after:List Oper):Bool:=
 mq 0 l && kf l body body 0 && A2 body [] && fE l body.length om body 0 && (om.guard.isNone && om.dst.isNone) && xp after (body.length+1) && zt ((body++ [om]).map bM).reverse (bM oa)
section
variable {P:Program} {Q:Exit→AS→Prop} {ks:List It} {T:Tys P} {σ:AS} {K:AS→Prop} {l body after rest:List Oper} {om oa o:Oper} {d k:Nat} {u:AV}
theorem LT{id k':Nat}(hm:P.follows .mixedOrders=true)(hl:l=body++om::oa::after)(hB:xM l body om oa after=true)(he:σ.e=[])
  (h:lz P l (fun σ'=>∃cs':List AV,(∀σ1:AS,σ1.n=σ.n→σ1.e=[] →σ1.h=σ.h→(∀t,Operand.tmp t∈om.op.operands.toList→look σ1.t t=look σ'.t t)→xN P om σ1 (σ1.setc k' cs'))∧aY P Q (.o l (body.length+1) (oa::after)::ks) (((σ'.withH σ.h).setc k' cs').als (fp body))) body (σ.withH (eu k' σ.h))):aY P Q (.c (.region id l.toArray true)::ks) σ:=by
 intro F X a hs D hdf
 obtain⟨us,hul,⟨cs',hom,hK⟩,hstep⟩:=xf body (σ.withH (eu k' σ.h)) h
 simp only[xM,Bool.and_eq_true] at hB
 obtain⟨⟨⟨⟨⟨⟨hx,hset⟩,hdst⟩,hsom⟩,hgd⟩,hchn⟩,hcov⟩:=hB
 have hguard:om.guard=none:=by
  cases hg:om.guard with
  |none=>rfl
  |some p=>rw[hg] at hgd;simp at hgd
 have hodst:om.dst=none:=by
  cases hg:om.dst with
  |none=>rfl
  |some p=>rw[hg] at hgd;simp at hgd
 have hdis:=(pj body [] hdst).2
 have hlb:∀i,i < body.length→l[i]? =body[i]? :=fun i hi=>by rw[hl,List.getElem?_append_left hi]
 have hlo:l[body.length]? =some om:=by rw[hl];simp
 have hla:l[body.length+1]? =some oa:=by rw[hl];simp
 have hll:body.length+1 < l.length:=by rw[hl];simp
 have hlex:∀ (i:Nat) o,l[i]? =some o→∀j∈bM o,j < i:=by
  intro i o ho j hj
  have:=i8 l 0 i o hx ho j hj
  omega
 have hch:∀ (i:Nat) o,body.length+1 < i→l[i]? =some o→i - 1∈bM o:=by
  intro i o hi ho
  obtain⟨j,hj⟩:∃j,i=body.length+1+1+j:=⟨i - body.length - 1 - 1,by omega⟩
  have hoa:after[j]? =some o:=by
   rw[hl,List.getElem?_append_right (by omega)] at ho
   rw[show i - body.length=j+1+1 by omega] at ho
   simpa using ho
  have:=sq hchn j o hoa
  rwa [show i - 1=body.length+1+j by omega]
 refine wp_region_any hm ?_
 let Inv:Array Bool→GW→Act→Prop:=fun listed X1 a1=>∃σ1:AS,SimE F X1 σ1 a1.tmps∧σ1.n=σ.n∧σ1.h=(if listed.getD body.length false=true then(σ.setc k' cs').h else σ.h)∧σ1.e=[] ∧
  (∀ (i:Nat) o d u,body[i]? =some o→us[i]? =some u→o.dst=some d→listed.getD i false=true→look σ1.t d=some u)∧
  (∀t,(∀ (i:Nat) o,body[i]? =some o→o.dst=some t→listed.getD i false=false)→look σ1.t t=look σ.t t)∧
  (∀ (i:Nat) o d s,body[i]? =some o→o.dst=some d→o.op=.move (.tmp s)→o.guard=none→(∀ (q:Nat) oq,body[q]? =some oq→oq.dst≠some s)→listed.getD i false=true→a1.tmps.getD d undef=a1.tmps.getD s undef)
 have ready_of:∀ (listed:Array Bool),listed.size=l.length→listed.getD (body.length+1) false=false→Region.ready .any l.toArray listed≠[] :=by
  intro listed hsz hlast hnil
  obtain⟨k,hk,hkf,hkl⟩:=j5 (fun j=>listed.getD j false) (body.length+1+1) ⟨body.length+1,by omega,hlast⟩
  have hkl2:k < l.length:=by omega
  have hmem:k∈Region.ready .any l.toArray listed:=by
   refine mem_ready.2 ⟨by rw[fk (by omega)];exact hkf,l[k],by simp[hkl2],fun e he hb=> ?_⟩
   exact hkl e.on (hlex k l[k] (List.getElem?_eq_getElem hkl2) e.on (ca.2 ⟨e,he,hb,rfl⟩))
  rw[hnil] at hmem;cases hmem
 have key:∀ (fuel:Nat) (listed:Array Bool) (X1:GW) (a1:Act),listed.size=l.length→(∀j,body.length+1≤j→listed.getD j false=false)→
   ((List.range l.length).filter (fun i=> !listed.getD i true)).length≤fuel→Ext F X X1→a1.defers=D→Inv listed X1 a1→
   (∀j oj,l[j]? =some oj→listed.getD j false=true→∀d∈bM oj,listed.getD d false=true)→
   wpAny P .any l.toArray (da F X D (Stk P Q ks)) fuel listed a1 X1.w:=by
  intro fuel
  induction fuel with
  |zero=>
   intro listed X1 a1 hsz hlast hf hx1 hd1 hI hdn
   have h0:=List.length_eq_zero_iff.1 (Nat.le_zero.1 hf)
   have:=List.filter_eq_nil_iff.1 h0 (body.length+1) (List.mem_range.2 (by omega))
   rw[fk (by omega),hlast _ (Nat.le_refl _)] at this;exact absurd rfl this
  |succ fuel ih=>
   intro listed X1 a1 hsz hlast hf hx1 hd1 hI hdn
   refine⟨fun hnil=>absurd hnil (ready_of listed hsz (hlast _ (Nat.le_refl _))),fun i hi=> ?_⟩
   obtain⟨h1,o,h2,h3⟩:=mem_ready.1 hi
   have h2l:l[i]? =some o:=by simpa using h2
   have hil:i < l.length:=(List.getElem?_eq_some_iff.1 h2l).1
   have hlf:listed.getD i false=false:=by rw[← fk (by omega)];exact h1
   obtain⟨σ1,s1,s2,s3,se,s4,s5,s6⟩:=hI
   have hsee0:∀ (i:Nat) (o:Oper),l[i]? =some o→i≤body.length→fE l i o body 0=true→listed.getD i false=false→(∀e∈o.after,Region.binds .any e=true→listed.getD e.on false=true)→∀t,t∈cO l o→look (puts (σ.withH (eu k' σ.h)) (body.take i) (us.take i)).t t=look σ1.t t:=by
    intro i o h2l hib hset1 hlf h3 t ht
    rw[ja _ _ _ _ (by simp;omega) (fun q q' o1 o2 d h1 h2 h3 h4=>by
     rw[List.getElem?_take] at h1 h2
     split at h1
     ·split at h2
      ·exact hdis q q' o1 o2 d h1 h2 h3 h4
      ·cases h2
     ·cases h1)]
    cases hf:((body.take i).zip (us.take i)).find? (fun p=>p.1.dst==some t) with
    |some p=>
     have hmem:=List.mem_of_find?_eq_some hf
     have hpd:p.1.dst=some t:=by simpa using List.find?_some hf
     obtain⟨q,hq⟩:=List.getElem?_of_mem hmem
     rw[List.getElem?_zip_eq_some,List.getElem?_take,List.getElem?_take] at hq
     have hqi:q < i:=by
      apply Classical.byContradiction
      intro hc
      rw[if_neg hc] at hq;cases hq.1
     rw[if_pos hqi,if_pos hqi] at hq
     obtain⟨d',hd',hs'⟩:=gI body 0 q p.1 hset1 hq.1
     rw[hpd] at hd';cases hd'
     have hdep:=(hs' ht (by omega)).1 (by omega)
     rw[Nat.zero_add] at hdep
     obtain⟨e,he1,he2,he3⟩:=ca.1 hdep
     have hq3:listed.getD q false=true:=by rw[← he3];exact h3 e he1 he2
     rw[s4 q p.1 t p.2 hq.1 hq.2 hpd hq3]
    |none=>
     simp only
     symm
     refine s5 t fun j oj hj hjd=> ?_
     have hjl:=(List.getElem?_eq_some_iff.1 hj).1
     by_cases hji:j < i
     ·have hmem:(oj,us[j]'(by omega))∈(body.take i).zip (us.take i):=by
       refine List.mem_of_getElem? (i:=j) (List.getElem?_zip_eq_some.2 ⟨?_,?_⟩)
       ·rw[List.getElem?_take,if_pos hji];exact hj
       ·rw[List.getElem?_take,if_pos hji];exact List.getElem?_eq_getElem (by omega)
      exact absurd (by simpa using hjd) (List.find?_eq_none.1 hf _ hmem)
     ·by_cases hje:j=i
      ·subst hje;exact hlf
      ·obtain⟨d',hd',hs'⟩:=gI body 0 j oj hset1 hj
       rw[hjd] at hd';cases hd'
       have hdep:=(hs' ht (by omega)).2 (by omega)
       cases hc:listed.getD j false
       ·rfl
       ·have:=hdn j oj (by rw[hlb j hjl];exact hj) hc i hdep
        rw[hlf] at this;cases this
   have hR0:∀ (i:Nat) (o:Oper),l[i]? =some o→i≤body.length→fE l i o body 0=true→listed.getD i false=false→(∀e∈o.after,Region.binds .any e=true→listed.getD e.on false=true)→SimR F X1 (puts (σ.withH (eu k' σ.h)) (body.take i) (us.take i)) o.op a1.tmps:=by
    intro i o h2l hib hset1 hlf h3
    refine⟨s1.gb,s1.fb,fun t u ht hu=> ?_,fun k cs hk=> ?_⟩
    ·rw[hsee0 i o h2l hib hset1 hlf h3 t (by simp only[cO];exact List.mem_append_left _ (hZ ht))] at hu
     exact s1.slot t u hu
    ·rw[kz] at hk
     obtain⟨hk1,hk2⟩:=sQ hk
     refine s1.box k cs ?_
     rw[s3]
     split
     ·rw[Gz,ab,if_neg hk1];exact hk2
     ·exact hk2
   unfold wpOp
   simp only[h2]
   by_cases hib:i < body.length
   ·have h2':body[i]? =some o:=by rw[← hlb i hib];exact h2l
    have hui:us[i]? =some us[i] :=List.getElem?_eq_getElem (by omega)
    obtain⟨d,hod,hdn2,hcase⟩:=hstep i o us[i] h2' hui
    have hset1:fE l i o body 0=true:=by have:=lp body 0 i o hset h2';rwa [Nat.zero_add] at this
    have hsee:=hsee0 i o h2l (by omega) hset1 hlf h3
    have hwan2:bp l (puts (σ.withH (eu k' σ.h)) (body.take i) (us.take i)) o=bp l σ1 o∧fT l (puts (σ.withH (eu k' σ.h)) (body.take i) (us.take i)) o=fT l σ1 o:=by
     refine(lJ (by rw[pu,s2];rfl) fun j want d0 hg hd0=>hsee d0 ?_)
     simp only[cO,hg,hd0];simp
    have hwan:=hwan2.1
    have hdz:d < a1.tmps.size:=by rw[s1.size,s2];exact ba hdn2
    have go:∀ (v:Value) (X2:GW),(∀s,o.op=.move (.tmp s)→o.guard=none→v=a1.tmps.getD s undef)→New X1 X2→(∀b n,X2.g b=some n→b < X2.w.heap.size)→Rel X2 us[i] v→FreshOk F X1.w.heap.size X2 us[i] v→wpAny P .any l.toArray (da F X D (Stk P Q ks)) fuel (listed.setIfInBounds i true) (a1.put o.dst v) X2.w:=by
     intro v X2 hv2 hn2 hg2 hr2 hf2
     refine ih (listed.setIfInBounds i true) X2 (a1.put o.dst v) (by simp[hsz]) (fun j hj=>by rw[bf false (by omega),if_neg (by omega)];exact hlast j hj) ?_ (hx1.trans (hn2.ext s1.gb s1.fb)) (by rw[eM];exact hd1) ?_ ?_
     ·have:=mD hil hsz h1
      omega
     ·refine⟨σ1.put d us[i],?_,s2,by rw[bf false (by omega),if_neg (show ¬body.length=i by omega)];exact s3,by simp[AS.put,se],fun j oj dj uj hj huj hdj hlj=> ?_,fun t ht=> ?_,fun j oj dj sj hj hdj hopj hgj hsj hlj=> ?_⟩
      ·rw[hod]
       exact s1.put_new (by rw[s2];exact ba hdn2) hn2 hg2 hr2 hf2
      ·simp only[AS.put,ab]
       by_cases e:j=i
       ·subst e
        rw[h2'] at hj;cases hj
        rw[hod] at hdj;cases hdj
        rw[if_pos rfl,← huj,hui]
       ·have hne:dj≠d:=fun e2=>e (hdis j i oj o d hj h2' (by rw[hdj,e2]) hod)
        rw[if_neg hne]
        rw[bf false (by omega),if_neg e] at hlj
        exact s4 j oj dj uj hj huj hdj hlj
      ·have hne:t≠d:=by
        rintro rfl
        have:=ht i o h2' hod
        rw[bf false (by omega),if_pos rfl] at this;cases this
       simp only[AS.put,ab]
       rw[if_neg hne]
       refine s5 t fun j oj hj hjd=> ?_
       have:=ht j oj hj hjd
       rw[bf false (by omega)] at this
       by_cases e:j=i
       ·rw[if_pos e] at this;cases this
       ·rw[if_neg e] at this;exact this
      ·have hds:d≠sj:=fun e=>hsj i o h2' (by rw[hod,e])
       rw[hod]
       have hset:∀ (x:Nat),(a1.put (some d) v).tmps.getD x undef=if x=d then v else a1.tmps.getD x undef:=by
        intro x
        simp only[Act.put,Array.getD_eq_getD_getElem?,Array.getElem?_setIfInBounds]
        by_cases e:d=x
        ·subst e;rw[if_pos rfl,if_pos hdz,if_pos rfl];rfl
        ·rw[if_neg e,if_neg (Ne.symm e)]
       rw[hset,hset,if_neg (Ne.symm hds)]
       by_cases e:j=i
       ·subst e
        rw[h2'] at hj;cases hj
        rw[hod] at hdj;cases hdj
        rw[if_pos rfl]
        exact hv2 sj hopj hgj
       ·have hne:dj≠d:=fun e2=>e (hdis j i oj o d hj h2' (by rw[hdj,e2]) hod)
        rw[if_neg hne]
        rw[bf false (by omega),if_neg e] at hlj
        exact s6 j oj dj sj hj hdj hopj hgj hsj hlj
     ·intro j oj hoj hj dd hdd
      rw[bf false (by omega)]
      by_cases e:dd=i
      ·rw[if_pos e]
      ·rw[if_neg e]
       by_cases e2:j=i
       ·subst e2
        rw[h2l] at hoj;cases hoj
        obtain⟨x,hx1,hx2,hx3⟩:=ca.1 hdd
        rw[← hx3];exact h3 x hx1 hx2
       ·rw[bf false (by omega),if_neg e2] at hj
        exact hdn j oj hoj hj dd hdd
    rcases hcase with ⟨hw,hop⟩| ⟨hw,hun⟩
    ·rw[hwan] at hw
     rw[if_pos (lF s1 hw)]
     left
     have hrun:=hop F X1 a1 (hR0 i o h2l (by omega) hset1 hlf h3)
     have hrun2:jN P o a1 X1.w fun x w'=>(∀s,o.op=.move (.tmp s)→o.guard=none→x=a1.tmps.getD s undef)∧∃X':GW,X'.w=w'∧New X1 X'∧(∀b n,X'.g b=some n→b < X'.w.heap.size)∧Rel X' us[i] x∧FreshOk F X1.w.heap.size X' us[i] x:=by
      by_cases hmv:∃s,o.op=.move (.tmp s)
      ·obtain⟨s,hs⟩:=hmv
       have hex:(execOp a1.eval o).run P X1.w=.ok (.value (a1.tmps.getD s undef)) X1.w:=by
        obtain⟨dst,op,ty,pos,af,g⟩:=o
        simp only at hs
        subst hs
        rfl
       unfold jN at hrun ⊢
       rw[hex] at hrun ⊢
       exact⟨fun s' h' _=>by rw[hs] at h';cases h';rfl,hrun⟩
      ·exact hrun.mono fun x w' h=>⟨fun s h'=>absurd ⟨s,h'⟩ hmv,h⟩
     refine hrun2.wp fun x w' ⟨k0,X2,k1,k2,k3,k4,k5⟩=> ?_
     subst k1
     exact go x X2 k0 k2 k3 k4 k5
    ·have hw:pI l σ1 o:=by
      rcases hw with hw|hw
      ·exact .inl (by rw[← hwan];exact hw)
      ·exact .inr (by rw[← hwan2.2];exact hw)
     rw[if_neg (by rw[sX s1 hw];simp)]
     refine go undef X1 (fun s _ hg=> ?_) (New.refl X1) s1.gb (by rw[hun];exact .v _) (by rw[hun];exact FreshOk.plain rfl)
     ·exfalso
      exact sa hw hg
   ·by_cases hio:i=body.length
    ·subst hio
     rw[hlo] at h2l;cases h2l
     have hsee:=hsee0 body.length om hlo (Nat.le_refl _) hsom hlf h3
     have hof:listed.getD body.length false=false:=hlf
     rw[if_neg (by rw[hof];decide)] at s3
     have hrun:=hom σ1 s2 se s3 (fun t ht=>by
      have:=hsee t (by simp only[cO];exact List.mem_append_left _ (hZ ht))
      rw[List.take_of_length_le (Nat.le_refl _),List.take_of_length_le (by omega)] at this
      exact this.symm) (fun σ2=>σ2=σ1.setc k' cs') rfl F X1 a1 s1
     have hw:Region.wanted om (yielded l.toArray a1.tmps)=true:=by unfold Region.wanted;rw[hguard]
     rw[if_pos hw]
     left
     refine hrun.wp fun x w' ⟨X2,σ2,k1,k2,k3,k4⟩=> ?_
     subst k1 k2
     rw[hodst] at k3 ⊢
     refine ih (listed.setIfInBounds body.length true) X2 (a1.put none x) (by simp[hsz]) (fun j hj=>by rw[bf false (by omega),if_neg (by omega)];exact hlast j (by omega)) ?_ (hx1.trans k4) (by rw[eM];exact hd1) ?_ ?_
     ·have:=mD hil hsz h1
      omega
     ·refine⟨σ1.setc k' cs',k3,s2,?_,?_,fun j oj dj uj hj huj hdj hlj=> ?_,fun t ht=> ?_,fun j oj dj sj hj hdj hopj hgj hsj hlj=> ?_⟩
      ·rw[bf false (by omega),if_pos rfl,if_pos rfl,Gz,Gz,s3]
      ·simp[AS.setc,AS.dropC,se]
      ·rw[bf false (by omega),if_neg (by have:=(List.getElem?_eq_some_iff.1 hj).1;omega)] at hlj
       exact s4 j oj dj uj hj huj hdj hlj
      ·refine s5 t fun j oj hj hjd=> ?_
       have:=ht j oj hj hjd
       rw[bf false (by omega),if_neg (by have:=(List.getElem?_eq_some_iff.1 hj).1;omega)] at this
       exact this
      ·rw[bf false (by omega),if_neg (by have:=(List.getElem?_eq_some_iff.1 hj).1;omega)] at hlj
       exact s6 j oj dj sj hj hdj hopj hgj hsj hlj
     ·intro j oj hoj hj dd hdd
      rw[bf false (by omega)]
      by_cases e:dd=body.length
      ·rw[if_pos e]
      ·rw[if_neg e]
       by_cases e2:j=body.length
       ·subst e2
        rw[hlo] at hoj;cases hoj
        obtain⟨x,hx1,hx2,hx3⟩:=ca.1 hdd
        rw[← hx3];exact h3 x hx1 hx2
       ·rw[bf false (by omega),if_neg e2] at hj
        exact hdn j oj hoj hj dd hdd
    have hie:i=body.length+1:=by
     apply Classical.byContradiction
     intro hne
     obtain⟨e,he1,he2,he3⟩:=ca.1 (hch i o (by omega) h2l)
     have h9:=h3 e he1 he2
     rw[he3,hlast (i - 1) (by omega)] at h9;cases h9
    subst hie
    rw[hla] at h2l;cases h2l
    have hall1:∀j,j < body.length+1→listed.getD j false=true:=by
     intro j hj
     refine qy (p:=fun j=>listed.getD j false=true) hcov (fun q hq=> ?_) (fun i d hi hli q hq=> ?_) j (by simpa using hj)
     ·obtain⟨e,he1,he2,he3⟩:=ca.1 hq
      rw[← he3];exact h3 e he1 he2
     ·rw[List.reverse_reverse,List.getElem?_map,Option.map_eq_some_iff] at hi
      obtain⟨oi,hi1,rfl⟩:=hi
      have hil2:=(List.getElem?_eq_some_iff.1 hi1).1
      refine hdn i oi ?_ hli q hq
      rw[hl,show body++om::oa::after=(body++ [om])++oa::after by simp,List.getElem?_append_left hil2];exact hi1
    have hallb:∀j,j < body.length→listed.getD j false=true:=fun j hj=>hall1 j (by omega)
    rw[if_pos (hall1 body.length (by omega))] at s3
    have hfin:SimE F X1 (((puts (σ.withH (eu k' σ.h)) body us).withH σ.h).setc k' cs') a1.tmps:=by
     refine s1.sub (by rw[s2];exact pu body us (σ.withH (eu k' σ.h))) (fun t u hu=> ?_) (fun k cs hk=>by rw[s3];exact hk) (fun p hp=>by
      have he0:=vk body us (σ.withH (eu k' σ.h)) he
      have he1:(((puts (σ.withH (eu k' σ.h)) body us).withH σ.h).setc k' cs').e=[] :=by
       have:((puts (σ.withH (eu k' σ.h)) body us).withH σ.h).e=[] :=he0
       simp only[AS.setc,AS.dropC]
       rw[this];rfl
      rw[he1] at hp;cases hp)
     have hu:look (puts (σ.withH (eu k' σ.h)) body us).t t=some u:=hu
     rw[ja body us (σ.withH (eu k' σ.h)) t hul hdis] at hu
     cases hf:(body.zip us).find? (fun p=>p.1.dst==some t) with
     |some p=>
      rw[hf] at hu
      cases hu
      have hmem:=List.mem_of_find?_eq_some hf
      have hpd:p.1.dst=some t:=by simpa using List.find?_some hf
      obtain⟨q,hq⟩:=List.getElem?_of_mem hmem
      rw[List.getElem?_zip_eq_some] at hq
      exact s4 q p.1 t p.2 hq.1 hq.2 hpd (hallb q (List.getElem?_eq_some_iff.1 hq.1).1)
     |none=>
      rw[hf] at hu
      rw[← hu]
      refine s5 t fun i o ho hod=> ?_
      have hil:=(List.getElem?_eq_some_iff.1 ho).1
      have hui:us[i]? =some us[i] :=List.getElem?_eq_getElem (by omega)
      have:=List.find?_eq_none.1 hf (o,us[i]) (List.mem_of_getElem? (List.getElem?_zip_eq_some.2 ⟨ho,hui⟩))
      exact absurd (by simpa using hod) this
    have hfin2:SimE F X1 ((((puts (σ.withH (eu k' σ.h)) body us).withH σ.h).setc k' cs').als (fp body)) a1.tmps:=by
     refine tB hfin fun p hp=> ?_
     unfold fp at hp
     obtain⟨o,ho1,ho2⟩:=List.mem_filterMap.1 hp
     obtain⟨i,hi⟩:=List.getElem?_of_mem ho1
     split at ho2
     ·rename_i d s hd' hop' hg'
      split at ho2
      ·rename_i hall
       cases ho2
       refine s6 i o d s hi hd' hop' hg' (fun q oq hq hq'=> ?_) (hallb i (List.getElem?_eq_some_iff.1 hi).1)
       have:=List.all_eq_true.1 hall oq (List.mem_of_getElem? hq)
       rw[hq'] at this
       simp at this
      ·cases ho2
     ·cases ho2
    have hrun:=hK F X1 a1 hfin2 D hd1
    have hn:l.length - (body.length+1)=after.length+1:=by
     rw[hl];simp only[List.length_append,List.length_cons];omega
    rw[hn,List.range'_succ,wpOps_cons] at hrun
    have hcnt:after.length≤fuel:=by
     have hsub:(List.range' (body.length+1) (after.length+1)).length≤((List.range l.length).filter (fun i=> !listed.getD i true)).length:=by
      refine List.Sublist.length_le ?_
      have e1:List.range l.length=List.range' 0 (body.length+1)++List.range' (body.length+1) (after.length+1):=by
       have:=List.range'_append_1 (s:=0) (m:=body.length+1) (n:=after.length+1)
       rw[Nat.zero_add] at this
       rw[List.range_eq_range',this,show l.length=body.length+1+ (after.length+1) by rw[hl];simp only[List.length_append,List.length_cons];omega]
      rw[e1,List.filter_append]
      refine List.Sublist.trans ?_ (List.sublist_append_right _ _)
      have:(List.range' (body.length+1) (after.length+1)).filter (fun i=> !listed.getD i true)=List.range' (body.length+1) (after.length+1):=by
       rw[List.filter_eq_self]
       intro q hq
       obtain⟨hq1,hq2⟩:=List.mem_range'_1.1 hq
       rw[fk (by omega),hlast q hq1];rfl
      rw[this]
      exact List.Sublist.refl _
     rw[List.length_range'] at hsub
     omega
    have hrun':=wpOp_mono (K':=wpAny P .any l.toArray (da F X1 D (Stk P Q ks)) fuel (listed.setIfInBounds (body.length+1) true)) (fun a' w' h'=>uS hlex hch after.length (body.length+1+1) fuel (listed.setIfInBounds (body.length+1) true) a' w' (by omega) (by omega) (by simp[hsz]) (fun j hj=>by
     rw[bf false (by omega)]
     by_cases e:j=body.length+1
     ·rw[if_pos e]
     ·rw[if_neg e];exact hall1 j (by omega)) (fun j hj=>by rw[bf false (by omega),if_neg (by omega)];exact hlast j (by omega)) hcnt h') hrun
    unfold wpOp at hrun'
    simp only[h2] at hrun'
    have hmono:=qe (P:=P) (ops:=l.toArray) (R:=da F X1 D (Stk P Q ks)) (R':=da F X D (Stk P Q ks)) (fun e a w hp=>hp.ext hx1)
    have:=sR (P:=P) (ops:=l.toArray) (R:=da F X1 D (Stk P Q ks)) (R':=da F X D (Stk P Q ks)) (fun e a w hp=>hp.ext hx1) (i:=body.length+1) (K:=wpAny P .any l.toArray (da F X1 D (Stk P Q ks)) fuel (listed.setIfInBounds (body.length+1) true)) (K':=wpAny P .any l.toArray (da F X D (Stk P Q ks)) fuel (listed.setIfInBounds (body.length+1) true)) (fun a w h=>hmono fuel _ a w h) (a:=a1) (w:=X1.w) (by unfold wpOp;simp only[h2];exact hrun')
    unfold wpOp at this
    simp only[h2] at this
    exact this
 have hXd:New X ⟨X.w.drew,X.g⟩:=⟨rfl,rfl,rfl,Nat.le_refl _,fun _ _=>⟨rfl,rfl⟩⟩
 have hsd:=hs.new hXd hs.gb
 have hno:∀i,(Array.replicate l.toArray.size false).getD i false=false:=fun i=>by
  simp only[Array.getD_eq_getD_getElem?,Array.getElem?_replicate]
  split<;> simp
 refine key _ _ ⟨X.w.drew,X.g⟩ a (by simp) (fun j _=>hno j) (by refine Nat.le_trans (List.length_filter_le _ _) (by simp)) (hXd.ext hs.gb hs.fb) hdf ⟨σ,hsd,rfl,by rw[hno];rfl,he,(fun i o d u _ _ _ hf=>by rw[hno] at hf;cases hf),(fun t _=>rfl),(fun i o d s _ _ _ _ _ hf=>by rw[hno] at hf;cases hf)⟩ (fun j oj hoj hf=>by rw[hno] at hf;cases hf)
end
section
variable {P:Program} {T:Tys P} {σ:AS}
theorem wd{o:Oper}{d:Nat}(vf:Nat→Value){cs:List AV}(hdst:o.dst=some d)(hd:Nat.ble (d+1) σ.n=true)(hp:fM cs)
  (hrun:∀F X (a:Act),SimE F X σ a.tmps→∃ (arr:Array Value) (el:TypeId),(execOp a.eval o).run P X.w=.ok (.value (vf X.w.heap.size)) (X.w.alloc (.cells arr el))∧arr.size=cs.length∧∀ (i:Nat) u x,cs[i]? =some u→arr[i]? =some x→Rel X u x)
  {R:AS→Prop} (hR:∀k,gm k σ.h→R ((σ.box k cs).put d (.v (vf k)))):cy P o σ R:=by
 intro F X a hs
 obtain⟨arr,el,h1,h2,h3⟩:=hrun F X a hs
 have hn:New X ⟨X.w.alloc (.cells arr el),X.g⟩:=⟨rfl,rfl,rfl,by show X.w.heap.size≤(X.w.heap.push _).size;simp,fun b hb=>⟨by show(X.w.heap.push _)[b]? =_;rw[Array.getElem?_push,if_neg (by omega)],rfl⟩⟩
 have hgb:∀b n,X.g b=some n→b < (X.w.alloc (.cells arr el)).heap.size:=fun b n hb=>by have:=hs.gb b n hb;show b < (X.w.heap.push _).size;simp;omega
 have hnew:=hs.new hn hgb
 have hgk:X.g X.w.heap.size=none:=by
  cases hg:X.g X.w.heap.size with
  |none=>rfl
  |some n=>have:=hs.gb _ _ hg;omega
 have hhk:(X.w.alloc (.cells arr el)).heap[X.w.heap.size]? =some (.cells arr el):=by show(X.w.heap.push _)[_]? =_;simp
 have hb:eI F ⟨X.w.alloc (.cells arr el),X.g⟩ X.w.heap.size cs:=by
  refine eg.box ⟨hgk,fun hF=>Nat.lt_irrefl _ (hs.fb _ hF),arr,el,(0,0),hhk,h2,fun o=> ?_,fun i u x hu hx=>(h3 i u x hu hx).mono (hn.pres hs.gb)⟩
  show(X.w.alloc (.cells arr el)).frozen? ⟨X.w.heap.size,o,none⟩=false
  simp only[World.frozen?,hhk];simp
 refine ci h1 ⟨⟨X.w.alloc (.cells arr el),X.g⟩,_,rfl,hR X.w.heap.size (fun q hq e1=> ?_),?_,hn.ext hs.gb hs.fb⟩
 ·obtain⟨k,cs'⟩:=q
  simp only at e1
  subst e1
  have:∀ {l:List (Nat × List AV)} {k:Nat} {c:List AV},(k,c)∈l→∃c',look l k=some c':=by
   intro l
   induction l with
   |nil=>intro k c h;cases h
   |cons p l ih=>
    intro k c h
    obtain⟨k0,c0⟩:=p
    by_cases e2:k=k0
    ·exact⟨c0,by rw[ab,if_pos e2]⟩
    ·rcases List.mem_cons.1 h with h|h
     ·cases h;exact absurd rfl e2
     ·obtain⟨c',h'⟩:=ih h
      exact⟨c',by rw[ab,if_neg e2];exact h'⟩
  obtain⟨c',h'⟩:=this hq
  exact Nat.lt_irrefl _ (hs.box _ _ h').lt
 ·rw[hdst]
  exact(hnew.box1 hb hp).put_new (ba hd) (New.refl _) hgb (.v _) (FreshOk.plain rfl)
theorem CE{x y:Operand}{t ty e:TypeId}{pos:String}{af:Array Edge}{g:Option (Nat × Bool)}{d:Nat}{sz by_ n c:Nat}{kx ky:IntKind}{zv:Value}(hx:opV σ x=some (.v (.int kx (n:Int))))(hy:opV σ y=some (.v (.int ky (c:Int))))(hn:n≤c)(ht:look T.ty t=some (.slice e))(hz:look T.sz e=some (sz,by_))(hzr:look T.zr e=some zv)(hfit:by_ * c≤281474976710656)(hc:c≤9223372036854775807)(hd:Nat.ble (d+1) σ.n=true)
  {R:AS→Prop} (hR:∀k,gm k σ.h→R ((σ.box k ((madeCells zv.cells (c * sz)).toList.map .v)).put d (.v (.slice (some ⟨k,0,none⟩) n c)))):cy P ⟨some d,.makeSlice t x y,ty,pos,af,g⟩ σ R:=by
 refine wd (fun k=>.slice (some ⟨k,0,none⟩) n c) rfl hd (fun u hu=> ?_) (fun F X a hs=> ?_) hR
 ·obtain⟨v,_,rfl⟩:=List.mem_map.1 hu
  rfl
 ·obtain⟨i,hi1,hi2⟩:=T.zrOk _ _ hzr
  obtain⟨i',hj1,hj2,hj3,_⟩:=T.szOk _ _ _ hz
  rw[hi1] at hj1;cases hj1
  have e1:=bF (bt hs hx)
  have e2:=bF (bt hs hy)
  have hb:(i.bytes:Int) * (c:Int)≤281474976710656:=by
   rw[hj3]
   have h:((by_ * c:Nat):Int)≤281474976710656:=by omega
   rwa [Int.natCast_mul] at h
  have hr:=run_make (P:=P) X.w t e i zv (T.tyOk _ _ ht) hi1 hi2 kx ky (n:Int) (c:Int) (by omega) (by omega) hb (by omega)
  simp only[Int.toNat_natCast] at hr
  refine⟨madeCells zv.cells (c * i.size),e,?_,by simp[hj2],fun q u v hu hv=> ?_⟩
  ·simp only[execOp,e1,e2]
   exact aW hr
  ·rw[List.getElem?_map,← hj2,Array.getElem?_toList,hv] at hu
   cases hu;exact .v v
theorem n9{x y:Operand}{t ty e:TypeId}{pos:String}{af:Array Edge}{g:Option (Nat × Bool)}{dd:Option Tmp}{sz by_ k o n c i:Nat}{ki:IntKind}(hx:opV σ x=some (.v (.slice (some ⟨k,o,none⟩) n c)))(hy:opV σ y=some (.v (.int ki (i:Int))))(ht:look T.ty t=some (.slice e))(hz:look T.sz e=some (sz,by_))(hi:i < n):
  OpV P ⟨dd,.indexAddr t x y,ty,pos,af,g⟩ σ (.v (.pointer (some ⟨k,o+i * sz,none⟩))):=by
 refine aG rfl fun F X a hs=> ?_
 obtain⟨it,hi1,hi2,hi3,_⟩:=T.szOk _ _ _ hz
 have e1:=bF (co hs (by simp[Op.operands]) hx)
 have e2:=bF (co hs (by simp[Op.operands]) hy)
 refine⟨_,?_,.v _⟩
 simp only[execOp,e1,e2]
 have hu:=T.tyOk _ _ ht
 have h1:¬((i:Int) < 0):=by omega
 have h2:(i:Int) < (n:Int):=by omega
 refine aW ?_
 simp[Instr.indexAt,asIntOf,run_underlying hu,sizeOf,typeInfo,hi1,hi2,h1,h2,en]
 intro h;omega
theorem yS{α:Type}:∀ {L:List (List α)},(∀r∈L,r.length=1)→∀i:Nat,L.flatten[i]? =(L[i]?).bind fun r=>r[0]?
 | [],_,i=>by simp
 |r::L,h,i=>by
  have h1:=h r List.mem_cons_self
  match r,h1 with
  | [x],_=>
    cases i with
    |zero=>simp
    |succ i=>simpa using yS (fun q hq=>h q (List.mem_cons_of_mem _ hq)) i
theorem pC{α:Type}:∀ {L:List (List α)},(∀r∈L,r.length=1)→L.flatten.length=L.length
 | [],_=>rfl
 |r::L,h=>by
  have h1:=h r List.mem_cons_self
  have h2:=pC fun q hq=>h q (List.mem_cons_of_mem _ hq)
  simp only[List.flatten_cons,List.length_append,List.length_cons,h2];omega
theorem zJ{ps:Array (Nat × Operand)}{t ty e:TypeId}{pos:String}{af:Array Edge}{g:Option (Nat × Bool)}{d len sz by_:Nat}{us:List AV}(hsz1:sz=1)(ht:look T.ty t=some (.slice e))(hz:look T.sz e=some (sz,by_))(hp:pm ps.toList 0=true)(hl:Nat.beq len ps.toList.length=true)(hx:uq σ (ps.toList.map (·.2))=some us)
  (hc:us.all (fun u=>u.okc && Nat.beq u.cells.length sz)=true) (hpl:∀u∈(us.map AV.cells).flatten,cw (some u)=none) (hm:Nat.ble (len * sz) 16777216=true) (hd:Nat.ble (d+1) σ.n=true) {R:AS→Prop} (hR:∀k,gm k σ.h→R ((σ.box k (us.map AV.cells).flatten).put d (.v (.slice (some ⟨k,0,none⟩) len len)))):
  cy P ⟨some d,.buildSlice t len ps,ty,pos,af,g⟩ σ R:=by
 refine wd (fun k=>.slice (some ⟨k,0,none⟩) len len) rfl hd (fun u hu=>hpl u hu) (fun F X a hs=> ?_) hR
 obtain⟨i,hi1,hi2,hi3,zv,hi4,hi5⟩:=T.szOk _ _ _ hz
 have hlen:=Nat.eq_of_beq_eq_true hl
 have hle:=Nat.le_of_ble_eq_true hm
 obtain⟨g1,g2⟩:=o5 hx
 simp only[List.length_map] at g1
 have hmem:∀p∈ps.toList,p.2∈(Op.buildSlice t len ps).operands.toList:=fun p hp=>by simp only[Op.operands];exact List.mem_map.2 ⟨p,hp,rfl⟩
 have hrel:∀ (q:Nat) v,(ps.toList.map fun p=>a.eval p.2)[q]? =some v→∃u,us[q]? =some u∧Rel X u v:=by
  intro q v hv
  simp only[List.getElem?_map,Option.map_eq_some_iff] at hv
  obtain⟨p,hpq,rfl⟩:=hv
  obtain⟨u,h1,h2⟩:=g2 q p.2 (by simp[List.getElem?_map,hpq])
  exact⟨u,h1,bt hs h2⟩
 have hcell:∀ (q:Nat) u,us[q]? =some u→u.okc=true∧u.cells.length=sz:=by
  intro q u hu
  have:=List.all_eq_true.1 hc u (List.mem_of_getElem? hu)
  simp only[Bool.and_eq_true] at this
  exact⟨this.1,Nat.eq_of_beq_eq_true this.2⟩
 have hrc:∀ (q:Nat) u v,us[q]? =some u→Rel X u v→u.cells.length=v.cells.size∧∀ (j:Nat) c y,u.cells[j]? =some c→v.cells[j]? =some y→Rel X c y:=by
  intro q u v hu hr
  refine mE hr fun xs hxs=> ?_
  have hk:=(hcell q u hu).1
  subst hxs
  cases hr with
  |ag us xs hl hr=>exact⟨us,rfl⟩
  |v=>cases hk
 let vs:=ps.toList.map fun p=>a.eval p.2
 have hvl:vs.length=us.length:=by simp[vs,g1]
 have hvs:∀v∈vs,v.cells.size=sz:=by
  intro v hv
  obtain⟨q,hq⟩:=List.getElem?_of_mem hv
  obtain⟨u,h1,h2⟩:=hrel q v hq
  rw[← (hrc q u v h1 h2).1];exact(hcell q u h1).2
 let z0:Array Value:=if len * sz=0 then #[] else zv.cells
 let init:Array Value:=(Array.range (len * sz)).map (z0[· % z0.size]!)
 obtain⟨cells',f1,f2,f3,f4⟩:=vz sz vs 0 init hvs (by simp[init,hvl,g1,hlen])
 have hlv:vs.length=len:=by rw[hvl,g1,hlen]
 have hw:(execOp a.eval ⟨some d,.buildSlice t len ps,ty,pos,af,g⟩).run P X.w=.ok (.value (.slice (some ⟨X.w.heap.size,0,none⟩) len len)) (X.w.alloc (.cells cells' e)):=by
  simp only[execOp]
  refine aW ?_
  have hparts:(ps.map fun p=>(p.1,a.eval p.2)).toList=(vs.zipIdx 0).map fun p=>(p.2,p.1):=by
   rw[Array.toList_map];exact i5 hp
  have hnot:¬len * sz > 16777216:=by omega
  simp only[init,z0] at f1
  have hparts':(Array.map (fun x=>match x with| (i,x)=>(i,a.eval x)) ps).toList=(vs.zipIdx 0).map fun p=>(p.2,p.1):=hparts
  have hzero:∀w:World,(zeroValue e).run P w=.ok zv w:=fun w=>by simp[zeroValue,typeInfo,hi1,hi4]
  by_cases h0:len * sz=0
  ·simp only[h0,if_true] at f1
   have hpz:ps.toList.map (fun p=>(p.1,a.eval p.2))=(vs.zipIdx 0).map fun p=>(p.2,p.1):=i5 hp
   simp at f1
   simp[Instr.buildSlice,run_underlying (T.tyOk _ _ ht),sizeOf,typeInfo,hi1,hi2,h0,hpz,f1,newRow,newObj,Sem.run]
  ·rw[if_neg h0] at f1
   have hpz:ps.toList.map (fun p=>(p.1,a.eval p.2))=(vs.zipIdx 0).map fun p=>(p.2,p.1):=i5 hp
   simp[Instr.buildSlice,run_underlying (T.tyOk _ _ ht),sizeOf,hzero,typeInfo,hi1,hi2,h0,hle,hpz,f1,newRow,newObj,Sem.run]
 have hrow:∀r∈us.map AV.cells,r.length=1:=fun r hr=>by
  obtain⟨u,hu,rfl⟩:=List.mem_map.1 hr
  obtain⟨q,hq⟩:=List.getElem?_of_mem hu
  rw[(hcell q u hq).2,hsz1]
 refine⟨cells',e,hw,?_,fun q u v hu hv=> ?_⟩
 ·rw[pC hrow,f2,List.length_map,← hvl,hlv]
  simp[init,hsz1]
 ·rw[yS hrow] at hu
  simp only[List.getElem?_map] at hu
  cases hq:us[q]? with
  |none=>rw[hq] at hu;cases hu
  |some u0=>
   rw[hq] at hu
   have hu':u0.cells[0]? =some u:=hu
   have hql:q < vs.length:=by rw[hvl];exact(List.getElem?_eq_some_iff.1 hq).1
   obtain⟨u1,k1,k2⟩:=hrel q vs[q] (List.getElem?_eq_getElem hql)
   rw[hq] at k1;cases k1
   have h6:=f3 q 0 vs[q] (List.getElem?_eq_getElem hql) (by omega)
   have hsz:=hvs vs[q] (List.getElem_mem hql)
   have hy:vs[q].cells[0]? =some vs[q].cells[0] :=Array.getElem?_eq_getElem (by omega)
   have hix:q * sz+0=q:=by rw[hsz1];omega
   rw[Nat.zero_add,hy,hix] at h6
   rw[hv] at h6
   cases h6
   exact(hrc q u0 vs[q] hq k2).2 0 u _ hu' hy
theorem y4{x y:Operand}{t u ty e:TypeId}{pos:String}{af:Array Edge}{g:Option (Nat × Bool)}{d by_ k n c:Nat}{cs:List AV}{m:List (List AV)}{du:TypeDesc}(hx:opV σ x=some (.v (.slice (some ⟨k,0,none⟩) n c)))(hb:look σ.h k=some cs)(hmp:fx cs=false)(ht:look T.ty t=some (.slice e))(hu:look T.ty u=some du)(hnz:du=.string∨∃e',du=.slice e')(hz:look T.sz e=some (1,by_))
  (hadd:∀F X (a:Act),SimE F X σ a.tmps→∃q,AddsA P X 1 m (a.eval y) q) (hroom:n+m.length≤c) (hfit:n+m.length≤cs.length) (hd:Nat.ble (d+1) σ.n=true) (hpl:fM m.flatten)
  {R:AS→Prop} (hR:R ((σ.setc k (b7 cs n m.flatten)).put d (.v (.slice (some ⟨k,0,none⟩) (n+m.length) c)))):
  cy P ⟨some d,.call { callee:=.builtin .append,args:= #[x,y],argTypes:= #[t,u] },ty,pos,af,g⟩ σ R:=by
 intro F X a hs
 obtain⟨i,hi1,hi2,hi3,zv,hi4,hi5⟩:=T.szOk _ _ _ hz
 obtain⟨q,hadd⟩:=hadd F X a hs
 have e1:=bF (bt hs hx)
 have hA:Adds P X.w i.size m.length (a.eval y) (rowCells 1 m.length q):=⟨hadd.len,by rw[hi2];exact hadd.first,by rw[hi2];exact bx _ _ _⟩
 obtain⟨b1,b2,arr,el,fr,b3,b4,b5,b6⟩:=(hs.box k cs hb).cells hmp
 have hrl:=bx 1 m.length q
 rw[Nat.mul_one] at hrl
 have hcell:∀j,j < (rowCells 1 m.length q).length→(X.w.cell? ⟨k,n * i.size+j,none⟩).isSome=true:=by
  intro j hj
  rw[hrl] at hj
  have:n * i.size+j < arr.size:=by rw[hi2,b4];omega
  simp[World.cell?,b3,this]
 have hrun:=od (P:=P) (ty:=ty) (b:=k) (sLen:=n) (sCap:=c) (T.tyOk _ _ ht) (T.tyOk _ _ hu) hnz hi1 hA hadd.one hroom hcell (fun j _=>b5 _)
 rw[hi2,Nat.mul_one] at hrun
 have hml:m.flatten.length=m.length:=pC hadd.rows
 obtain⟨s1,s2⟩:=SimE.setc (cs:=cs) (us:=m.flatten) (vs:=rowCells 1 m.length q) (o:=n) hs hb (by rw[hml];exact hfit) (by rw[hrl,hml]) (fun j u v hu hv=>by
  rw[yS hadd.rows] at hu
  cases hr:m[j]? with
  |none=>rw[hr] at hu;cases hu
  |some r=>
   rw[hr] at hu
   have hj:=(List.getElem?_eq_some_iff.1 hr).1
   have h0:=kY (sz:=1) (n:=m.length) (c:=q) (i:=j) (j:=0) hj (by decide)
   rw[show j * 1+0=j by omega,hv] at h0
   cases h0
   exact hadd.rel j 0 r u hr hu) (fun j sz l v ho=>by
  cases hi:m.flatten[j]? with
  |none=>rw[hi] at ho;cases ho
  |some u=>rw[hi,hpl u (List.mem_of_getElem? hi)] at ho;cases ho) (fun j j' p q ho=>by
  cases hi:m.flatten[j]? with
  |none=>rw[hi] at ho;cases ho
  |some u=>rw[hi,hpl u (List.mem_of_getElem? hi)] at ho;cases ho) hmp
 refine ci (x:=.slice (some ⟨k,0,none⟩) (n+m.length) c) (w':=X.w.setCells k n (rowCells 1 m.length q)) (cb (by rw[e1]) rfl hrun) ⟨⟨X.w.setCells k n (rowCells 1 m.length q),X.g⟩,_,rfl,hR,?_,s2⟩
 exact s1.put_new (ba hd) (New.refl _) s1.gb (.v _) (FreshOk.plain rfl)
end
theorem Ew{P:Program}{Q:Exit→AS→Prop}{c:Code}{ks:List It}{σ σ':AS}(h:aY P Q (.c c::ks) σ')(hs:∀F X tm,SimE F X σ tm→∃X':GW,X'.w=X.w∧SimE F X' σ' tm∧Ext F X X'):aY P Q (.c c::ks) σ:=fun F X a hsim D hd=>by
 obtain⟨X',hw,h1,h2⟩:=hs F X _ hsim
 have h3:=h F X' a h1 D hd
 rw[hw] at h3
 exact wp_mono h3 fun _ _ _ hp=>hp.ext h2
def AS.claim(σ:AS)(k d sz:Nat)(L:List (List AV)):AS:={ n:=σ.n,t:=(d,.sl true sz L)::σ.t,h:=σ.h.filter fun p=> !(p.1==k),e:=[] }
theorem g6{α:Type}{k j:Nat}{u:α}:∀ {l:List (Nat × α)},look (l.filter fun p=> !(p.1==k)) j=some u→j≠k∧look l j=some u
 | [],h=>by simp[av] at h
 | (a,b)::r,h=>by
   rw[List.filter_cons] at h
   by_cases ha:a=k
   ·rw[if_neg (by simp[ha])] at h
    obtain⟨h1,h2⟩:=g6 h
    refine⟨h1,?_⟩
    rw[ab,if_neg (fun e=>h1 (e.trans ha))]
    exact h2
   ·rw[if_pos (by simp[ha]),ab] at h
    by_cases hj:j=a
    ·rw[if_pos hj] at h
     refine⟨fun e=>ha (hj.symm.trans e),?_⟩
     rw[ab,if_pos hj];exact h
    ·rw[if_neg hj] at h
     obtain⟨h1,h2⟩:=g6 h
     refine⟨h1,?_⟩
     rw[ab,if_neg hj];exact h2
theorem tV{sz:Nat}:∀ {L:List (List AV)} (hsz:∀r∈L,r.length=sz) {i j:Nat} {r:List AV} {u:AV},L[i]? =some r→r[j]? =some u→L.flatten[i * sz+j]? =some u
 | [],_,i,j,r,u,h,_=>by simp at h
 |x::L,hsz,i,j,r,u,h,hu=>by
  have hx:=hsz x (by simp)
  cases i with
  |zero=>
   simp at h;subst h
   rw[List.flatten_cons,Nat.zero_mul,Nat.zero_add,List.getElem?_append_left (List.getElem?_eq_some_iff.1 hu).1]
   exact hu
  |succ i=>
   have ih:=tV (L:=L) (fun r hr=>hsz r (by simp[hr])) (i:=i) (j:=j) (by simpa using h) hu
   rw[List.flatten_cons,List.getElem?_append_right (by rw[Nat.succ_mul,hx];omega),hx,show(i+1) * sz+j - sz=i * sz+j by rw[Nat.succ_mul];omega]
   exact ih
theorem mO{sz:Nat}:∀ {L:List (List AV)},(∀r∈L,r.length=sz)→L.flatten.length=L.length * sz
 | [],_=>by simp
 |x::L,h=>by
  rw[List.flatten_cons,List.length_append,mO fun r hr=>h r (by simp[hr]),h x (by simp),List.length_cons,Nat.succ_mul];omega
theorem SimE.claim{F:Nat→Prop}{X:GW}{σ:AS}{tm:Array Value}{k d n c sz:Nat}{cs:List AV}{L:List (List AV)}{sp:List AV}(h:SimE F X σ tm)(hd:look σ.t d=some (.v (.slice (some ⟨k,0,none⟩) n c)))(hb:look σ.h k=some cs)(hm:fx cs=false)(hL:L.length=n)(hsz:∀r∈L,r.length=sz)(hcs:cs=L.flatten++sp)(hc:cs.length=c * sz)(hnc:n≤c):
  ∃X':GW,X'.w=X.w∧SimE F X' (σ.claim k d sz L) tm∧Ext F X X':=by
 subst hL
 obtain⟨b1,b2,arr,el,fr,b3,b4,b5,b6⟩:=(h.box k cs hb).cells hm
 have hkl:k < X.w.heap.size:=(Array.getElem?_eq_some_iff.1 b3).1
 have hfl:=mO hsz
 have hpres:mH X ⟨X.w,fun b=>if b=k then some (L.length * sz) else X.g b⟩:=fun b m hbm=>by
  have hbk:b≠k:=fun e=>by rw[e,b1] at hbm;cases hbm
  exact⟨m,Nat.le_refl _,by show(if b=k then _ else _)=_;rw[if_neg hbk];exact hbm,fun _ _=>rfl⟩
 have hcell:∀ (i j:Nat) (r:List AV) (u:AV),L[i]? =some r→r[j]? =some u→∃x,arr[i * sz+j]? =some x∧Rel X u x:=fun i j r u hi hj=>by
  have h1:=tV hsz hi hj
  have h2:cs[i * sz+j]? =some u:=by rw[hcs,List.getElem?_append_left (List.getElem?_eq_some_iff.1 h1).1];exact h1
  have h3:i * sz+j < arr.size:=by rw[b4];exact(List.getElem?_eq_some_iff.1 h2).1
  exact⟨arr[i * sz+j],Array.getElem?_eq_getElem h3,b6 _ _ _ h2 (Array.getElem?_eq_getElem h3)⟩
 have hv:=bF (h.slot d _ hd)
 have hrel:∀o:Bool,Rel ⟨X.w,fun b=>if b=k then some (L.length * sz) else X.g b⟩ (.sl o sz L) (tm.getD d undef):=fun o=>by
  rw[hv]
  refine .sl o sz L k 0 c (L.length * sz) (fun i j=>arr.getD (i * sz+j) undef) (by show(if k=k then _ else _)=_;rw[if_pos rfl]) (by omega) hnc (fun i r hi=>hsz r (List.mem_of_getElem? hi)) (fun i j r u hi hj=> ?_) (fun i j r u hi hj=> ?_)
  ·obtain⟨x,h1,h2⟩:=hcell i j r u hi hj
   show X.w.cell? ⟨k,0+i * sz+j,none⟩=_
   simp only[World.cell?,b3,Nat.zero_add,Array.getD_eq_getD_getElem?,h1];rfl
  ·obtain⟨x,h1,h2⟩:=hcell i j r u hi hj
   rw[Array.getD_eq_getD_getElem?,h1]
   exact h2.mono hpres
 have hgne:∀ {r:Root} {sz':Nat} {l':List (List AV)} {x:Value},gl F X sz' l' x→∀ {a:Addr} {n' c':Nat},x=.slice (some a) n' c'→a.block≠k:=fun {r sz' l' x} ho {a n' c'} hx e=>by
  rcases ho with ⟨h1,_⟩| ⟨b,cap,cs',e',fr',h1,h2,_⟩
  ·rw[h1] at hx;cases hx
  ·rw[h1] at hx;cases hx;rw[show b=k from e,b1] at h2;cases h2
 have hown:∀ {sz':Nat} {l':List (List AV)} {x:Value},gl F X sz' l' x→gl F ⟨X.w,fun b=>if b=k then some (L.length * sz) else X.g b⟩ sz' l' x:=fun {sz' l' x} ho=>by
  rcases ho with h1| ⟨b,cap,cs',e',fr',h1,h2,h3,h4,h5,h6⟩
  ·exact .inl h1
  ·have hbk:b≠k:=fun e=>by rw[e,b1] at h2;cases h2
   exact .inr ⟨b,cap,cs',e',fr',h1,by show(if b=k then _ else _)=_;rw[if_neg hbk];exact h2,h3,h4,h5,h6⟩
 have hnew:gl F ⟨X.w,fun b=>if b=k then some (L.length * sz) else X.g b⟩ sz L (tm.getD d undef):=by
  refine .inr ⟨k,c,arr,el,fr,by rw[hv],by show(if k=k then _ else _)=_;rw[if_pos rfl],b3,by rw[b4,hc],fun j _ _=>b5 j,b2⟩
 have owns:∀r sz' l',(σ.claim k d sz L).own r=some (sz',l')→(r=.s d∧sz'=sz∧l'=L)∨(r≠.s d∧σ.own r=some (sz',l')∧∀k' o,r=.c k' o→k'≠k):=fun r sz' l' ho=>by
  cases r with
  |s t=>
   simp only[AS.claim,AS.own,ab] at ho
   by_cases ht:t=d
   ·subst ht
    rw[if_pos rfl] at ho
    simp only[cw,Option.some.injEq,Prod.mk.injEq] at ho
    exact .inl ⟨rfl,ho.1.symm,ho.2.symm⟩
   ·rw[if_neg ht] at ho
    exact .inr ⟨fun e=>ht (by cases e;rfl),ho,fun k' o e=>by cases e⟩
  |c k' o=>
   simp only[AS.claim,AS.own] at ho
   cases hq:look (σ.h.filter fun p=> !(p.1==k)) k' with
   |none=>rw[hq] at ho;cases ho
   |some cs'=>
    obtain⟨q1,q2⟩:=g6 hq
    rw[hq] at ho
    refine .inr ⟨fun e=>(by cases e),?_,fun k2 o2 e=>by cases e;exact q1⟩
    simp only[AS.own,q2];exact ho
 refine⟨⟨X.w,fun b=>if b=k then some (L.length * sz) else X.g b⟩,rfl,⟨⟨h.size,fun b m hbm=> ?_,h.fb,fun t u hu=> ?_,fun k' cs' hk'=> ?_,fun x r hx=>by simp[AS.claim,av] at hx,fun r sz' l' ho=> ?_,fun r r' s1 l1 s2 l2 a n1 c1 a' n2 c2 hne ho ho' hr hr'=> ?_⟩,fun p hp=>by cases hp⟩,rfl,rfl,rfl,Nat.le_refl _,fun b hF=>⟨rfl,?_⟩,hpres⟩
 ·simp only at hbm
  split at hbm
  ·rename_i e;rw[e];exact hkl
  ·exact h.gb b m hbm
 ·simp only[AS.claim,ab] at hu
  by_cases ht:t=d
  ·rw[if_pos ht] at hu;cases hu;rw[ht];exact hrel true
  ·rw[if_neg ht] at hu;exact(h.slot t u hu).mono hpres
 ·obtain⟨q1,q2⟩:=g6 hk'
  exact(h.box k' cs' q2).keep ⟨rfl,by show(if k'=k then _ else _)=_;rw[if_neg q1],(h.box k' cs' q2).nF⟩ hpres
 ·rcases owns r sz' l' ho with ⟨rfl,rfl,rfl⟩| ⟨_,q2,_⟩
  ·exact⟨_,rfl,hnew⟩
  ·obtain⟨x,k1,k2⟩:=h.own r sz' l' q2
   exact⟨x,k1,hown k2⟩
 ·rcases owns r s1 l1 ho with ⟨rfl,rfl,rfl⟩| ⟨p1,p2,_⟩
  ·rcases owns r' s2 l2 ho' with ⟨rfl,_,_⟩| ⟨q1,q2,_⟩
   ·exact absurd rfl hne
   ·obtain⟨x,k1,k2⟩:=h.own r' s2 l2 q2
    rw[show rootV tm X.w r'=some x from k1] at hr'
    cases hr'
    have hk:=hgne (r:=r') k2 rfl
    simp only[rootV,hv,Option.some.injEq,Value.slice.injEq] at hr
    rw[← hr.1];exact fun e=>hk e.symm
  ·obtain⟨x,k1,k2⟩:=h.own r s1 l1 p2
   rcases owns r' s2 l2 ho' with ⟨rfl,_,_⟩| ⟨q1,q2,_⟩
   ·rw[show rootV tm X.w r=some x from k1] at hr
    cases hr
    have hk:=hgne (r:=r) k2 rfl
    simp only[rootV,hv,Option.some.injEq,Value.slice.injEq] at hr'
    rw[← hr'.1];exact hk
   ·exact h.disj r r' s1 l1 s2 l2 a n1 c1 a' n2 c2 hne p2 q2 hr hr'
 ·show(if b=k then _ else _)=_
  rw[if_neg (fun e=>b2 (by rw[← e];exact hF))]
structure SrcA (P:Program) (X:GW) (sz N q:Nat) (us:List AV) (x:Value) (vs:List Value):Prop where
 len:(Builtin.lenOf x).run P X.w=.ok N X.w
 first:∀w',w'.heap=X.w.heap→(Builtin.firstCells sz q x).run P w'=.ok vs.toArray w'
 lv:vs.length=q * sz
 lu:us.length=q * sz
 rel:∀ (i:Nat) u v,us[i]? =some u→vs[i]? =some v→Rel X u v
 one:∀v∈vs,v.oneCell'=true
theorem rA{X:GW}{u1 u2:List AV}{v1 v2:List Value}(hl:u1.length=v1.length)(h1:∀ (i:Nat) u v,u1[i]? =some u→v1[i]? =some v→Rel X u v)(h2:∀ (i:Nat) u v,u2[i]? =some u→v2[i]? =some v→Rel X u v):∀ (i:Nat) u v,(u1++u2)[i]? =some u→(v1++v2)[i]? =some v→Rel X u v:=fun i u v hu hv=>by
 by_cases hi:i < u1.length
 ·rw[List.getElem?_append_left hi] at hu
  rw[List.getElem?_append_left (by omega)] at hv
  exact h1 i u v hu hv
 ·rw[List.getElem?_append_right (by omega)] at hu
  rw[List.getElem?_append_right (by omega),← hl] at hv
  exact h2 _ u v hu hv
theorem De{sz:Nat}(h0:0 < sz):∀ {L:List (List AV)},(∀r∈L,r.length=sz)→∀ {i:Nat} {u:AV},L.flatten[i]? =some u→∃r,L[i / sz]? =some r∧r[i % sz]? =some u
 | [],_,i,u,h=>by simp at h
 |x::L,hsz,i,u,h=>by
  have hx:=hsz x (by simp)
  rw[List.flatten_cons] at h
  by_cases hi:i < sz
  ·rw[List.getElem?_append_left (by omega)] at h
   rw[Nat.div_eq_of_lt hi,Nat.mod_eq_of_lt hi]
   exact⟨x,rfl,h⟩
  ·rw[List.getElem?_append_right (by omega),hx] at h
   obtain⟨r,h1,h2⟩:=De h0 (L:=L) (fun r hr=>hsz r (by simp[hr])) h
   have e1:i / sz=(i - sz) / sz+1:=by
    have:=Nat.add_div_right (i - sz) h0
    rw[show i - sz+sz=i by omega] at this
    exact this
   have e2:i % sz=(i - sz) % sz:=by rw[Nat.mod_eq_sub_mod (by omega)]
   rw[e1,e2]
   exact⟨r,by simpa using h1,h2⟩
section
variable {P:Program} {T:Tys P} {σ:AS} {X:GW}
theorem wR{o:Bool}{sz:Nat}(h0:0 < sz){m:List (List AV)}{v:Value}(h:Rel X (.sl o sz m) v)(h1:∀r∈m,∀u∈r,u.one=true):∃vs,SrcA P X sz m.length m.length m.flatten v vs:=by
 have hrows:=p7 h
 obtain⟨c,hc⟩:=tv (P:=P) h fun r hr=>⟨hrows r hr,h1 r hr⟩
 refine⟨rowCells sz m.length c,hc.len,hc.first,bx _ _ _,mO hrows,fun i u v hu hv=> ?_,hc.one⟩
 obtain⟨r,k1,k2⟩:=De h0 hrows hu
 have h3:=kY (sz:=sz) (n:=m.length) (c:=c) (List.getElem?_eq_some_iff.1 k1).1 (Nat.mod_lt i h0)
 rw[show i / sz * sz+i % sz=i by rw[Nat.mul_comm];exact Nat.div_add_mod i sz,hv] at h3
 cases h3
 exact hc.rel _ _ _ _ k1 k2
theorem xS{F:Nat→Prop}{tm:Array Value}(h:SimE F X σ tm){k off sz n c q:Nat}{cs:List AV}(hb:look σ.h k=some cs)(hm:fx cs=false)(hl:off+q * sz≤cs.length)(h1:∀u∈(cs.drop off).take (q * sz),u.one=true):∃vs,SrcA P X sz n q ((cs.drop off).take (q * sz)) (.slice (some ⟨k,off,none⟩) n c) vs:=by
 obtain⟨b1,b2,arr,el,fr,b3,b4,b5,b6⟩:=(h.box k cs hb).cells hm
 have hll:((arr.toList.drop off).take (q * sz)).length=q * sz:=by rw[List.length_take,List.length_drop,Array.length_toList,b4];omega
 refine⟨(arr.toList.drop off).take (q * sz),rfl,fun w' hw=> ?_,hll,by rw[List.length_take,List.length_drop];omega,fun i u v hu hv=> ?_,fun v hv=> ?_⟩
 ·refine run_firstCells_some (P:=P) w' sz q ⟨k,off,none⟩ n c _ hll (fun j v hv=> ?_)
  rw[en]
  rw[List.getElem?_take] at hv
  split at hv
  ·rw[List.getElem?_drop,Array.getElem?_toList] at hv
   simp only[World.cell?,hw,b3];exact hv
  ·cases hv
 ·rw[List.getElem?_take] at hu hv
  split at hu
  ·rename_i hi
   rw[if_pos hi] at hv
   rw[List.getElem?_drop] at hu hv
   exact b6 _ _ _ hu (by simpa using hv)
  ·cases hu
 ·obtain⟨i,hi⟩:=List.getElem?_of_mem hv
  rw[List.getElem?_take] at hi
  split at hi
  ·rename_i hiq
   rw[List.getElem?_drop,Array.getElem?_toList] at hi
   have hlt:=(Array.getElem?_eq_some_iff.1 hi).1
   have hc:cs[off+i]? =some (cs[off+i]'(by omega)):=List.getElem?_eq_getElem (by omega)
   exact AV.one_rel (b6 _ _ _ hc hi) (h1 _ (List.mem_of_getElem? (i:=i) (by rw[List.getElem?_take,if_pos hiq,List.getElem?_drop];exact hc)))
  ·cases hi
variable {t u ty e:TypeId} {x y:Operand} {pos:String} {af:Array Edge} {g:Option (Nat × Bool)}
theorem sg{d k n c by_ sz N:Nat}{cs us:List AV}{du:TypeDesc}(hx:opV σ x=some (.v (.slice (some ⟨k,0,none⟩) n c)))(hb:look σ.h k=some cs)(hmp:fx cs=false)(ht:look T.ty t=some (.slice e))(hu:look T.ty u=some du)(hnz:du=.string∨∃e',du=.slice e')(hz:look T.sz e=some (sz,by_))
  (hsrc:∀F X (a:Act),SimE F X σ a.tmps→∃vs,SrcA P X sz N N us (a.eval y) vs) (hroom:n+N≤c) (hl:n * sz+N * sz≤cs.length) (hpl:fM us) (hd:Nat.ble (d+1) σ.n=true)
  {R:AS→Prop} (hR:R ((σ.setc k (b7 cs (n * sz) us)).put d (.v (.slice (some ⟨k,0,none⟩) (n+N) c)))):cy P ⟨some d,.call { callee:=.builtin .append,args:= #[x,y],argTypes:= #[t,u] },ty,pos,af,g⟩ σ R:=by
 intro F X a hs
 have e1:=bF (bt hs hx)
 obtain⟨vs,hv⟩:=hsrc F X a hs
 obtain⟨i,hi1,hi2,hi3,zv,hi4,hi5⟩:=T.szOk _ _ _ hz
 obtain⟨b1,b2,arr,el,fr,b3,b4,b5,b6⟩:=(hs.box k cs hb).cells hmp
 have hrun:=od (P:=P) (ty:=ty) (b:=k) (sLen:=n) (sCap:=c) (T.tyOk _ _ ht) (T.tyOk _ _ hu) hnz hi1 (x:=a.eval y) (m:=N) (news:=vs) ⟨hv.len,by rw[hi2];exact hv.first,by rw[hi2];exact hv.lv⟩ hv.one hroom (fun j hj=>by
  rw[hv.lv] at hj
  have:n * i.size+j < arr.size:=by rw[hi2,b4];omega
  simp[World.cell?,b3,this]) (fun j _=>b5 _)
 rw[hi2] at hrun
 obtain⟨s1,s2⟩:=SimE.setc (cs:=cs) (us:=us) (vs:=vs) hs hb (by rw[hv.lu];exact hl) (by rw[hv.lv,hv.lu]) hv.rel (fun j sz' l v ho=>by
  cases hi:us[j]? with
  |none=>rw[hi] at ho;cases ho
  |some u0=>rw[hi,hpl u0 (List.mem_of_getElem? hi)] at ho;cases ho) (fun j j' p q ho=>by
  cases hi:us[j]? with
  |none=>rw[hi] at ho;cases ho
  |some u0=>rw[hi,hpl u0 (List.mem_of_getElem? hi)] at ho;cases ho) hmp
 refine ci (x:=.slice (some ⟨k,0,none⟩) (n+N) c) (w':=X.w.setCells k (n * sz) vs) (cb e1 rfl hrun) ⟨_,_,rfl,hR,?_,s2⟩
 exact s1.put' (by show d < σ.n;exact ba hd) (.v _) (fun sz l h=>by cases h) (fun r sz l sz' l' q n c q' n' c' h1 h2=>by cases h2)
theorem nE{o:Oper}{d nn:Nat}{us0:List AV}{Fact:Nat→List AV→Prop}(hdst:o.dst=some d)(hd:Nat.ble (d+1) σ.n=true)(hp:∀cap sp,Fact cap sp→fM (us0++sp))
  (hrun:∀F X (a:Act),SimE F X σ a.tmps→∃ (arr:Array Value) (el:TypeId) (cap:Nat) (sp:List AV),Fact cap sp∧(execOp a.eval o).run P X.w=.ok (.value (.slice (some ⟨X.w.heap.size,0,none⟩) nn cap)) (X.w.drew.alloc (.cells arr el))∧arr.size=(us0++sp).length∧∀ (i:Nat) u x,(us0++sp)[i]? =some u→arr[i]? =some x→Rel X u x)
  {R:AS→Prop} (hR:∀k cap sp,gm k σ.h→Fact cap sp→R ((σ.box k (us0++sp)).put d (.v (.slice (some ⟨k,0,none⟩) nn cap)))):cy P o σ R:=by
 intro F X a hs
 obtain⟨arr,el,cap,sp,hF,h1,h2,h3⟩:=hrun F X a hs
 have hn:New X ⟨X.w.drew.alloc (.cells arr el),X.g⟩:=⟨rfl,rfl,rfl,by show X.w.heap.size≤(X.w.heap.push _).size;simp,fun b hb=>⟨by show(X.w.heap.push _)[b]? =_;rw[Array.getElem?_push,if_neg (by omega)],rfl⟩⟩
 have hgb:∀b n,X.g b=some n→b < (X.w.drew.alloc (.cells arr el)).heap.size:=fun b n hb=>by have:=hs.gb b n hb;show b < (X.w.heap.push _).size;simp;omega
 have hnew:=hs.new hn hgb
 have hgk:X.g X.w.heap.size=none:=by
  cases hg:X.g X.w.heap.size with
  |none=>rfl
  |some n=>have:=hs.gb _ _ hg;omega
 have hhk:(X.w.drew.alloc (.cells arr el)).heap[X.w.heap.size]? =some (.cells arr el):=by show(X.w.heap.push _)[_]? =_;simp
 have hb:eI F ⟨X.w.drew.alloc (.cells arr el),X.g⟩ X.w.heap.size (us0++sp):=by
  refine eg.box ⟨hgk,fun hF=>Nat.lt_irrefl _ (hs.fb _ hF),arr,el,(0,0),hhk,h2,fun o=> ?_,fun i u x hu hx=>(h3 i u x hu hx).mono (hn.pres hs.gb)⟩
  show(X.w.drew.alloc (.cells arr el)).frozen? ⟨X.w.heap.size,o,none⟩=false
  simp only[World.frozen?,hhk];simp
 refine ci h1 ⟨⟨X.w.drew.alloc (.cells arr el),X.g⟩,_,rfl,hR X.w.heap.size cap sp (fun q hq e1=> ?_) hF,?_,hn.ext hs.gb hs.fb⟩
 ·obtain⟨k,cs'⟩:=q
  simp only at e1
  subst e1
  have:∀ {l:List (Nat × List AV)} {k:Nat} {c:List AV},(k,c)∈l→∃c',look l k=some c':=by
   intro l
   induction l with
   |nil=>intro k c h;cases h
   |cons p l ih=>
    intro k c h
    obtain⟨k0,c0⟩:=p
    by_cases e2:k=k0
    ·exact⟨c0,by rw[ab,if_pos e2]⟩
    ·rcases List.mem_cons.1 h with h|h
     ·cases h;exact absurd rfl e2
     ·obtain⟨c',h'⟩:=ih h
      exact⟨c',by rw[ab,if_neg e2];exact h'⟩
  obtain⟨c',h'⟩:=this hq
  exact Nat.lt_irrefl _ (hs.box _ _ h').lt
 ·rw[hdst]
  exact(hnew.box1 hb (hp cap sp hF)).put_new (ba hd) (New.refl _) hgb (.v _) (FreshOk.plain rfl)
theorem zw{d k n c by_ sz N:Nat}{cs us:List AV}{du:TypeDesc}(hx:opV σ x=some (.v (.slice (some ⟨k,0,none⟩) n c)))(hb:look σ.h k=some cs)(hmp:fx cs=false)(ht:look T.ty t=some (.slice e))(hu:look T.ty u=some du)(hnz:du=.string∨∃e',du=.slice e')(hz:look T.sz e=some (sz,by_))(hb1:1≤by_)
  (hsrc:∀F X (a:Act),SimE F X σ a.tmps→∃vs,SrcA P X sz N N us (a.eval y) vs) (hroom:c < n+N) (hl:n * sz≤cs.length) (ho:∀u∈cs.take (n * sz),u.one=true) (hfit:(n+N) * by_≤140737488355328) (hpl:fM us) (hpc:fM (cs.take (n * sz))) (hd:Nat.ble (d+1) σ.n=true)
  {R:AS→Prop} (hR:∀k' cap sp,gm k' σ.h→(n+N≤cap∧(cs.take (n * sz)++us++sp).length=cap * sz∧fM sp)→R ((σ.box k' (cs.take (n * sz)++us++sp)).put d (.v (.slice (some ⟨k',0,none⟩) (n+N) cap)))):cy P ⟨some d,.call { callee:=.builtin .append,args:= #[x,y],argTypes:= #[t,u] },ty,pos,af,g⟩ σ R:=by
 refine nE (Fact:=fun cap sp=>n+N≤cap∧(cs.take (n * sz)++us++sp).length=cap * sz∧fM sp) rfl hd (fun cap sp h v hv=> ?_) (fun F X a hs=> ?_) hR
 ·rcases List.mem_append.1 hv with hv|hv
  ·rcases List.mem_append.1 hv with hv|hv
   ·exact hpc v hv
   ·exact hpl v hv
  ·exact h.2.2 v hv
 ·have e1:=bF (bt hs hx)
  obtain⟨vs,hv⟩:=hsrc F X a hs
  obtain⟨i,hi1,hi2,hi3,zv,hi4,hi5⟩:=T.szOk _ _ _ hz
  obtain⟨os,hos⟩:=xS (P:=P) (sz:=sz) (off:=0) (n:=n) (c:=c) (q:=n) hs hb hmp (by omega) (by rw[List.drop_zero];exact ho)
  rw[List.drop_zero] at hos
  have hcge:=grownCap_ge X.w (n+N) c e
  have hrun:=gc (P:=P) (ty:=ty) (sLen:=n) (sCap:=c) (a:=some ⟨k,0,none⟩) (m:=N) (olds:=os) (news:=vs) (x:=a.eval y) (T.tyOk _ _ ht) (T.tyOk _ _ hu) hnz hi1 hi4 ⟨hv.len,by rw[hi2];exact hv.first,by rw[hi2];exact hv.lv⟩ (fun w' hw=>by rw[hi2];exact hos.first w' hw) hroom (by rw[hi3];exact hfit) (by rw[hi3];exact hb1)
  refine⟨_,e,grownCap X.w (n+N) c e,(Builtin.zeroCells zv.cells (grownCap X.w (n+N) c e - (n+N))).toList.map .v,⟨hcge,?_,fun v hv=> ?_⟩,cb e1 rfl hrun,?_,fun j u0 v hu0 hv0=> ?_⟩
  ·rw[List.length_append,List.length_append,hv.lu,hos.lu,List.length_map,Array.length_toList]
   have:(Builtin.zeroCells zv.cells (grownCap X.w (n+N) c e - (n+N))).size=(grownCap X.w (n+N) c e - (n+N)) * sz:=by simp[Builtin.zeroCells,hi5]
   rw[this,← Nat.add_mul,← Nat.add_mul];congr 1;omega
  ·obtain⟨z,_,rfl⟩:=List.mem_map.1 hv;rfl
  ·simp only[Array.size_append,List.size_toArray,List.length_append,hv.lu,hos.lu,hv.lv,hos.lv,List.length_map,Array.length_toList]
  ·have hl0:(os.toArray++vs.toArray++Builtin.zeroCells zv.cells (grownCap X.w (n+N) c e - (n+N)))[j]? =(os++vs++ (Builtin.zeroCells zv.cells (grownCap X.w (n+N) c e - (n+N))).toList)[j]? :=by
    rw[← Array.getElem?_toList];simp
   rw[hl0] at hv0
   refine rA (by rw[List.length_append,List.length_append,hv.lu,hos.lu,hv.lv,hos.lv]) (rA (by rw[hos.lu,hos.lv]) hos.rel hv.rel) (fun i u v hu hv=> ?_) j u0 v hu0 hv0
   rw[List.getElem?_map,hv] at hu
   cases hu
   exact .v _
end
theorem B6{Q:Exit→AS→Prop}{ks:List It}{P:Program}{σ:AS}{l:List Oper}{k:Nat}{o:Oper}{rest:List Oper}{d:Nat}(ho:l[k]? =some o)(hw:fT l σ o=true)(hdst:o.dst=some d)(hd:Nat.ble (d+1) σ.n=true)
  (hn:aY P Q (.o l (k+1) rest::ks) (AS.nf (σ.put d (.v undef)))):aY P Q (.o l k (o::rest)::ks) σ:=by
 intro F X a hs D hdf
 have hk:k < l.length:=(List.getElem?_eq_some_iff.1 ho).1
 rw[lQ hk]
 have ho':(l.toArray)[k]? =some o:=by simpa using ho
 simp only[wpOps,ho']
 rw[if_neg (by rw[yG hs hw];simp)]
 refine hn F X (a.put o.dst undef) ?_ D (by rw[eM];exact hdf)
 rw[hdst]
 exact hs.put_new (ba hd) (New.refl X) hs.gb (.v _) (FreshOk.plain rfl)
section
variable {P:Program} {T:Tys P} {σ:AS} {t ty:TypeId} {x y z:Operand} {pos:String} {af:Array Edge} {g:Option (Nat × Bool)}
def imap(l:List (Int × AV)):AV:=.mp (l.map fun p=>(.int .i64 p.1,p.2))
def iget(l:List (Int × AV))(k:Int):Option AV:=match l with
 | [] =>none
 | (k',u)::r=>if k=k' then some u else iget r k
def iset(l:List (Int × AV))(k:Int)(u:AV):List (Int × AV):=match l with
 | [] =>[(k,u)]
 | (k',u')::r=>if k=k' then(k,u)::r else(k',u')::iset r k u
theorem rk(k:Int):∀ (l:List (Int × AV)) (es:List MapEntry) (i:Nat),es.length=l.length→(∀ (j:Nat) (e:MapEntry) p,l[j]? =some p→es[j]? =some e→e.key=.int .i64 p.1)→
  (iget l k=none∧Instr.findNow (.int .i64) (.int .i64 k) es i=some none∧∀u,iset l k u=l++ [(k,u)])∨∃ (j:Nat) (e:MapEntry) (u:AV),l[j]? =some (k,u)∧es[j]? =some e∧iget l k=some u∧Instr.findNow (.int .i64) (.int .i64 k) es i=some (some (i+j,e.val))∧∀u',iset l k u'=l.set j (k,u')
 | [],es,i,hl,hk=>by
   have:es=[] :=List.length_eq_zero_iff.1 hl
   subst this
   exact .inl ⟨rfl,rfl,fun u=>rfl⟩
 | (k',u0)::l,[],i,hl,hk=>by simp at hl
 | (k',u0)::l,e::es,i,hl,hk=>by
   have h0:=hk 0 e (k',u0) rfl rfl
   simp only at h0
   by_cases e1:k=k'
   ·subst e1
    refine .inr ⟨0,e,u0,rfl,rfl,by simp[iget],?_,fun u'=>by simp[iset]⟩
    simp[Instr.findNow,Instr.sameNow,h0]
   ·have hs:Instr.sameNow (.int .i64) (.int .i64 k) e.key=some false:=by rw[h0];simp[Instr.sameNow,e1]
    rcases rk k l es (i+1) (by simpa using hl) (fun j e' p hp he=>hk (j+1) e' p (by simpa using hp) (by simpa using he)) with ⟨h1,h2,h3⟩| ⟨j,e',u,h1,h2,h3,h4,h5⟩
    ·exact .inl ⟨by simp[iget,e1,h1],by simp[Instr.findNow,hs,h2],fun u=>by simp[iset,e1,h3]⟩
    ·exact .inr ⟨j+1,e',u,by simpa using h1,by simpa using h2,by simp[iget,e1,h3],by simp[Instr.findNow,hs,h4];omega,fun u'=>by simp[iset,e1,h5]⟩
theorem mS{w:World}{kt:TypeId}{b:Bool}{n:Int}(hk:P.underlying kt=some (.int .i64)):(Instr.checkKey b 10000 kt (.int .i64 n)).run P w=.ok () w:=MapKept.run_checkKey (k:=.int .i64 n) hk rfl b 9999
theorem CI{d:Option Tmp}{kt et:TypeId}{zv:Value}{k:Nat}{l:List (Int × AV)}{key:Int}(hx:opV σ x=some (.v (.map (some k))))(hb:look σ.h k=some [imap l])(hy:opV σ y=some (.v (.int .i64 key)))(ht:look T.ty t=some (.map kt et))(hk:look T.ty kt=some (.int .i64))(hz:look T.zr et=some zv):
  OpV P ⟨d,.lookup t x y true,ty,pos,af,g⟩ σ (.tu [match iget l key with|some u=>u.rd|none=>cst zv,.v (.bool (iget l key).isSome)]):=by
 refine aG (tX _) fun F X a hs=> ?_
 have e1:=aL hs (by simp[Op.operands]) hx
 have e2:=aL hs (by simp[Op.operands]) hy
 obtain⟨g1,g2,es,ck,g3,g4,g5⟩:=(hs.box k _ hb).map
 have hut:=T.tyOk _ _ ht
 have huk:=T.tyOk _ _ hk
 obtain⟨iz,hz1,hz2⟩:=T.zrOk _ _ hz
 have hfind:=rk key l es.toList 0 (by simpa using g4) (fun j e p hp he=>(g5 j e (.int .i64 p.1,p.2) (by simp[hp]) (by simpa using he)).1)
 have hck:=mS (P:=P) (w:=X.w) (b:=es.isEmpty) (n:=key) huk
 rcases hfind with ⟨h1,h2,_⟩| ⟨j,e,u,h1,h2,h3,h4,_⟩
 ·refine⟨.tuple #[zv,.bool false],?_,?_⟩
  ·simp only[execOp,e1,e2]
   refine aW ?_
   simp[Instr.lookup,run_underlying hut,MapKept.run_getObj_map g3,hck,Instr.findKey,run_underlying huk,h2,zeroValue,typeInfo,hz1,hz2]
  ·rw[h1]
   refine .tu _ _ rfl fun i u x hu hx=> ?_
   match i,hu,hx with
   |0,hu,hx=>simp at hu hx;subst hu hx;exact nH X zv
   |1,hu,hx=>simp at hu hx;subst hu hx;exact .v _
   |n+2,hu,hx=>simp at hu
 ·refine⟨.tuple #[e.val,.bool true],?_,?_⟩
  ·simp only[execOp,e1,e2]
   refine aW ?_
   simp[Instr.lookup,run_underlying hut,MapKept.run_getObj_map g3,hck,Instr.findKey,run_underlying huk,h4]
  ·rw[h3]
   refine .tu _ _ rfl fun i u' x hu hx=> ?_
   match i,hu,hx with
   |0,hu,hx=>
    simp at hu hx;subst hu hx
    exact(g5 j e (.int .i64 key,u) (by simp[h1]) (by simpa using h2)).2.rd
   |1,hu,hx=>simp at hu hx;subst hu hx;exact .v _
   |n+2,hu,hx=>simp at hu
theorem r7{d:Option Tmp}{kt et:TypeId}{zv:Value}{k:Nat}{l:List (Int × AV)}{key:Int}(hx:opV σ x=some (.v (.map (some k))))(hb:look σ.h k=some [imap l])(hy:opV σ y=some (.v (.int .i64 key)))(ht:look T.ty t=some (.map kt et))(hk:look T.ty kt=some (.int .i64))(hz:look T.zr et=some zv)(hpz:(cst zv).isSl=false):
  OpV P ⟨d,.lookup t x y false,ty,pos,af,g⟩ σ (match iget l key with|some u=>u.rd|none=>cst zv):=by
 refine aG (by cases iget l key with
  |none=>exact bg zv
  |some u=>exact ef u) fun F X a hs=> ?_
 have e1:=aL hs (by simp[Op.operands]) hx
 have e2:=aL hs (by simp[Op.operands]) hy
 obtain⟨g1,g2,es,ck,g3,g4,g5⟩:=(hs.box k _ hb).map
 have hut:=T.tyOk _ _ ht
 have huk:=T.tyOk _ _ hk
 obtain⟨iz,hz1,hz2⟩:=T.zrOk _ _ hz
 have hfind:=rk key l es.toList 0 (by simpa using g4) (fun j e p hp he=>(g5 j e (.int .i64 p.1,p.2) (by simp[hp]) (by simpa using he)).1)
 have hck:=mS (P:=P) (w:=X.w) (b:=es.isEmpty) (n:=key) huk
 rcases hfind with ⟨h1,h2,_⟩| ⟨j,e,u,h1,h2,h3,h4,_⟩
 ·refine⟨zv,?_,by rw[h1];exact nH X zv⟩
  simp only[execOp,e1,e2]
  refine aW ?_
  simp[Instr.lookup,run_underlying hut,MapKept.run_getObj_map g3,hck,Instr.findKey,run_underlying huk,h2,zeroValue,typeInfo,hz1,hz2]
 ·refine⟨e.val,?_,by rw[h3];exact(g5 j e (.int .i64 key,u) (by simp[h1]) (by simpa using h2)).2.rd⟩
  simp only[execOp,e1,e2]
  refine aW ?_
  simp[Instr.lookup,run_underlying hut,MapKept.run_getObj_map g3,hck,Instr.findKey,run_underlying huk,h4]
theorem uw{kt et:TypeId}{k:Nat}{l:List (Int × AV)}{key:Int}{u:AV}(hx:opV σ x=some (.v (.map (some k))))(hb:look σ.h k=some [imap l])(hy:opV σ y=some (.v (.int .i64 key)))(hz:opV σ z=some u)(ht:look T.ty t=some (.map kt et))(hk:look T.ty kt=some (.int .i64)){R:AS→Prop}(hR:R (σ.setc k [imap (iset l key u.rd)])):
  cy P ⟨none,.mapUpdate t x y z,ty,pos,af,g⟩ σ R:=by
 intro F X a hs
 have e1:=bF (bt hs hx)
 have e2:=bF (bt hs hy)
 have e3:=(bt hs hz).rd
 obtain⟨g1,g2,es,ck,g3,g4,g5⟩:=(hs.box k _ hb).map
 have hut:=T.tyOk _ _ ht
 have huk:=T.tyOk _ _ hk
 have hfind:=rk key l es.toList 0 (by simpa using g4) (fun j e p hp he=>(g5 j e (.int .i64 p.1,p.2) (by simp[hp]) (by simpa using he)).1)
 have hck:=mS (P:=P) (w:=X.w) (b:=false) (n:=key) huk
 have hkl:k < X.w.heap.size:=(Array.getElem?_eq_some_iff.1 g3).1
 have fin:∀ (es':Array MapEntry) (ck':Nat),(execOp a.eval ⟨none,.mapUpdate t x y z,ty,pos,af,g⟩).run P X.w=.ok .skip { X.w with heap:=X.w.heap.setIfInBounds k (.map es' ck') }→es'.size=(iset l key u.rd).length→
   (∀ (i:Nat) (e:MapEntry) p,((iset l key u.rd).map fun p=>(Value.int .i64 p.1,p.2))[i]? =some p→es'[i]? =some e→e.key=p.1∧Rel X p.2 e.val)→jN P ⟨none,.mapUpdate t x y z,ty,pos,af,g⟩ a X.w fun x w'=>∃ (X':GW) (σ':AS),X'.w=w'∧R σ'∧SimE F X' σ' (a.put none x).tmps∧Ext F X X':=by
  intro es' ck' hrun hsz hen
  obtain⟨s1,s2⟩:=SimE.setm (l:=l.map fun p=>(Value.int .i64 p.1,p.2)) (l':=(iset l key u.rd).map fun p=>(Value.int .i64 p.1,p.2)) (w':={ X.w with heap:=X.w.heap.setIfInBounds k (.map es' ck') }) hs hb (fun c hc=>by simp[Array.getElem?_setIfInBounds,Ne.symm hc]) (by simp) rfl rfl rfl ⟨es',ck',by simp[hkl],by simpa using hsz,hen⟩
  unfold jN
  rw[hrun]
  exact⟨_,_,rfl,hR,s1,s2⟩
 rcases hfind with ⟨h1,h2,h3⟩| ⟨j,e,u0,h1,h2,h3,h4,h5⟩
 ·refine fin (es.push { key:=.int .i64 key,val:=a.eval z,born:=ck }) (ck+1) ?_ (by rw[h3];simp[g4]) (fun i e' p hp he=> ?_)
  ·simp only[execOp,e1,e2]
   simp[Instr.mapUpdate,run_underlying hut,MapKept.run_getObj_map g3,hck,Instr.findKey,run_underlying huk,h2,MapKept.run_setObj_map _ g3]
  ·rw[h3,List.map_append] at hp
   by_cases hi:i < es.size
   ·rw[List.getElem?_append_left (by simp at g4;simp;omega)] at hp
    rw[Array.getElem?_push,if_neg (by omega)] at he
    exact g5 i e' p hp he
   ·have hie:i=es.size:=by
     have:=(Array.getElem?_eq_some_iff.1 he).1
     simp at this;omega
    rw[List.getElem?_append_right (by simp at g4;simp;omega)] at hp
    rw[hie] at hp he
    simp at g4 hp he
    rw[g4] at hp
    simp at hp
    subst hp he
    exact⟨rfl,e3⟩
 ·have hje:es.toList[j]? =some e:=h2
  have hke:=(g5 j e (.int .i64 key,u0) (by simp[h1]) (by simpa using h2)).1
  have hjl:j < es.size:=by
   have:=(List.getElem?_eq_some_iff.1 h2).1
   simpa using this
  refine fin (es.modify j fun e=>{ e with key:=.int .i64 key,val:=a.eval z }) ck ?_ (by rw[h5];simp at g4 ⊢;exact g4) (fun i e' p hp he=> ?_)
  ·have hst:(Instr.keyThatStays (.int .i64 key) (.int .i64 key)).run P X.w=.ok (.int .i64 key) X.w:=by
    exact MapKept.run_keyThatStays (d:=.int .i64) rfl
   have hkk:((es[j]?).map (·.key)).getD (.int .i64 key)=.int .i64 key:=by
    have:es[j]? =some e:=by simpa using h2
    rw[this];simpa using hke
   simp only[execOp,e1,e2]
   simp only[Nat.zero_add] at h4
   simp[Instr.mapUpdate,run_underlying hut,MapKept.run_getObj_map g3,hck,Instr.findKey,run_underlying huk,h4,hkk,hst,MapKept.run_setObj_map _ g3]
  ·rw[h5,List.map_set] at hp
   rw[Array.getElem?_modify] at he
   by_cases hij:j=i
   ·subst hij
    rw[if_pos rfl] at he
    rw[List.getElem?_set_self (by simp at g4;simp;omega)] at hp
    have h2':es[j]? =some e:=by simpa using h2
    rw[h2'] at he
    simp at he hp
    subst hp he
    exact⟨rfl,e3⟩
   ·rw[if_neg hij] at he
    rw[List.getElem?_set_ne hij] at hp
    exact g5 i e' p hp he
end
inductive Ty where
 |int (k:IntKind)
 |byte
 |bool
 |str
 |sl (t:Ty)
 |nam (i:Nat)
 |ptr (t:Ty)
 |bits (n:Nat)
 deriving DecidableEq
def Den(T:Nat→Type):Ty→Type
 |.int _=>Int
 |.byte=>UInt8
 |.bool=>Bool
 |.str=>List UInt8
 |.sl t=>List (Den T t)
 |.nam i=>T i
 |.ptr t=>Option (Den T t)
 |.bits _=>List Bool
structure Enc where
 T:Nat→Type
 enc:∀i,T i→List AV
 sz:Nat→Nat
 len:∀i z,(enc i z).length=sz i
 one:∀i z,∀u∈enc i z,u.one=true∧u.rd=u
def csz(E:Enc):Ty→Nat
 |.nam i=>E.sz i
 |.bits n=>n
 |_=>1
def cells(E:Enc):(t:Ty)→Den E.T t→List AV
 |.int k,x=>[.v (.int k x)]
 |.byte,b=>[.v (.int .u8 (UInt8.toNat b))]
 |.bool,b=>[.v (.bool b)]
 |.str,s=>[.v (.string (mkB s))]
 |.sl t,l=>[.sl false (csz E t) (List.map (cells E t) l)]
 |.nam i,z=>E.enc i z
 |.ptr _,none=>[.v (.pointer none)]
 |.ptr t,some y=>[.el (cells E t y)]
 |.bits n,l=>(List.range n).map fun i=>.v (.bool (List.getD l i false))
def one(E:Enc)(t:Ty)(x:Den E.T t):AV:=
 match t,x with
 |.nam i,z=>.ag (E.enc i z)
 |.bits n,l=>.ag (cells E (.bits n) l)
 |t,x=>(cells E t x).headD (.v undef)
theorem eK(E:Enc)(t:Ty)(x:Den E.T t):(cells E t x).length=csz E t:=by
 cases t with
 |nam i=>exact E.len i x
 |ptr t=>cases x<;> rfl
 |bits n=>simp[cells,csz]
 |_=>rfl
theorem jU(E:Enc)(t:Ty)(x:Den E.T t):∀u∈cells E t x,u.one=true∧u.rd=u:=by
 cases t with
 |bits n=>
  intro u hu
  have hu':u∈(List.range n).map fun i=>AV.v (.bool (List.getD (show List Bool from x) i false)):=hu
  obtain⟨i,_,rfl⟩:=List.mem_map.1 hu'
  exact⟨rfl,rfl⟩
 |nam i=>exact E.one i x
 |ptr t=>cases x<;> (intro u hu;simp only[cells,List.mem_singleton] at hu;subst hu;exact⟨rfl,rfl⟩)
 |_=>intro u hu;simp only[cells,List.mem_singleton] at hu;subst hu;exact⟨rfl,rfl⟩
def Ty.lone:Ty→Bool
 |.nam _=>false
 |.bits _=>false
 |_=>true
theorem pG(E:Enc){t:Ty}(h:t.lone=true)(x:Den E.T t):cells E t x=[one E t x] :=by
 cases t with
 |nam i=>cases h
 |bits n=>cases h
 |ptr t=>cases x<;> rfl
 |_=>rfl
theorem tp(E:Enc)(t:Ty)(x:Den E.T t):(one E t x).rd=one E t x:=by
 cases t with
 |ptr t=>cases x<;> rfl
 |_=>rfl
structure Bk where
 b:Nat
 nil:Bool
 sp:List Value
structure Rn where
 k:Nat→Bk
def Rn.zero:Rn:=⟨fun _=>⟨0,false,[]⟩⟩
def Rn.b(ρ:Rn)(i:Nat):Nat:=(ρ.k i).b
instance:CoeFun Rn (fun _=>Nat→Nat):=⟨Rn.b⟩
def pf:List Value→Option Addr
 | [.slice a _ _] =>a
 |_=>none
def vecV(b:Bk)(sz n:Nat):Value:=if(b.nil && Nat.beq n 0)=true then .slice (pf b.sp) 0 0 else .slice (some ⟨b.b,0,none⟩) n (n+b.sp.length / sz)
def pn(b:Bk)(sz off n:Nat):Value:=if(b.nil && Nat.beq (off+n) 0)=true then .slice (pf b.sp) 0 0 else .slice (some ⟨b.b,if n+b.sp.length / sz=0 then 0 else off * sz,none⟩) n (n+b.sp.length / sz)
inductive TA (T:Nat→Type) where
 |d (t:Ty) (x:Den T t)
 |own (t:Ty) (l:List (Den T t))
 |box (i off:Nat)
 |mpr (i:Nat)
 |fnb (f:FuncId) (l:List Nat)
 |raw (v:Value)
 |tt
 |ff
 |clip (t:Ty) (l:List (Den T t))
 |bsl (i off n c:Nat)
 |vec (t:Ty) (i n:Nat)
 |pel (t:Ty) (i j o:Nat)
 |vsl (t:Ty) (i off n:Nat)
inductive TC (T:Nat→Type) where
 |a (x:TA T)
 |ag (l:List (TA T))
inductive TV (T:Nat→Type) where
 |a (x:TA T)
 |ag (l:List (TA T))
 |el (l:List (TA T))
 |tu (l:List (TC T))
 |fn (f:FuncId) (l:List (TA T))
 |ifc (t:TypeId) (x:TC T)
inductive TB (T:Nat→Type) where
 |cs (l:List (TA T))
 |smap (t:Ty) (l:List (List UInt8 × Den T t))
 |row (t:Ty) (l:List (Den T t))
 |vec (i:Nat) (t:Ty) (l:List (Den T t))
 |imap (t:Ty) (l:List (Int × Den T t))
def qj{α:Type}:List (List UInt8 × α)→List UInt8→Option α
 | [],_=>none
 | (k',u)::r,k=>if k=k' then some u else qj r k
def zV{α:Type}:List (List UInt8 × α)→List UInt8→α→List (List UInt8 × α)
 | [],k,u=>[(k,u)]
 | (k',u')::r,k,u=>if k=k' then(k,u)::r else(k',u')::zV r k u
theorem yE{α:Type}(f:α→AV):∀ (l:List (List UInt8 × α)) (k:List UInt8),lget (l.map fun p=>(p.1,f p.2)) k=(qj l k).map f
 | [],k=>rfl
 | (k',u)::r,k=>by
   simp only[List.map_cons,lget,qj]
   split
   ·rfl
   ·exact yE f r k
theorem E0{α:Type}(f:α→AV):∀ (l:List (List UInt8 × α)) (k:List UInt8) (u:α),lset (l.map fun p=>(p.1,f p.2)) k (f u)=(zV l k u).map fun p=>(p.1,f p.2)
 | [],k,u=>rfl
 | (k',u')::r,k,u=>by
   simp only[List.map_cons,lset,zV]
   split
   ·rfl
   ·rw[E0 f r k u];rfl
def wI{α:Type}:List (Int × α)→Int→Option α
 | [],_=>none
 | (k',u)::r,k=>if k=k' then some u else wI r k
def Dm{α:Type}:List (Int × α)→Int→α→List (Int × α)
 | [],k,u=>[(k,u)]
 | (k',u')::r,k,u=>if k=k' then(k,u)::r else(k',u')::Dm r k u
theorem yQ{α:Type}(f:α→AV):∀ (l:List (Int × α)) (k:Int),iget (l.map fun p=>(p.1,f p.2)) k=(wI l k).map f
 | [],k=>rfl
 | (k',u)::r,k=>by
   simp only[List.map_cons,iget,wI]
   split
   ·rfl
   ·exact yQ f r k
theorem Fh{α:Type}(f:α→AV):∀ (l:List (Int × α)) (k:Int) (u:α),iset (l.map fun p=>(p.1,f p.2)) k (f u)=(Dm l k u).map fun p=>(p.1,f p.2)
 | [],k,u=>rfl
 | (k',u')::r,k,u=>by
   simp only[List.map_cons,iset,Dm]
   split
   ·rfl
   ·rw[Fh f r k u];rfl
def TA.to(E:Enc)(ρ:Rn):TA E.T→AV
 |.d t x=>Go.Proofs.YtobacplonkjigaaDoor.one E t x
 |.own t l=>.sl true (csz E t) (l.map (cells E t))
 |.box i off=>.v (.pointer (some ⟨ρ i,off,none⟩))
 |.mpr i=>.v (.map (some (ρ i)))
 |.fnb f l=>.fn f (l.map fun i=>.v (.pointer (some ⟨ρ i,0,none⟩)))
 |.raw v=>.v v
 |.tt=>.v (.bool true)
 |.ff=>.v (.bool false)
 |.clip t l=>.cl (csz E t) (l.map (cells E t))
 |.bsl i off n c=>.v (.slice (some ⟨ρ i,off,none⟩) n c)
 |.vec t i n=>.v (vecV (ρ.k i) (csz E t) n)
 |.pel t i j o=>.v (.pointer (some ⟨ρ i,j * csz E t+o,none⟩))
 |.vsl t i off n=>.v (pn (ρ.k i) (csz E t) off n)
theorem JL(b:Bk)(sz n:Nat):∃a m c,vecV b sz n=.slice a m c:=by
 unfold vecV;split<;> exact⟨_,_,_,rfl⟩
theorem Ju(b:Bk)(sz off n:Nat):∃a m c,pn b sz off n=.slice a m c:=by
 unfold pn;split<;> exact⟨_,_,_,rfl⟩
theorem TA.vec_form(E:Enc)(ρ:Rn)(t:Ty)(i n:Nat):∃a m c,(TA.vec t i n:TA E.T).to E ρ=.v (.slice a m c):=by
 obtain⟨a,m,c,h⟩:=JL (ρ.k i) (csz E t) n
 exact⟨a,m,c,by rw[← h];rfl⟩
theorem TA.vsl_form(E:Enc)(ρ:Rn)(t:Ty)(i off n:Nat):∃a m c,(TA.vsl t i off n:TA E.T).to E ρ=.v (.slice a m c):=by
 obtain⟨a,m,c,h⟩:=Ju (ρ.k i) (csz E t) off n
 exact⟨a,m,c,by rw[← h];rfl⟩
def TC.to(E:Enc)(ρ:Rn):TC E.T→AV
 |.a x=>x.to E ρ
 |.ag l=>.ag (l.map (TA.to E ρ))
def TV.to(E:Enc)(ρ:Rn):TV E.T→AV
 |.a x=>x.to E ρ
 |.ag l=>.ag (l.map (TA.to E ρ))
 |.el l=>.el (l.map (TA.to E ρ))
 |.tu l=>.tu (l.map (TC.to E ρ))
 |.fn f l=>.fn f (l.map (TA.to E ρ))
 |.ifc t x=>.ifc t (x.to E ρ)
def TB.to(E:Enc)(ρ:Rn):TB E.T→List AV
 |.cs l=>l.map (TA.to E ρ)
 |.smap t l=>[Go.Proofs.YtobacplonkjigaaDoor.smap (l.map fun p=>(p.1,Go.Proofs.YtobacplonkjigaaDoor.one E t p.2))]
 |.row t l=>(l.map (cells E t)).flatten
 |.imap t l=>[Go.Proofs.YtobacplonkjigaaDoor.imap (l.map fun p=>(p.1,Go.Proofs.YtobacplonkjigaaDoor.one E t p.2))]
 |.vec i t l=>(l.map (cells E t)).flatten++ (ρ.k i).sp.map AV.v
def a8{T:Nat→Type}(ρ:Rn):TB T→Bool
 |.vec i _ l=> !((ρ.k i).nil && l.isEmpty)
 |_=>true
def TA.rd{T:Nat→Type}:TA T→TA T
 |.own t l=>.d (.sl t) l
 |x=>x
def TC.rd{T:Nat→Type}:TC T→TC T
 |.a x=>.a x.rd
 |.ag l=>.ag l
def TV.rd{T:Nat→Type}:TV T→TV T
 |.a x=>.a x.rd
 |u=>u
theorem TA.rd_to(E:Enc)(ρ:Rn)(x:TA E.T):x.rd.to E ρ=(x.to E ρ).rd:=by
 cases x with
 |d t x=>exact(tp E t x).symm
 |_=>rfl
theorem TC.rd_to(E:Enc)(ρ:Rn)(x:TC E.T):x.rd.to E ρ=(x.to E ρ).rd:=by
 cases x with
 |a x=>exact TA.rd_to E ρ x
 |ag l=>rfl
theorem TV.rd_to(E:Enc)(ρ:Rn)(x:TV E.T):x.rd.to E ρ=(x.to E ρ).rd:=by
 cases x with
 |a x=>exact TA.rd_to E ρ x
 |_=>rfl
theorem TA.to_notMp(E:Enc)(ρ:Rn)(x:TA E.T):(x.to E ρ).isMp=false:=by
 cases x with
 |d t x=>
  cases t with
  |ptr t=>cases x<;> rfl
  |_=>rfl
 |_=>rfl
def TA.plain{T:Nat→Type}:TA T→Bool
 |.own _ _=>false
 |_=>true
theorem vA(E:Enc)(t:Ty)(x:Den E.T t):cw (some (one E t x))=none:=by
 cases t with
 |ptr t=>cases x<;> rfl
 |_=>rfl
theorem TA.plain_to(E:Enc)(ρ:Rn){x:TA E.T}(h:x.plain=true):cw (some (x.to E ρ))=none:=by
 cases x with
 |d t x=>exact vA E t x
 |own t l=>cases h
 |_=>rfl
structure TS (T:Nat→Type) where
 n:Nat
 t:List (Nat × TV T)
 h:List (Nat × TB T)
 e:List (Nat × Root)
def Root.to(ρ:Rn):Root→Root
 |.s t=>.s t
 |.c k o=>.c (ρ k) o
def hTo(E:Enc)(ρ:Rn)(h:List (Nat × TB E.T)):List (Nat × List AV):=(h.filter fun p=>a8 ρ p.2).map fun p=>(ρ p.1,p.2.to E ρ)
def tTo(E:Enc)(ρ:Rn)(t:List (Nat × TV E.T)):List (Nat × AV):=t.map fun p=>(p.1,p.2.to E ρ)
def eTo(ρ:Rn)(e:List (Nat × Root)):List (Nat × Root):=e.map fun p=>(p.1,p.2.to ρ)
def TS.to(E:Enc)(ρ:Rn)(σ:TS E.T):AS:={ n:=σ.n,t:=tTo E ρ σ.t,h:=hTo E ρ σ.h,e:=eTo ρ σ.e }
def Inj{T:Nat→Type}(ρ:Rn)(h:List (Nat × TB T)):Prop:=∀p∈h,∀q∈h,(a8 ρ p.2=true→a8 ρ q.2=true→ρ p.1=ρ q.1→p.1=q.1)∧(p.1=q.1→a8 ρ p.2=a8 ρ q.2)
theorem xy{α β:Type}(f:α→β):∀ (l:List (Nat × α)) (i:Nat),look (l.map fun p=>(p.1,f p.2)) i=(look l i).map f
 | [],i=>rfl
 | (k,a)::r,i=>by
   simp only[List.map_cons,ab]
   split
   ·rfl
   ·exact xy f r i
theorem bD(E:Enc)(ρ:Rn)(t:List (Nat × TV E.T))(i:Nat):look (tTo E ρ t) i=(look t i).map (TV.to E ρ):=xy _ t i
theorem dQ(E:Enc){ρ:Rn}{k:Nat}{b:TB E.T}(r:List (Nat × TB E.T))(h:a8 ρ b=true):hTo E ρ ((k,b)::r)=(ρ k,b.to E ρ)::hTo E ρ r:=by
 unfold hTo;rw[List.filter_cons,if_pos h,List.map_cons]
theorem fH(E:Enc){ρ:Rn}{k:Nat}{b:TB E.T}(r:List (Nat × TB E.T))(h:a8 ρ b=false):hTo E ρ ((k,b)::r)=hTo E ρ r:=by
 unfold hTo;rw[List.filter_cons,if_neg (by rw[h];decide)]
theorem sS(E:Enc)(ρ:Rn)(h h':List (Nat × TB E.T)):hTo E ρ (h++h')=hTo E ρ h++hTo E ρ h':=by
 unfold hTo;rw[List.filter_append,List.map_append]
theorem xb{E:Enc}{ρ:Rn}{h:List (Nat × TB E.T)}{p:Nat × TB E.T}(hp:p∈h)(hl:a8 ρ p.2=true):(ρ p.1,p.2.to E ρ)∈hTo E ρ h:=List.mem_map.2 ⟨p,List.mem_filter.2 ⟨hp,hl⟩,rfl⟩
def tM{T:Nat→Type}(b b':TB T):Prop:=∀ρ,a8 ρ b=a8 ρ b'
theorem tM.refl{T:Nat→Type}(b:TB T):tM b b:=fun _=>rfl
theorem Inj.tail{T:Nat→Type}{ρ:Rn}{p:Nat × TB T}{h:List (Nat × TB T)}(hi:Inj ρ (p::h)):Inj ρ h:=fun p hp q hq=>hi p (List.mem_cons_of_mem _ hp) q (List.mem_cons_of_mem _ hq)
theorem dc(E:Enc){ρ:Rn}:∀ {h:List (Nat × TB E.T)} {k:Nat} {b:TB E.T},Inj ρ h→look h k=some b→a8 ρ b=true→look (hTo E ρ h) (ρ k)=some (b.to E ρ)
 | (j,c)::r,k,b,hi,hl,hv=>by
   rw[ab] at hl
   by_cases hjk:k=j
   ·subst hjk;rw[if_pos rfl] at hl;cases hl;rw[dQ E r hv,ab,if_pos rfl]
   ·rw[if_neg hjk] at hl
    have hm:=cI hl
    have ih:=dc E (h:=r) hi.tail hl hv
    cases hc:a8 ρ c with
    |false=>rw[fH E r hc];exact ih
    |true=>
     rw[dQ E r hc,ab,if_neg (fun e=>hjk ((hi _ (List.mem_cons_of_mem _ hm) _ List.mem_cons_self).1 hv hc e))]
     exact ih
theorem Dq(ρ:Rn)(e:List (Nat × Root))(i:Nat):look (eTo ρ e) i=(look e i).map (Root.to ρ):=xy _ e i
theorem Inj.sub{T:Nat→Type}{ρ:Rn}{h h':List (Nat × TB T)}(hi:Inj ρ h)(hs:∀p∈h',∃q∈h,q.1=p.1∧a8 ρ q.2=a8 ρ p.2):Inj ρ h':=fun p hp q hq=>by
 obtain⟨p',h1,h2,h5⟩:=hs p hp
 obtain⟨q',h3,h4,h6⟩:=hs q hq
 rw[← h2,← h4,← h5,← h6]
 exact hi p' h1 q' h3
section
variable {E:Enc} {ρ:Rn}
def TS.put{T:Nat→Type}(σ:TS T)(d:Nat)(u:TV T):TS T:={ n:=σ.n,t:=(d,u)::σ.t,h:=σ.h,e:=σ.e.filter fun p=> !(p.1==d) && !p.2.in d }
theorem B2(ρ:Rn)(r:Root)(d:Nat):(r.to ρ).in d=r.in d:=by cases r<;> rfl
theorem FB(ρ:Rn)(e:List (Nat × Root))(d:Nat):(eTo ρ e).filter (fun p=> !(p.1==d) && !p.2.in d)=eTo ρ (e.filter fun p=> !(p.1==d) && !p.2.in d):=by
 unfold eTo
 rw[List.filter_map]
 congr 1
 apply List.filter_congr
 intro p _
 simp only[Function.comp]
 rw[B2]
theorem ce(σ:TS E.T)(d:Nat)(u:TV E.T):(σ.put d u).to E ρ=(σ.to E ρ).put d (u.to E ρ):=by
 simp only[TS.to,TS.put,AS.put,FB,tTo,List.map_cons]
def TS.alias{T:Nat→Type}(σ:TS T)(d:Nat)(r:Root):TS T:={ n:=σ.n,t:=σ.t,h:=σ.h,e:=(d,r)::σ.e }
theorem DD(σ:TS E.T)(d:Nat)(r:Root):(σ.alias d r).to E ρ=(σ.to E ρ).alias d (r.to ρ):=rfl
structure OwnV (T:Nat→Type) where
 t:Ty
 l:List (Den T t)
def PU{T:Nat→Type}:Option (TA T)→Option (OwnV T)
 |some (.own t l)=>some ⟨t,l⟩
 |_=>none
def TS.ownAt{T:Nat→Type}(σ:TS T):Root→Option (OwnV T)
 |.s t=>match look σ.t t with
  |some (.a x)=>PU (some x)
  |_=>none
 |.c k o=>match look σ.h k with
  |some (.cs cs)=>PU cs[o]?
  |_=>none
theorem vx{T:Nat→Type}{x:Option (TA T)}{w:OwnV T}(h:PU x=some w):x=some (.own w.t w.l):=by
 unfold PU at h
 split at h
 ·cases h;rfl
 ·cases h
theorem y9(σ:TS E.T)(hi:Inj ρ σ.h){r:Root}{w:OwnV E.T}(h:σ.ownAt r=some w):(σ.to E ρ).own (r.to ρ)=some (csz E w.t,w.l.map (cells E w.t)):=by
 cases r with
 |s t=>
  simp only[TS.ownAt] at h
  split at h
  ·rename_i x hx
   have:=vx h
   cases this
   simp only[Root.to,AS.own,TS.to,bD,hx];rfl
  ·cases h
 |c k o=>
  simp only[TS.ownAt] at h
  split at h
  ·rename_i cs hx
   have:=vx h
   simp only[Root.to,AS.own,TS.to,dc E hi hx rfl,TB.to,List.getElem?_map,this];rfl
  ·cases h
def Td{T:Nat→Type}(h:List (Nat × TB T))(k o:Nat):List (Nat × TB T):=
 match look h k with
 |some (.cs cs)=>match cs[o]? with
  |some u=>(k,.cs (cs.set o u.rd))::h
  |none=>h
 |_=>h
def TS.lay{T:Nat→Type}(σ:TS T):Root→TS T
 |.s t=>{ n:=σ.n,t:=(match look σ.t t with|some u=>(t,u.rd)::σ.t|none=>σ.t),h:=σ.h,e:=σ.e }
 |.c k o=>{ n:=σ.n,t:=σ.t,h:=Td σ.h k o,e:=σ.e }
theorem BI(σ:TS E.T)(hi:Inj ρ σ.h){r:Root}{w:OwnV E.T}(h:σ.ownAt r=some w):(σ.lay r).to E ρ=(σ.to E ρ).lay (r.to ρ):=by
 cases r with
 |s t=>
  simp only[TS.to,TS.lay,AS.lay,Root.to,bD]
  cases hl:look σ.t t with
  |none=>rfl
  |some u=>simp only[Option.map_some,tTo,List.map_cons,TV.rd_to]
 |c k o=>
  simp only[TS.ownAt] at h
  split at h
  ·rename_i cs hx
   have hc:=vx h
   have hlk:=dc E hi hx rfl
   have e1:(σ.lay (.c k o)).to E ρ={ n:=σ.n,t:=tTo E ρ σ.t,h:=(ρ k,(cs.set o (TA.rd (.own w.t w.l))).map (TA.to E ρ))::hTo E ρ σ.h,e:=eTo ρ σ.e }:=by
    simp only[TS.lay,Td,hx,hc];rfl
   have e2:(σ.to E ρ).lay (Root.to ρ (.c k o))={ n:=σ.n,t:=tTo E ρ σ.t,h:=(ρ k,(cs.map (TA.to E ρ)).set o (AV.rd (TA.to E ρ (.own w.t w.l))))::hTo E ρ σ.h,e:=eTo ρ σ.e }:=by
    simp only[TS.to,AS.lay,Root.to,hlk]
    simp only[TB.to,List.getElem?_map,hc,Option.map_some]
   rw[e1,e2,List.map_set,TA.rd_to]
  ·cases h
theorem Qu{T:Nat→Type}(σ:TS T)(r:Root):∀p∈(σ.lay r).h,∃q∈σ.h,q.1=p.1∧tM q.2 p.2:=by
 cases r with
 |s t=>exact fun p hp=>⟨p,hp,rfl,.refl _⟩
 |c k o=>
  intro p hp
  simp only[TS.lay,Td] at hp
  split at hp
  ·rename_i cs hx
   split at hp
   ·rename_i u hu
    rcases List.mem_cons.1 hp with rfl|hp
    ·exact⟨_,cI hx,rfl,fun _=>rfl⟩
    ·exact⟨p,hp,rfl,.refl _⟩
   ·exact⟨p,hp,rfl,.refl _⟩
  ·exact⟨p,hp,rfl,.refl _⟩
def TS.hand{T:Nat→Type}(σ:TS T)(x t:Nat):TS T:=
 match look σ.t t with
 |some (.a (.own ty l))=>{ n:=σ.n,t:=(x,.a (.own ty l))::(t,.a (.d (.sl ty) l))::σ.t,h:=σ.h,e:=σ.e.filterMap fun p=>if p.1==x then none else if p.2=.s t then some (p.1,.s x) else if p.2.in x then none else some p }
 |_=>σ
theorem Ah(ρ:Rn)(r:Root)(t:Nat):(r.to ρ=.s t) ↔ (r=.s t):=by cases r<;> simp[Root.to]
theorem Ij(σ:TS E.T){x t:Nat}{ty:Ty}{l:List (Den E.T ty)}(h:look σ.t t=some (.a (.own ty l))):(σ.hand x t).to E ρ=(σ.to E ρ).hand x (.s t):=by
 have ho:(σ.to E ρ).own (.s t)=some (csz E ty,l.map (cells E ty)):=by simp only[AS.own,TS.to,bD,h];rfl
 unfold AS.hand TS.hand
 rw[ho,h]
 have hl:look (tTo E ρ σ.t) t=some (.sl true (csz E ty) (l.map (cells E ty))):=by rw[bD,h];rfl
 have e1:AS.lay (σ.to E ρ) (.s t)={ n:=σ.n,t:=(t,.sl false (csz E ty) (l.map (cells E ty)))::tTo E ρ σ.t,h:=hTo E ρ σ.h,e:=eTo ρ σ.e }:=by
  simp only[TS.to,AS.lay,hl,AV.rd]
 rw[e1]
 simp only[TS.to]
 refine congrArg (AS.mk _ _ _) ?_
 unfold eTo
 rw[List.map_filterMap,List.filterMap_map]
 congr 1
 funext p
 simp only[Function.comp]
 by_cases h1:(p.1==x)=true
 ·rw[if_pos h1,if_pos h1];rfl
 ·rw[if_neg h1,if_neg h1]
  by_cases h2:p.2=.s t
  ·rw[if_pos h2,if_pos ((Ah ρ _ _).2 h2)];rfl
  ·rw[if_neg h2,if_neg (fun e=>h2 ((Ah ρ _ _).1 e)),B2]
   split<;> rfl
def tg(E:Enc)(σ σ':TS E.T):Prop:=∀ρ,Inj ρ σ.h→Inj ρ σ'.h∧oz (σ.to E ρ) (σ'.to E ρ)
theorem tg.refl(σ:TS E.T):tg E σ σ:=fun ρ h=>⟨h,fun _ _ _ hs=>hs⟩
theorem tg.trans{σ σ1 σ2:TS E.T}(h:tg E σ σ1)(k:tg E σ1 σ2):tg E σ σ2:=fun ρ hi=>by
 obtain⟨h1,h2⟩:=h ρ hi
 obtain⟨k1,k2⟩:=k ρ h1
 exact⟨k1,h2.trans k2⟩
theorem L3(σ:TS E.T){x t:Nat}:∀ (ρ:Rn),Inj ρ σ.h→Inj ρ (σ.hand x t).h∧∀F X tm,SimE F X (σ.to E ρ) tm→rootV tm X.w (.s t)=some (tm.getD x undef)→SimE F X ((σ.hand x t).to E ρ) tm:=by
 intro ρ hi
 by_cases h:∃ty l,look σ.t t=some (.a (.own ty l))
 ·obtain⟨ty,l,hl⟩:=h
  refine⟨?_,fun F X tm hs hr=> ?_⟩
  ·unfold TS.hand;rw[hl];exact hi
  ·rw[Ij σ hl];exact hs.hand hr
 ·have:σ.hand x t=σ:=by
   unfold TS.hand
   split
   ·rename_i ty l hl;exact absurd ⟨ty,l,hl⟩ h
   ·rfl
  rw[this]
  exact⟨hi,fun F X tm hs _=>hs⟩
def mY{T:Nat→Type}(K:List Nat):List (Nat × Root)→TS T→TS T
 | [],σ=>σ
 | (x,.s t)::es,σ=>mY K es (if K.contains x && !K.contains t then σ.hand x t else σ)
 | (_,.c _ _)::es,σ=>mY K es σ
theorem rK(K:List Nat):∀ (es:List (Nat × Root)) (σ:TS E.T) (ρ:Rn),Inj ρ σ.h→Inj ρ (mY K es σ).h∧∀F X tm,SimE F X (σ.to E ρ) tm→lM (eTo ρ es) tm X.w→SimE F X ((mY K es σ).to E ρ) tm
 | [],σ,ρ,hi=>⟨hi,fun _ _ _ h _=>h⟩
 | (x,.s t)::es,σ,ρ,hi=>by
   simp only[mY]
   split
   ·obtain⟨h1,h2⟩:=L3 (x:=x) (t:=t) σ ρ hi
    obtain⟨k1,k2⟩:=rK K es (σ.hand x t) ρ h1
    exact⟨k1,fun F X tm hs he=>k2 F X tm (h2 F X tm hs (he (x,.s t) List.mem_cons_self)) fun p hp=>he p (List.mem_cons_of_mem _ hp)⟩
   ·obtain⟨k1,k2⟩:=rK K es σ ρ hi
    exact⟨k1,fun F X tm hs he=>k2 F X tm hs fun p hp=>he p (List.mem_cons_of_mem _ hp)⟩
 | (x,.c k o)::es,σ,ρ,hi=>by
   simp only[mY]
   obtain⟨k1,k2⟩:=rK K es σ ρ hi
   exact⟨k1,fun F X tm hs he=>k2 F X tm hs fun p hp=>he p (List.mem_cons_of_mem _ hp)⟩
def nrm{T:Nat→Type}:TV T→TV T
 |.a .tt=>.a (.d .bool true)
 |.a .ff=>.a (.d .bool false)
 |u=>u
theorem pA(E:Enc)(ρ:Rn)(u:TV E.T):(nrm u).to E ρ=u.to E ρ:=by
 cases u with
 |a x=>cases x<;> rfl
 |_=>rfl
def vW{T:Nat→Type}(w:Bool)(u:TV T):TV T:=match w with|true=>nrm u.rd|false=>nrm u
def xR{T:Nat→Type}(t:List (Nat × TV T)):List (Nat × Bool)→List (Nat × TV T)
 | [] =>[]
 | (k,w)::ks=>match look t k with|some u=>(k,vW w u)::xR t ks|none=>xR t ks
def cW{T:Nat→Type}(h:List (Nat × TB T)):List Nat→List (Nat × TB T)
 | [] =>[]
 |k::ks=>match look h k with|some b=>(k,b)::cW h ks|none=>cW h ks
def TS.canon{T:Nat→Type}(σ:TS T)(K:List (Nat × Bool))(B:List Nat):TS T:=
 { n:=σ.n,t:=xR (mY (K.map Prod.fst) σ.e σ).t K,h:=cW (mY (K.map Prod.fst) σ.e σ).h B,e:=[] }
theorem Ci{T:Nat→Type}(K:List Nat):∀ (es:List (Nat × Root)) (σ:TS T),(mY K es σ).n=σ.n
 | [],_=>rfl
 | (x,.s t)::es,σ=>by
   simp only[mY]
   rw[Ci K es]
   split
   ·unfold TS.hand;split<;> rfl
   ·rfl
 | (x,.c _ _)::es,σ=>by simp only[mY];exact Ci K es σ
theorem q8{T:Nat→Type}{t:List (Nat × TV T)}:∀ {K:List (Nat × Bool)} {k:Nat} {u:TV T},look (xR t K) k=some u→∃w u0,look t k=some u0∧u=vW w u0
 | [],_,_,h=>by cases h
 | (k0,w)::ks,k,u,h=>by
   simp only[xR] at h
   cases hl:look t k0 with
   |none=>rw[hl] at h;exact q8 h
   |some u0=>
    rw[hl] at h
    simp only[ab] at h
    split at h
    ·rename_i e;subst e;cases h;exact⟨w,u0,hl,rfl⟩
    ·exact q8 h
theorem nP{T:Nat→Type}{t:List (Nat × TB T)}:∀ {K:List Nat} {k:Nat} {u:TB T},look (cW t K) k=some u→look t k=some u
 | [],_,_,h=>by cases h
 |k0::ks,k,u,h=>by
  simp only[cW] at h
  cases hl:look t k0 with
  |none=>rw[hl] at h;exact nP h
  |some u0=>
   rw[hl] at h
   simp only[ab] at h
   split at h
   ·rename_i e;subst e;cases h;exact hl
   ·exact nP h
theorem mJ{T:Nat→Type}{t:List (Nat × TB T)}:∀ {K:List Nat},∀p∈cW t K,∃q∈t,q.1=p.1∧tM q.2 p.2
 | [],_,h=>by cases h
 |k0::ks,p,h=>by
  simp only[cW] at h
  cases hl:look t k0 with
  |none=>rw[hl] at h;exact mJ p h
  |some u0=>
   rw[hl] at h
   rcases List.mem_cons.1 h with rfl|h
   ·exact⟨_,cI hl,rfl,.refl _⟩
   ·exact mJ p h
theorem py{E:Enc}{ρ:Rn}:∀ {h:List (Nat × TB E.T)} {k:Nat} {cs:List AV},look (hTo E ρ h) k=some cs→∃i b,(i,b)∈h∧ρ i=k∧cs=b.to E ρ∧a8 ρ b=true∧(Inj ρ h→look h i=some b)
 | [],_,_,h=>by cases h
 | (j,c)::r,k,cs,h=>by
   cases hc:a8 ρ c with
   |false=>
    rw[fH E r hc] at h
    obtain⟨i,b,h1,h2,h3,h5,h4⟩:=py (h:=r) h
    refine⟨i,b,List.mem_cons_of_mem _ h1,h2,h3,h5,fun hi=> ?_⟩
    rw[ab,if_neg (fun e2=>by
     have:=(hi _ (List.mem_cons_of_mem _ h1) _ List.mem_cons_self).2 e2
     simp only at this
     rw[h5,hc] at this;cases this)]
    exact h4 hi.tail
   |true=>
    rw[dQ E r hc,ab] at h
    split at h
    ·rename_i e;cases h;exact⟨j,c,List.mem_cons_self,e.symm,rfl,hc,fun _=>aH⟩
    ·rename_i e
     obtain⟨i,b,h1,h2,h3,h5,h4⟩:=py (h:=r) h
     refine⟨i,b,List.mem_cons_of_mem _ h1,h2,h3,h5,fun hi=> ?_⟩
     rw[ab,if_neg (fun e2=>e (by rw[← h2,e2]))]
     exact h4 hi.tail
theorem tg.mk{σ σ':TS E.T}(hn:σ'.n=σ.n)(ht:∀k u,look σ'.t k=some u→∃w u0,look σ.t k=some u0∧u=vW w u0)(hh:∀k b,look σ'.h k=some b→look σ.h k=some b)(hm:∀p∈σ'.h,∃q∈σ.h,q.1=p.1∧tM q.2 p.2)(he:σ'.e=[]):tg E σ σ':=by
 intro ρ hi
 have hi':=hi.sub fun p hp=>let ⟨q,h1,h2,h3⟩:=hm p hp;⟨q,h1,h2,h3 ρ⟩
 refine⟨hi',fun F X tm hs=> ?_⟩
 have heq:lM (σ'.to E ρ).e tm X.w:=by simp only[TS.to,he];intro p hp;cases hp
 have hslot:∀t u,look (σ'.to E ρ).t t=some u→∃u0,look (σ.to E ρ).t t=some u0∧Le1 u0 u:=by
  intro t u hu
  simp only[TS.to,bD,Option.map_eq_some_iff] at hu ⊢
  obtain⟨v,hv,rfl⟩:=hu
  obtain⟨w,u0,h1,rfl⟩:=ht t v hv
  refine⟨_,⟨u0,h1,rfl⟩,?_⟩
  cases w with
  |false=>simp only[vW,pA];exact .refl _
  |true=>
   simp only[vW,pA,TV.rd_to]
   generalize u0.to E ρ=z
   cases z<;> first|exact .refl _|exact .rd _ _ _
 have hbox:∀k cs,look (σ'.to E ρ).h k=some cs→look (σ.to E ρ).h k=some cs:=by
  intro k cs hk
  obtain⟨i,b,h1,rfl,rfl,h5,h4⟩:=py hk
  exact dc E hi (hh i b (h4 hi')) h5
 refine⟨hs.toSim.reown hn (fun t u hu=> ?_) (fun k cs hk=>hs.box k cs (hbox k cs hk)) heq.look id (fun r sz l ho=> ?_) (fun _ _ hne _ _=>hne),heq⟩
 ·obtain⟨u0,h1,h2⟩:=hslot t u hu
  exact h2.rel (hs.slot t u0 h1)
 ·cases r with
  |s t=>
   simp only[AS.own] at ho
   cases hlk:look (σ'.to E ρ).t t with
   |none=>rw[hlk] at ho;cases ho
   |some u=>
    rw[hlk] at ho
    obtain⟨u0,h1,h2⟩:=hslot t u hlk
    rcases h2.own ho with h3| ⟨h3,h4⟩
    ·right;simp only[id,AS.own];rw[h1];exact⟨h3,trivial⟩
    ·left
     subst h3
     have:=hs.slot t _ h1
     refine⟨?_,h4⟩
     simp only[rootV]
     generalize tm.getD t undef=y at this
     cases this;rfl
  |c k o=>
   simp only[AS.own] at ho
   cases hlk:look (σ'.to E ρ).h k with
   |none=>rw[hlk] at ho;cases ho
   |some cs=>
    rw[hlk] at ho
    right;simp only[id,AS.own];rw[hbox k cs hlk];exact⟨ho,trivial⟩
theorem Jd(σ:TS E.T)(K:List (Nat × Bool))(B:List Nat):tg E σ (σ.canon K B):=by
 intro ρ hi
 obtain⟨h1,h2⟩:=rK (E:=E) (K.map Prod.fst) σ.e σ ρ hi
 obtain⟨k1,k2⟩:=tg.mk (E:=E) (σ:=mY (K.map Prod.fst) σ.e σ) (σ':=σ.canon K B) (by simp only[TS.canon];rw[Ci]) (fun k u hu=>q8 (t:=(mY (K.map Prod.fst) σ.e σ).t) (K:=K) hu) (fun k b hb=>nP (t:=(mY (K.map Prod.fst) σ.e σ).h) (K:=B) hb) (fun p hp=>mJ (t:=(mY (K.map Prod.fst) σ.e σ).h) (K:=B) p hp) rfl ρ h1
 exact⟨k1,fun F X tm hs=>k2 F X tm (h2 F X tm hs hs.eqm)⟩
end
structure Env extends Enc where
 unp:∀i,T i→List (TA T)
 unp_to:∀i z ρ,(unp i z).map (TA.to toEnc ρ)=enc i z
 pk:∀i,List (TA T)→Option (T i × List (TA T))
 pk_to:∀i l z r ρ,pk i l=some (z,r)→LeL (l.map fun a=>(a.rd.to toEnc ρ)) (enc i z++r.map fun a=>(a.rd.to toEnc ρ))
 et:List (TypeId × Ty)
 ct:List (TypeId × List Ty)
 nf:List TypeId
def U3:List TypeId→TypeId→Bool
 | [],_=>false
 |k::r,i=>match Nat.beq i k with|true=>true|false=>U3 r i
def kw{T:Nat→Type}(a b:Ty)(x:Den T a):Option (Den T b):=if h:a=b then some (h ▸ x) else none
theorem em{T:Nat→Type}{a b:Ty}{x:Den T a}{y:Den T b}(h:kw a b x=some y):∃e:a=b,y=e ▸ x:=by
 unfold kw at h
 split at h
 ·rename_i e;cases h;exact⟨e,rfl⟩
 ·cases h
def ga(E:Env)(t:Ty)(x:Den E.T t):List (TA E.T):=
 match t,x with
 |.nam i,z=>E.unp i z
 |.bits n,l=>(List.range n).map fun i=>.d .bool (List.getD l i false)
 |t,x=>[.d t x]
theorem tF(E:Env)(ρ:Rn)(t:Ty)(x:Den E.T t):(ga E t x).map (TA.to E.toEnc ρ)=cells E.toEnc t x:=by
 cases t with
 |nam i=>exact E.unp_to i x ρ
 |ptr t=>cases x<;> rfl
 |bits n=>exact List.map_map.trans rfl
 |_=>rfl
def asD{T:Nat→Type}(t:Ty):TA T→Option (Den T t)
 |.d t' x=>kw t' t x
 |.own t' l=>kw (.sl t') t l
 |.tt=>kw .bool t (true:Bool)
 |.ff=>kw .bool t (false:Bool)
 |.raw (.slice none 0 0)=>match t with
  |.sl _=>some []
  |_=>none
 |.raw (.pointer none)=>match t with
  |.ptr _=>some none
  |_=>none
 |_=>none
theorem xQ(E:Enc)(ρ:Rn){t:Ty}{a:TA E.T}{x:Den E.T t}(h:asD t a=some x):Le1 (a.rd.to E ρ) (one E t x):=by
 unfold asD at h
 split at h
 ·obtain⟨rfl,rfl⟩:=em h;exact .refl _
 ·obtain⟨rfl,rfl⟩:=em h;exact .refl _
 ·obtain⟨rfl,rfl⟩:=em h;exact .refl _
 ·obtain⟨rfl,rfl⟩:=em h;exact .refl _
 ·split at h
  ·cases h;exact .nil _ _
  ·cases h
 ·split at h
  ·cases h;exact .refl _
  ·cases h
 ·cases h
def pkL{T:Nat→Type}(t:Ty):List (TA T)→Option (Den T t × List (TA T))
 |a::r=>match asD t a with
  |some x=>some (x,r)
  |none=>none
 | [] =>none
def pkT(E:Env)(t:Ty)(l:List (TA E.T)):Option (Den E.T t × List (TA E.T)):=
 match t with
 |.nam i=>E.pk i l
 |.bits _=>none
 |t=>pkL t l
theorem LeL.append{a b c d:List AV}(h:LeL a b)(k:LeL c d):LeL (a++c) (b++d):=by
 induction h with
 |nil=>exact k
 |cons hu _ ih=>exact .cons hu ih
theorem dV(E:Enc)(ρ:Rn){t:Ty}(hl:t.lone=true){l:List (TA E.T)}{x:Den E.T t}{r:List (TA E.T)}(h:pkL t l=some (x,r)):LeL (l.map fun a=>(a.rd.to E ρ)) (cells E t x++r.map fun a=>(a.rd.to E ρ)):=by
 rw[pG E hl]
 unfold pkL at h
 split at h
 ·rename_i a r0
  split at h
  ·rename_i x0 hx
   cases h
   exact .cons (xQ E ρ hx) (.refl _)
  ·cases h
 ·cases h
theorem Ga(E:Env)(ρ:Rn){t:Ty}{l:List (TA E.T)}{x:Den E.T t}{r:List (TA E.T)}(h:pkT E t l=some (x,r)):LeL (l.map fun a=>(a.rd.to E.toEnc ρ)) (cells E.toEnc t x++r.map fun a=>(a.rd.to E.toEnc ρ)):=by
 cases t with
 |nam i=>exact E.pk_to i l x r ρ h
 |bits n=>cases h
 |_=>exact dV E.toEnc ρ rfl h
inductive PV (T:Nat→Type):Type 1 where
 |one (u:TV T)
 |opt {α:Type} (o:Option α) (u:α→TV T)
 |bad
def PV.ok{T:Nat→Type}(p:PV T)(K:TV T→Prop):Prop:=
 match p with
 |.one u=>K u
 |.opt o u=>∀z,o=some z→K (u z)
 |.bad=>True
theorem PV.ok.mono{T:Nat→Type}{p:PV T}{K K':TV T→Prop}(h:p.ok K)(hk:∀u,K u→K' u):p.ok K':=by
 cases p with
 |one u=>exact hk _ h
 |opt o u=>exact fun z hz=>hk _ (h z hz)
 |bad=>trivial
section
variable {P:Program} {Y:Tys P} {E:Env} {ρ:Rn}
def constT{T:Nat→Type}:Value→TV T
 |.int .u8 n=>if((UInt8.ofNat n.toNat).toNat:Int)=n then .a (.d .byte (UInt8.ofNat n.toNat)) else .a (.raw (.int .u8 n))
 |.int k n=>.a (.d (.int k) n)
 |.bool true=>.a .tt
 |.bool false=>.a .ff
 |.string s=>.a (.d .str s.data.toList)
 |.agg xs=>.ag (xs.toList.map .raw)
 |.tuple xs=>.tu (xs.toList.map fun x=>.a (.raw x))
 |v=>.a (.raw v)
theorem JE(E:Enc)(ρ:Rn)(v:Value):(constT v:TV E.T).to E ρ=cst v:=by
 cases v with
 |int k n=>
  cases k with
  |u8=>
   unfold constT
   simp only
   split
   ·rename_i h
    show AV.v (.int .u8 ((UInt8.ofNat n.toNat).toNat:Int))=_
    rw[h];rfl
   ·rfl
  |_=>rfl
 |bool b=>cases b<;> rfl
 |agg xs=>simp only[constT,TV.to,List.map_map,cst];rfl
 |tuple xs=>simp only[constT,TV.to,List.map_map,cst];rfl
 |_=>rfl
def opT{T:Nat→Type}(σ:TS T):Operand→Option (TV T)
 |.tmp t=>look σ.t t
 |.const v=>some (constT v)
 |.func f=>some (.a (.raw (.func (.func f) #[] #[])))
 |.global g=>some (.a (.raw (.pointer (some ⟨g,0,none⟩))))
theorem ax{σ:TS E.T}{x:Operand}{u:TV E.T}(h:opT σ x=some u):opV (σ.to E.toEnc ρ) x=some (u.to E.toEnc ρ):=by
 cases x with
 |tmp t=>simp only[opT] at h;simp only[opV,TS.to,bD,h];rfl
 |const v=>cases h;simp only[opV,JE]
 |func f=>cases h;rfl
 |global g=>cases h;rfl
def asI{T:Nat→Type}:Option (TV T)→Option (IntKind × Int)
 |some (.a (.d (.int k) x))=>some (k,x)
 |some (.a (.d .byte b))=>some (.u8,(UInt8.toNat b:Int))
 |_=>none
theorem dg{σ:TS E.T}{x:Operand}{k:IntKind}{n:Int}(h:asI (opT σ x)=some (k,n)):opV (σ.to E.toEnc ρ) x=some (.v (.int k n)):=by
 cases hx:opT σ x with
 |none=>rw[hx] at h;cases h
 |some u=>
  rw[hx] at h
  rw[ax hx]
  unfold asI at h
  split at h
  ·rename_i e;cases e;cases h;rfl
  ·rename_i e;cases e;cases h;rfl
  ·cases h
def asB{T:Nat→Type}:Option (TV T)→Option Bool
 |some (.a (.d .bool b))=>some b
 |some (.a .tt)=>some true
 |some (.a .ff)=>some false
 |_=>none
theorem Cq{σ:TS E.T}{x:Operand}{b:Bool}(h:asB (opT σ x)=some b):opV (σ.to E.toEnc ρ) x=some (.v (.bool b)):=by
 cases hx:opT σ x with
 |none=>rw[hx] at h;cases h
 |some u=>
  rw[hx] at h
  rw[ax hx]
  unfold asB at h
  split at h
  ·rename_i e;cases e;cases h;rfl
  ·rename_i e;cases e;cases h;rfl
  ·rename_i e;cases e;cases h;rfl
  ·cases h
def asS{T:Nat→Type}:Option (TV T)→Option (List UInt8)
 |some (.a (.d .str s))=>some s
 |_=>none
theorem nZ{σ:TS E.T}{x:Operand}{s:List UInt8}(h:asS (opT σ x)=some s):opV (σ.to E.toEnc ρ) x=some (.v (.string (mkB s))):=by
 cases hx:opT σ x with
 |none=>rw[hx] at h;cases h
 |some u=>
  rw[hx] at h
  rw[ax hx]
  unfold asS at h
  split at h
  ·rename_i e;cases e;cases h;rfl
  ·cases h
def asL{T:Nat→Type}:Option (TV T)→Option (OwnV T)
 |some (.a (.d (.sl t) l))=>some ⟨t,l⟩
 |some (.a (.own t l))=>some ⟨t,l⟩
 |_=>none
theorem qh{σ:TS E.T}{x:Operand}{w:OwnV E.T}(h:asL (opT σ x)=some w):∃o,opV (σ.to E.toEnc ρ) x=some (.sl o (csz E.toEnc w.t) (w.l.map (cells E.toEnc w.t))):=by
 cases hx:opT σ x with
 |none=>rw[hx] at h;cases h
 |some u=>
  rw[hx] at h
  rw[ax hx]
  unfold asL at h
  split at h
  ·rename_i e;cases e;cases h;exact⟨_,rfl⟩
  ·rename_i e;cases e;cases h;exact⟨_,rfl⟩
  ·cases h
def mkI{T:Nat→Type}(k:IntKind)(r:Int):TV T:=match k with
 |.u8=>.a (.d .byte (UInt8.ofNat r.toNat))
 |k=>.a (.d (.int k) r)
theorem tl(E:Enc)(ρ:Rn){k:IntKind}{r:Int}(h:k=.u8→0≤r∧r < 256):(mkI k r:TV E.T).to E ρ=.v (.int k r):=by
 unfold mkI
 split
 ·obtain⟨h1,h2⟩:=h rfl
  show AV.v (.int .u8 ((UInt8.ofNat r.toNat).toNat:Int))=_
  congr 2
  simp
  omega
 ·rfl
theorem Q1(n:Int):0≤IntKind.u8.wrap n∧IntKind.u8.wrap n < 256:=by
 rw[IntKind.wrap_u8];omega
theorem m0(E:Enc)(ρ:Rn){k:IntKind}{n:Int}:(mkI k (k.wrap n):TV E.T).to E ρ=.v (.int k (k.wrap n)):=tl E ρ fun h=>by subst h;exact Q1 n
def Vx(k:IntKind)(a b:Int):Option Int:=if b=0 then none else some (k.wrap (a.tdiv b))
def Pa(a b:Int):Option Int:=if b=0 then none else some (a.tmod b)
def UJ(k:IntKind)(a b:Int):Option Int:=if 0≤b then some (k.wrap (a * 2 ^ (min b.toNat k.bits))) else none
def DJ(k:IntKind)(a b:Int):Option Int:=if 0≤b then some (a.fdiv (2 ^ (min b.toNat k.bits))) else none
def u8C(r:Int):Option UInt8:=if 0≤r∧r < 256 then some (UInt8.ofNat r.toNat) else none
def O8(a b:List UInt8):Option (List UInt8):=if a.length+b.length≤9223372036854775807 then some (a++b) else none
def zY:IntKind→Bool
 |.u8=>false
 |_=>true
def binI{T:Nat→Type}(op:BinOp)(k:IntKind)(a b:Int):PV T:=
 match op with
 |.add=>.one (mkI k (k.wrap (a+b)))
 |.sub=>.one (mkI k (k.wrap (a - b)))
 |.mul=>.one (mkI k (k.wrap (a * b)))
 |.quo=>.opt (Vx k a b) (mkI k)
 |.rem=>match zY k with|true=>.opt (Pa a b) (mkI k)|false=>.opt ((Pa a b).bind u8C) fun b=>.a (.d .byte b)
 |.and=>.one (mkI k (bits .and k a b))
 |.or=>.one (mkI k (bits .or k a b))
 |.xor=>.one (mkI k (bits .xor k a b))
 |.eql=>.one (.a (.d .bool (a==b)))
 |.neq=>.one (.a (.d .bool (a != b)))
 |.lss=>.one (.a (.d .bool (decide (a < b))))
 |.leq=>.one (.a (.d .bool (decide (a≤b))))
 |.gtr=>.one (.a (.d .bool (decide (a > b))))
 |.geq=>.one (.a (.d .bool (decide (a≥b))))
 |_=>.bad
def binS{T:Nat→Type}(op:BinOp)(a b:List UInt8):PV T:=
 match op with
 |.add=>.opt (O8 a b) fun s=>.a (.d .str s)
 |.eql=>.one (.a (.d .bool (decide (a=b))))
 |.neq=>.one (.a (.d .bool (!decide (a=b))))
 |.lss=>.one (.a (.d .bool (Op.bytesLess a b)))
 |.leq=>.one (.a (.d .bool (Op.bytesLess a b || decide (a=b))))
 |.gtr=>.one (.a (.d .bool (!(Op.bytesLess a b || decide (a=b)))))
 |.geq=>.one (.a (.d .bool (!Op.bytesLess a b)))
 |_=>.bad
def NR(Y:Tys P)(σ:TS E.T)(op:BinOp)(t:TypeId)(x y:Operand):PV E.T:=
 match op with
 |.shl=>match asI (opT σ x),asI (opT σ y) with
  |some (k,a),some (_,b)=>.opt (UJ k a b) (mkI k)
  |_,_=>.bad
 |.shr=>match asI (opT σ x),asI (opT σ y) with
  |some (k,a),some (_,b)=>match zY k with|true=>.opt (DJ k a b) (mkI k)|false=>.opt ((DJ k a b).bind u8C) fun b=>.a (.d .byte b)
  |_,_=>.bad
 |op=>match asI (opT σ x),asI (opT σ y) with
  |some (k,a),some (k',b)=>if k=k' then binI op k a b else .bad
  |_,_=>match asS (opT σ x),asS (opT σ y) with
   |some a,some b=>binS op a b
   |_,_=>match asB (opT σ x),asB (opT σ y),look Y.ty t,op with
    |some a,some b,some .bool,.eql=>.one (.a (.d .bool (a==b)))
    |some a,some b,some .bool,.neq=>.one (.a (.d .bool (!(a==b))))
    |_,_,_,_=>.bad
end
section
variable {P:Program} {Y:Tys P} {E:Env} {ρ:Rn} {σ:TS E.T} {d:Option Tmp} {t t2 yt ty e:TypeId} {x y z:Operand} {pos:String} {af:Array Edge} {g:Option (Nat × Bool)}
theorem IZ{op:BinOp}{a b:Bool}{σ:AS}(hx:opV σ x=some (.v (.bool a)))(hy:opV σ y=some (.v (.bool b)))(hop:op=.eql)(h0:look Y.ty t=some .bool):OpV P ⟨d,.binOp op t x y yt,ty,pos,af,g⟩ σ (.v (.bool (a==b))):=by
 subst hop
 refine aG rfl fun F X ac hs=>⟨.bool (a==b),?_,.v _⟩
 have h1:=aL hs (by simp[Op.operands]) hx
 have h2:=aL hs (by simp[Op.operands]) hy
 have h3:=run_eql_bool (P:=P) X.w t a b (Y.tyOk _ _ h0)
 simp only[execOp,h1,h2]
 refine aW ?_
 simp[eqGuard,h3,go_sem]
theorem JI{op:BinOp}{a b:Bool}{σ:AS}(hx:opV σ x=some (.v (.bool a)))(hy:opV σ y=some (.v (.bool b)))(hop:op=.neq)(h0:look Y.ty t=some .bool):OpV P ⟨d,.binOp op t x y yt,ty,pos,af,g⟩ σ (.v (.bool (!(a==b)))):=by
 subst hop
 refine aG rfl fun F X ac hs=>⟨.bool (!(a==b)),?_,.v _⟩
 have h1:=aL hs (by simp[Op.operands]) hx
 have h2:=aL hs (by simp[Op.operands]) hy
 have h4:=run_equal_bool (P:=P) X.w t a b (Y.tyOk _ _ h0)
 have h3:(binOp .neq t (.bool a) (.bool b)).run P X.w=.ok (.bool (!(a==b))) X.w:=by simp[binOp,h4]
 simp only[execOp,h1,h2]
 refine aW ?_
 simp[eqGuard,h3,go_sem]
theorem Uj{k:IntKind}(h:¬zY k=true):k=.u8:=by cases k<;> first|rfl|exact absurd rfl h
theorem Dp{q:Option Int}{b:UInt8}(h:q.bind u8C=some b):∃r,q=some r∧((UInt8.toNat b:Nat):Int)=r:=by
 cases q with
 |none=>cases h
 |some r=>
  refine⟨r,rfl,?_⟩
  have h':u8C r=some b:=h
  unfold u8C at h'
  split at h'
  ·rename_i h0
   cases h'
   simp
   omega
  ·cases h'
theorem HZ(op:BinOp)(hop:op=.and∨op=.or∨op=.xor)(a b:Int):0≤bits op .u8 a b∧bits op .u8 a b < 256:=by
 rcases hop with rfl|rfl|rfl<;> exact Q1 _
theorem PI{op:BinOp}{k:IntKind}{a b:Int}(hx:opV (σ.to E.toEnc ρ) x=some (.v (.int k a)))(hy:opV (σ.to E.toEnc ρ) y=some (.v (.int k b))):
  (binI op k a b:PV E.T).ok fun u=>OpV P ⟨d,.binOp op t x y yt,ty,pos,af,g⟩ (σ.to E.toEnc ρ) (u.to E.toEnc ρ):=by
 have nu:zY k=true→k≠.u8:=fun h e=>by subst e;cases h
 cases op with
 |add=>simp only[binI,PV.ok,m0];exact bi hx hy rfl
 |sub=>simp only[binI,PV.ok,m0];exact bi hx hy rfl
 |mul=>simp only[binI,PV.ok,m0];exact bi hx hy rfl
 |quo=>
  intro z hz
  unfold Vx at hz
  split at hz
  ·cases hz
  ·rename_i hb;cases hz;rw[m0];exact BP hx hy rfl hb
 |rem=>
  simp only[binI]
  split
  ·rename_i hk
   intro z hz
   unfold Pa at hz
   split at hz
   ·cases hz
   ·rename_i hb;cases hz;rw[tl _ _ (fun h=>absurd h (nu hk))];exact Cd hx hy rfl hb
  ·rename_i hk
   have hk':k=.u8:=Uj (by rw[hk];intro h;cases h)
   subst hk'
   intro z hz
   obtain⟨r,h1,h2⟩:=Dp hz
   unfold Pa at h1
   split at h1
   ·cases h1
   ·rename_i hb
    cases h1
    have:=Cd (P:=P) (d:=d) (t:=t) (yt:=yt) (ty:=ty) (pos:=pos) (af:=af) (g:=g) hx hy rfl hb
    rw[← h2] at this
    exact this
 |and=>simp only[binI,PV.ok];rw[tl _ _ (fun h=>by subst h;exact HZ _ (.inl rfl) a b)];exact bi hx hy rfl
 |or=>simp only[binI,PV.ok];rw[tl _ _ (fun h=>by subst h;exact HZ _ (.inr (.inl rfl)) a b)];exact bi hx hy rfl
 |xor=>simp only[binI,PV.ok];rw[tl _ _ (fun h=>by subst h;exact HZ _ (.inr (.inr rfl)) a b)];exact bi hx hy rfl
 |eql=>exact bi hx hy rfl
 |neq=>exact bi hx hy rfl
 |lss=>exact bi hx hy rfl
 |leq=>exact bi hx hy rfl
 |gtr=>exact bi hx hy rfl
 |geq=>exact bi hx hy rfl
 |_=>trivial
theorem QO{op:BinOp}{a b:List UInt8}(hx:opV (σ.to E.toEnc ρ) x=some (.v (.string (mkB a))))(hy:opV (σ.to E.toEnc ρ) y=some (.v (.string (mkB b)))):
  (binS op a b:PV E.T).ok fun u=>OpV P ⟨d,.binOp op t x y yt,ty,pos,af,g⟩ (σ.to E.toEnc ρ) (u.to E.toEnc ρ):=by
 cases op with
 |add=>
  intro z hz
  unfold O8 at hz
  split at hz
  ·rename_i h;cases hz;exact GK hx hy h
  ·cases hz
 |eql=>exact cR hx hy rfl
 |neq=>exact cR hx hy rfl
 |lss=>exact cR hx hy rfl
 |leq=>exact cR hx hy rfl
 |gtr=>exact cR hx hy rfl
 |geq=>exact cR hx hy rfl
 |_=>trivial
end
def bN{α:Type}(l:List α)(i:Int):Option α:=if 0≤i then l[i.toNat]? else none
def oG{α:Type}(l:List α)(i j:Int):Option (List α):=if 0≤i∧i≤j∧j≤l.length then some ((l.take j.toNat).drop i.toNat) else none
def Me{α:Type}(l:List α)(i j m:Int):Option (List α):=if 0≤i∧i≤j∧j≤m∧m≤l.length then some ((l.take j.toNat).drop i.toNat) else none
def yR{T:Nat→Type}(σ:TS T)(q:Option Operand)(z:Int):Option Int:=
 match q with
 |none=>some z
 |some q=>match asI (opT σ q) with
  |some (.i64,i)=>some i
  |_=>none
def atomT{T:Nat→Type}:Value→TA T
 |.int .u8 n=>if((UInt8.ofNat n.toNat).toNat:Int)=n then .d .byte (UInt8.ofNat n.toNat) else .raw (.int .u8 n)
 |.int k n=>.d (.int k) n
 |.bool b=>.d .bool b
 |.string s=>.d .str s.data.toList
 |v=>.raw v
theorem tU(E:Enc)(ρ:Rn)(v:Value):(atomT v:TA E.T).to E ρ=.v v:=by
 cases v with
 |int k n=>
  cases k with
  |u8=>
   unfold atomT
   simp only
   split
   ·rename_i h
    show AV.v (.int .u8 ((UInt8.ofNat n.toNat).toNat:Int))=_
    rw[h]
   ·rfl
  |_=>rfl
 |_=>rfl
def TA.simple{T:Nat→Type}:TA T→Bool
 |.d (.nam _) _=>false
 |.d (.bits _) _=>false
 |.raw (.agg _)=>false
 |.raw (.tuple _)=>false
 |.clip _ _=>false
 |_=>true
def TV.cs{T:Nat→Type}:TV T→Option (List (TA T))
 |.a x=>match x.simple with|true=>some [x] |false=>none
 |.ag l=>some l
 |_=>none
def spl{α:Type}(cs:List α)(o:Nat)(us:List α):List α:=cs.take o++us++cs.drop (o+us.length)
def u7{T:Nat→Type}(σ:TS T):List Operand→Option (List (TV T))
 | [] =>some []
 |x::xs=>match opT σ x,u7 σ xs with
  |some u,some us=>some (u::us)
  |_,_=>none
def xP(E:Env)(t:TypeId)(u:TV E.T):TV E.T:=
 match u with
 |.a (.raw (.slice none 0 0))=>match look E.et t,U3 E.nf t with
  |some (.sl ty),false=>.a (.own ty [])
  |_,_=>u
 |.a (.raw (.pointer none))=>match look E.et t with
  |some (.ptr (.nam i))=>.a (.d (.ptr (.nam i)) none)
  |_=>u
 |u=>u
def eT(E:Env):List TypeId→List (TV E.T)→List (TV E.T)
 |t::ts,u::us=>nrm (xP E t u).rd::eT E ts us
 | [],us=>us.map fun u=>nrm u.rd
 |_,[] =>[]
def s0{T:Nat→Type}(pl:List (Nat × Nat)):List (TA T)→List Nat→List (TV T)→Option (List (TA T))
 |cs,[],[] =>some cs
 |cs,i::is,u::us=>match pl[i]?,u.cs with
  |some (off,n),some vs=>match Nat.beq vs.length n && Nat.ble (off+n) cs.length with
   |true=>s0 pl (spl cs off vs) is us
   |false=>none
  |_,_=>none
 |_,_,_=>none
def t7(E:Env)(t:Ty):List (TV E.T)→Option (List (Den E.T t))
 | [] =>some []
 |u::us=>match u.cs,t7 E t us with
  |some l,some xs=>match pkT E t l with
   |some (x,[])=>some (x::xs)
   |_=>none
  |_,_=>none
def Hs{T:Nat→Type}:List (TV T)→Option (List (TA T))
 | [] =>some []
 |.a x::us=>match Hs us with
  |some xs=>some (x::xs)
  |none=>none
 |_::_=>none
inductive PR (R:Type) where
 |ok (r:R)
 |pan (v:Value)
inductive XR (T:Nat→Type):Type 1 where
 |bad
 |ret {Z:Type} (o:Option Z) (ids:List Nat) (u:Z→TV T) (h:Z→List (Nat × TB T))
 |may {Z:Type} (o:Option (PR Z)) (ids:List Nat) (u:Z→TV T) (h:Z→List (Nat × TB T))
 |mv {Z:Type} (o:Option (PR Z)) (ids mv:List Nat) (nw:Nat) (u:Z→TV T) (h:Z→List (Nat × TB T))
structure Gam (E:Env) where
 f:List ((_:Nat) × (List (TV E.T)→PV E.T))
 q:List (Nat × List Ty)
 x:List ((_:Nat) × (List (TV E.T)→List (Nat × TB E.T)→XR E.T))
 mu:List Nat
def E3{E:Env}:List ((_:Nat) × (List (TV E.T)→PV E.T))→Nat→Option (List (TV E.T)→PV E.T)
 | [],_=>none
 | ⟨k,h⟩::r,i=>match Nat.beq i k with|true=>some h|false=>E3 r i
def CR{E:Env}:List ((_:Nat) × (List (TV E.T)→List (Nat × TB E.T)→XR E.T))→Nat→Bool
 | [],_=>false
 | ⟨k,_⟩::r,i=>match Nat.beq i k with|true=>true|false=>CR r i
def BV{E:Env}:List ((_:Nat) × (List (TV E.T)→List (Nat × TB E.T)→XR E.T))→Nat→List (TV E.T)→List (Nat × TB E.T)→XR E.T
 | [],_,_,_=>.bad
 | ⟨k,h⟩::r,i,us,hs=>match Nat.beq i k with
   |true=>match h us hs with
    |.bad=>BV r i us hs
    |x=>x
   |false=>BV r i us hs
theorem uX{E:Env}:∀ {G:List ((_:Nat) × (List (TV E.T)→PV E.T))} {f:Nat} {h:List (TV E.T)→PV E.T},E3 G f=some h→⟨f,h⟩∈G
 | [],_,_,h=>by cases h
 | ⟨k,h0⟩::r,f,h,hl=>by
   simp only[E3] at hl
   split at hl
   ·rename_i e;cases hl;rw[Nat.eq_of_beq_eq_true e];exact List.mem_cons_self
   ·exact List.mem_cons_of_mem _ (uX hl)
def VM(a b:Int):Bool:=a==b
def Wq(a b:Bool):Bool:=a==b
def zN(a b:List UInt8):Bool:=decide (a=b)
def eqA{T:Nat→Type}(t:Ty)(x y:TA T):Option Bool:=
 match t with
 |.int k=>match asD (.int k) x,asD (.int k) y with
  |some a,some b=>some (VM a b)
  |_,_=>none
 |.byte=>match asD .byte x,asD .byte y with
  |some a,some b=>some (VM ((UInt8.toNat a:Nat):Int) ((UInt8.toNat b:Nat):Int))
  |_,_=>none
 |.bool=>match asD .bool x,asD .bool y with
  |some a,some b=>some (Wq a b)
  |_,_=>none
 |.str=>match asD .str x,asD .str y with
  |some a,some b=>some (zN a b)
  |_,_=>none
 |_=>none
def eqT{T:Nat→Type}:List Ty→List (TA T)→List (TA T)→Option Bool
 | [],[],[] =>some true
 |t::ts,x::xs,y::ys=>match eqA t x y,eqT ts xs ys with
  |some p,some q=>some (p && q)
  |_,_=>none
 |_,_,_=>none
def Wg{E:Env}(q:List (Nat × List Ty))(op:BinOp)(t:TypeId)(a b:List (TA E.T)):PV E.T:=
 match look q t with
 |some ts=>match eqT ts a b,op with
  |some r,.eql=>.one (.a (.d .bool r))
  |some r,.neq=>.one (.a (.d .bool (!r)))
  |_,_=>.bad
 |none=>.bad
def Fq{P:Program}(Y:Tys P)(E:Env)(σ:TS E.T)(t t2:TypeId)(x:Operand):PV E.T:=
 match look Y.ty t,look Y.ty t2 with
 |some _,some (.int k)=>match asI (opT σ x) with
  |some (_,n)=>.one (mkI k (k.wrap n))
  |none=>.bad
 |some .string,some .string=>match asS (opT σ x) with
  |some s=>.one (.a (.d .str s))
  |none=>.bad
 |some (.slice e),some .string=>match look Y.ty e,asL (opT σ x) with
  |some (.int .u8),some ⟨.byte,l⟩=>.one (.a (.d .str l))
  |_,_=>.bad
 |some .string,some (.slice e)=>match look Y.ty e,asS (opT σ x) with
  |some (.int .u8),some s=>.one (.a (.own .byte s))
  |_,_=>.bad
 |_,_=>.bad
def MA:TypeDesc→Option Ty
 |.int .u8=>none
 |.int k=>some (.int k)
 |.bool=>some .bool
 |.string=>some .str
 |_=>none
def rZ{T:Nat→Type}(t:Ty)(v:Value):Option (Den T t):=match t,v with
 |.int k,.int k' n=>match decide (k=k') with
  |true=>some n
  |false=>none
 |.bool,.bool b=>some b
 |.str,.string s=>some s.data.toList
 |_,_=>none
def ifT{T:Nat→Type}:TV T→Option (TC T)
 |.a x=>match x.plain with
  |true=>some (.a x)
  |false=>none
 |.ag l=>some (.ag l)
 |_=>none
def VW:TypeDesc→Bool
 |.interface _=>false
 |_=>true
def S6{P:Program}(Y:Tys P)(E:Env)(G:Gam E)(σ:TS E.T)(op:Op)(ty:TypeId):PV E.T:=
 match op with
 |.move (.func f)|.assign (.func f)=>.one (.fn f [])
 |.move x|.assign x=>match opT σ x with
  |some u=>.one (xP E ty u.rd)
  |none=>.bad
 |.binOp op t x y _=>match opT σ x,opT σ y with
  |some (.ag a),some (.ag b)=>Wg G.q op t a b
  |_,_=>NR Y σ op t x y
 |.unOp .not _ x=>match opT σ x with
  |some (.a (.d .bool b))=>.one (.a (.d .bool (!b)))
  |some (.a .tt)=>.one (.a .ff)
  |some (.a .ff)=>.one (.a .tt)
  |_=>.bad
 |.unOp .neg _ x=>match asI (opT σ x) with
  |some (k,n)=>.one (mkI k (k.wrap (0 - n)))
  |none=>.bad
 |.unOp .xor _ x=>match asI (opT σ x) with
  |some (k,n)=>.one (mkI k (bits .xor k (if k.signed then -1 else k.max) n))
  |none=>.bad
 |.convert t t2 x=>Fq Y E σ t t2 x
 |.extract x i=>match opT σ x with
  |some (.tu us)=>match us[i]? with
   |some (.a u)=>.one (.a u.rd)
   |some (.ag l)=>.one (.ag l)
   |none=>.bad
  |_=>.bad
 |.index t x y=>match look Y.ty t,asS (opT σ x),asI (opT σ y) with
  |some .string,some s,some (_,i)=>.opt (bN s i) fun b=>.a (.d .byte b)
  |_,_,_=>.bad
 |.slice t x lo hi none=>match look Y.ty t with
  |some .string=>match asS (opT σ x) with
   |some s=>match yR σ lo 0,yR σ hi s.length with
    |some i,some j=>.opt (oG s i j) fun r=>.a (.d .str r)
    |_,_=>.bad
   |none=>.bad
  |some (.slice e)=>match asL (opT σ x) with
   |some ⟨ty,l⟩=>match look Y.sz e,yR σ lo 0,yR σ hi l.length with
    |some (sz,_),some i,some j=>match Nat.beq sz (csz E.toEnc ty) with
     |true=>.opt (oG l i j) fun r=>.a (.d (.sl ty) r)
     |false=>.bad
    |_,_,_=>.bad
   |none=>.bad
  |_=>.bad
 |.slice t x lo (some hi) (some m)=>match look Y.ty t with
  |some (.slice e)=>match asL (opT σ x) with
   |some ⟨ty,l⟩=>match look Y.sz e,yR σ lo 0,asI (opT σ hi),asI (opT σ m) with
    |some (sz,_),some i,some (_,j),some (_,m)=>match Nat.beq sz (csz E.toEnc ty) with
     |true=>.opt (Me l i j m) fun r=>.a (.d (.sl ty) r)
     |false=>.bad
    |_,_,_,_=>.bad
   |none=>.bad
  |_=>.bad
 |.indexAddr t x y=>match look Y.ty t,asL (opT σ x),asI (opT σ y) with
  |some (.slice e),some ⟨ty,l⟩,some (_,i)=>match look Y.sz e with
   |some (sz,_)=>match Nat.beq sz (csz E.toEnc ty) with
    |true=>.opt (bN l i) fun z=>.el (ga E ty z)
    |false=>.bad
   |none=>.bad
  |_,_,_=>.bad
 |.fieldAddr t x i=>match look Y.ty t with
  |some (.struct fs)=>match fs[i]? with
   |some f=>match look Y.sz f.type with
    |some fsz=>match Nat.ble 1 fsz.1 with
     |true=>match opT σ x with
      |some (.el cs)=>match Nat.ble f.offset cs.length with
       |true=>.one (.el (cs.drop f.offset))
       |false=>.bad
      |some (.a (.box k o))=>.one (.a (.box k (o+f.offset)))
      |_=>.bad
     |false=>.bad
    |none=>.bad
   |none=>.bad
  |_=>.bad
 |.load t x=>match opT σ x,look Y.ty t with
  |some (.el cs),some (.struct fs)=>match look Y.sz t with
   |some (n,_)=>match Nat.ble n cs.length with
    |true=>.one (.ag (cs.take n))
    |false=>.bad
   |none=>.bad
  |some (.el (c::_)),some dsc=>match lf dsc with
   |true=>.one (.a c.rd)
   |false=>.bad
  |some (.a (.box k o)),some (.struct fs)=>match look σ.h k,look Y.sz t with
   |some (.cs cs),some (n,_)=>match Nat.ble (o+n) cs.length with
    |true=>.one (.ag (((cs.drop o).take n).map TA.rd))
    |false=>.bad
   |_,_=>.bad
  |some (.a (.box k o)),some dsc=>match lf dsc,look σ.h k with
   |true,some (.cs cs)=>match cs[o]? with
    |some c=>.one (.a c.rd)
    |none=>.bad
   |_,_=>.bad
  |_,_=>.bad
 |.build t ps=>match look Y.ty t,look Y.zr t with
  |some (.struct fs),some zv=>match rq Y fs.toList,u7 σ (ps.toList.map (·.2)) with
   |some pl,some us=>match s0 pl (zv.cells.toList.map atomT) (ps.toList.map (·.1)) us with
    |some cs=>.one (.ag (cs.map TA.rd))
    |none=>.bad
   |_,_=>.bad
  |_,_=>.bad
 |.buildSlice t len ps=>match look Y.ty t,look E.et t with
  |some (.slice e),some (.sl ty)=>match look Y.sz e,u7 σ (ps.toList.map (·.2)) with
   |some (sz,_),some us=>match t7 E ty us with
    |some xs=>match Nat.beq sz (csz E.toEnc ty) && pm ps.toList 0 && Nat.beq len ps.toList.length && Nat.ble (len * sz) 16777216 with
     |true=>.one (.a (.own ty xs))
     |false=>.bad
    |none=>.bad
   |_,_=>.bad
  |_,_=>.bad
 |.nilCheck x=>match opT σ x with
  |some (.a (.box k o))=>.one (.a (.box k o))
  |some (.el cs)=>.one (.el cs)
  |_=>.bad
 |.makeFunc (.func f) first caps=>match first.toList with
  | [] =>match u7 σ caps.toList with
    |some us=>match Hs us with
     |some xs=>.one (.fn f xs)
     |none=>.bad
    |none=>.bad
  |_=>.bad
 |.call { callee:=.builtin .len,args:=xs,argTypes:=ats }=>match xs.toList,ats[0]? with
  | [x],some t=>match look Y.ty t with
    |some .string=>match asS (opT σ x) with
     |some s=>.one (.a (.d (.int .i64) (s.length:Int)))
     |none=>.bad
    |some (.slice _)=>match asL (opT σ x) with
     |some ⟨_,l⟩=>.one (.a (.d (.int .i64) (l.length:Int)))
     |none=>.bad
    |_=>.bad
  |_,_=>.bad
 |.call { callee:=.builtin .min,args:=xs,argTypes:=_ }=>match xs.toList with
  | [x,y] =>match asI (opT σ x),asI (opT σ y) with
    |some (.i64,a),some (.i64,b)=>.one (.a (.d (.int .i64) (if b < a then b else a)))
    |_,_=>.bad
  |_=>.bad
 |.call { callee:=.builtin .max,args:=xs,argTypes:=_ }=>match xs.toList with
  | [x,y] =>match asI (opT σ x),asI (opT σ y) with
    |some (.i64,a),some (.i64,b)=>.one (.a (.d (.int .i64) (if a < b then b else a)))
    |_,_=>.bad
  | [x,y,z] =>match asI (opT σ x),asI (opT σ y),asI (opT σ z) with
    |some (.i64,a),some (.i64,b),some (.i64,c)=>.one (.a (.d (.int .i64) (if(if a < b then b else a) < c then c else(if a < b then b else a))))
    |_,_,_=>.bad
  |_=>.bad
 |.call { callee:=.value (.func f),args:=xs,argTypes:=ats }=>match E3 G.f f,u7 σ xs.toList with
  |some h,some us=>h (eT E ats.toList us)
  |_,_=>.bad
 |.call { callee:=.value (.tmp s),args:=xs,argTypes:=ats }=>match look σ.t s with
  |some (.fn f [])=>match E3 G.f f,u7 σ xs.toList with
   |some h,some us=>h (eT E ats.toList us)
   |_,_=>.bad
  |_=>.bad
 |.field t x i=>match opT σ x,look Y.ty t with
  |some (.ag cs),some (.struct fs)=>match fs[i]? with
   |some f=>match look Y.ty f.type,cs[f.offset]? with
    |some dsc,some c=>match lf dsc with
     |true=>.one (.a c.rd)
     |false=>.bad
    |_,_=>.bad
   |none=>.bad
  |_,_=>.bad
 |.lookup t x y ok=>match look Y.ty t,opT σ x,asS (opT σ y) with
  |some (.map kt et),some (.a (.mpr k)),some key=>match look Y.ty kt,look Y.zr et,look σ.h k with
   |some .string,some zv,some (.smap ty l)=>match rZ ty zv,ok with
    |some z,true=>.one (.tu [.a (.d ty ((qj l key).getD z)),.a (.d .bool (qj l key).isSome)])
    |some z,false=>.one (.a (.d ty ((qj l key).getD z)))
    |none,_=>.bad
   |_,_,_=>.bad
  |_,_,_=>.bad
 |.makeInterface t x=>match opT σ x,look Y.ty t with
  |some u,some dsc=>match ifT u,VW dsc with
   |some c,true=>.one (.ifc t c)
   |_,_=>.bad
  |_,_=>.bad
 |_=>.bad
def gN(n:Nat)(i:Int):Option Nat:=if 0≤i∧i < n then some i.toNat else none
def FE(c:Nat)(i j:Int):Option (Nat × Nat):=if 0≤i∧i≤j∧j≤c then some (i.toNat,j.toNat) else none
def Rh{α:Type}(off n:Nat)(l:List α):Option (List α):=if off=0∧n=l.length then some l else none
def offN(off c i:Nat):Nat:=if c=i then off else off+i
def sz1{P:Program}(Y:Tys P)(e:TypeId):Bool:=match look Y.sz e with
 |some (1,_)=>true
 |_=>false
def ST{P:Program}(Y:Tys P)(E:Env)(σ:TS E.T)(op:Op):PV E.T:=
 match op with
 |.indexAddr t x y=>match opT σ x,asI (opT σ y),look Y.ty t with
  |some (.a (.bsl k off n _)),some (_,i),some (.slice e)=>match sz1 Y e with
   |true=>.opt (gN n i) fun j=>.a (.box k (off+j))
   |false=>.bad
  |some (.a (.box k off)),some (_,i),some (.array n e)=>match sz1 Y e with
   |true=>.opt (gN n i) fun j=>.a (.box k (off+j))
   |false=>.bad
  |_,_,_=>.bad
 |.load t x=>match opT σ x,look Y.ty t with
  |some (.a (.box k o)),some dsc=>match lf dsc,look σ.h k with
   |true,some (.row ty l)=>match ty.lone with
    |true=>.opt l[o]? fun z=>.a (.d ty z)
    |false=>.bad
   |_,_=>.bad
  |_,_=>.bad
 |.slice t x lo hi none=>match opT σ x,look Y.ty t with
  |some (.a (.bsl k off n c)),some (.slice e)=>match sz1 Y e,yR σ lo 0,yR σ hi n with
   |true,some i,some j=>.opt (FE c i j) fun p=>.a (.bsl k (offN off c p.1) (p.2 - p.1) (c - p.1))
   |_,_,_=>.bad
  |some (.a (.box k off)),some (.array n e)=>match sz1 Y e,yR σ lo 0,yR σ hi n with
   |true,some i,some j=>.opt (FE n i j) fun p=>.a (.bsl k (offN off n p.1) (p.2 - p.1) (n - p.1))
   |_,_,_=>.bad
  |_,_=>.bad
 |.convert t t2 x=>match look Y.ty t,look Y.ty t2,opT σ x with
  |some (.slice e),some .string,some (.a (.bsl k off n _))=>match look Y.ty e,look σ.h k with
   |some (.int .u8),some (.row .byte l)=>.opt (Rh off n l) fun s=>.a (.d .str s)
   |_,_=>.bad
  |_,_,_=>.bad
 |.call { callee:=.builtin .len,args:=xs,argTypes:=ats }=>match xs.toList,ats[0]? with
  | [x],some t=>match look Y.ty t,opT σ x with
    |some (.slice _),some (.a (.bsl _ _ n _))=>.one (.a (.d (.int .i64) (n:Int)))
    |_,_=>.bad
  |_,_=>.bad
 |.binOp op t x y _=>match opT σ x,opT σ y with
  |some (.a (.raw (.slice none 0 0))),some (.a (.raw (.slice none 0 0)))=>match look Y.ty t,op with
   |some (.slice _),.eql=>.one (.a .tt)
   |some (.slice _),.neq=>.one (.a .ff)
   |_,_=>.bad
  |_,_=>.bad
 |_=>.bad
def FC{P:Program}(Y:Tys P)(e:TypeId)(n:Nat):Bool:=match look Y.sz e with
 |some (m,_)=>Nat.beq m n
 |none=>false
def pL{T:Nat→Type}(h:List (Nat × TB T))(t:Ty)(k:Nat):Option (List (Den T t)):=match look h k with
 |some (.vec k' t' l)=>match Nat.beq k' k with
  |true=>kw (.sl t') (.sl t) l
  |false=>none
 |_=>none
def BK(n:Nat)(p:Option (List Bool))(i:Int):Option Bool:=p.bind fun l=>(gN n i).map fun j=>l.getD j false
def RZ{P:Program}(Y:Tys P)(E:Env)(σ:TS E.T)(op:Op):PV E.T:=
 match op with
 |.lookup t x y ok=>match look Y.ty t,opT σ x,asI (opT σ y) with
  |some (.map kt et),some (.a (.mpr k)),some (.i64,key)=>match look Y.ty kt,look Y.zr et,look σ.h k with
   |some (.int .i64),some zv,some (.imap ty l)=>match rZ ty zv,ok with
    |some z,true=>.one (.tu [.a (.d ty ((wI l key).getD z)),.a (.d .bool (wI l key).isSome)])
    |some z,false=>.one (.a (.d ty ((wI l key).getD z)))
    |none,_=>.bad
   |_,_,_=>.bad
  |_,_,_=>.bad
 |.nilCheck x=>match opT σ x with
  |some (.a (.d (.ptr (.nam i)) p))=>.opt p fun y=>.el (E.unp i y)
  |some (.a (.d (.ptr (.bits n)) p))=>.opt p fun y=>.a (.d (.ptr (.bits n)) (some y))
  |_=>.bad
 |.indexAddr t x y=>match opT σ x,asI (opT σ y),look Y.ty t with
  |some (.a (.d (.ptr (.bits n)) p)),some (_,i),some (.array m e)=>match sz1 Y e && Nat.beq m n with
   |true=>.opt (BK n p i) fun b=>.el [.d .bool b]
   |false=>.bad
  |some (.a (.vec ty k n)),some (_,i),some (.slice e)=>match FC Y e (csz E.toEnc ty) with
   |true=>.opt (gN n i) fun j=>.a (.pel ty k j 0)
   |false=>.bad
  |some (.a (.vsl ty k off n)),some (_,i),some (.slice e)=>match FC Y e (csz E.toEnc ty) with
   |true=>.opt (gN n i) fun j=>.a (.pel ty k (off+j) 0)
   |false=>.bad
  |_,_,_=>.bad
 |.fieldAddr t x i=>match opT σ x,look Y.ty t with
  |some (.a (.pel ty k j o)),some (.struct fs)=>match fs[i]? with
   |some f=>match look Y.sz f.type with
    |some fsz=>match Nat.ble 1 fsz.1 with
     |true=>.one (.a (.pel ty k j (o+f.offset)))
     |false=>.bad
    |none=>.bad
   |none=>.bad
  |_,_=>.bad
 |.load t x=>match opT σ x with
  |some (.a (.pel ty k j o))=>match pL σ.h ty k,look Y.ty t with
   |some l,some (.struct _)=>match Nat.beq o 0 && FC Y t (csz E.toEnc ty) with
    |true=>.opt l[j]? fun z=>.ag (ga E ty z)
    |false=>.bad
   |some l,some dsc=>match lf dsc && Nat.blt o (csz E.toEnc ty) with
    |true=>.opt l[j]? fun z=>.a ((ga E ty z).getD o (.raw undef)).rd
    |false=>.bad
   |_,_=>.bad
  |_=>.bad
 |.slice t x (some lo) none none=>match opT σ x,asI (opT σ lo),look Y.ty t with
  |some (.a (.vec ty k n)),some (.i64,i),some (.slice e)=>match FC Y e (csz E.toEnc ty) with
   |true=>.opt (FE n i n) fun p=>.a (.vsl ty k p.1 (n - p.1))
   |false=>.bad
  |_,_,_=>.bad
 |.call { callee:=.builtin .len,args:=xs,argTypes:=ats }=>match xs.toList,ats[0]? with
  | [x],some t=>match look Y.ty t,opT σ x with
    |some (.slice _),some (.a (.vec _ _ n))=>.one (.a (.d (.int .i64) (n:Int)))
    |some (.slice _),some (.a (.vsl _ _ _ n))=>.one (.a (.d (.int .i64) (n:Int)))
    |_,_=>.bad
  |_,_=>.bad
 |_=>.bad
def evP{P:Program}(Y:Tys P)(E:Env)(G:Gam E)(σ:TS E.T)(op:Op)(ty:TypeId):PV E.T:=
 match RZ Y E σ op with
 |.bad=>match ST Y E σ op with
  |.bad=>S6 Y E G σ op ty
  |v=>v
 |v=>v
theorem Le1.trans{a b c:AV}(h:Le1 a b)(k:Le1 b c):Le1 a c:=by
 cases h with
 |refl=>exact k
 |rd o sz l=>cases k<;> exact .rd _ _ _
 |nil o sz=>cases k<;> exact .nil _ _
theorem LeL.trans{a b c:List AV}(h:LeL a b)(k:LeL b c):LeL a c:=by
 induction h generalizing c with
 |nil=>exact k
 |cons hu _ ih=>cases k with|cons ku kr=>exact .cons (hu.trans ku) (ih kr)
theorem qv(u:AV):Le1 u u.rd:=by cases u<;> first|exact .refl _|exact .rd _ _ _
section
variable {P:Program} {o:Oper} {σ:AS}
theorem KT{u u':AV}(h:OpV P o σ u)(hl:Le1 u u'):OpV P o σ u':=by
 cases hl with
 |refl=>exact h
 |rd ow sz l=>exact fun F X a hs=>(h F X a hs).mono fun x w' ⟨X',h1,h2,h3,h4,h5⟩=>⟨X',h1,h2,h3,h4.own,FreshOk.plain rfl⟩
 |nil ow sz=>
  refine fun F X a hs=>(h F X a hs).mono fun x w' ⟨X',h1,h2,h3,h4,h5⟩=> ?_
  have hx:=bF h4
  subst hx
  refine⟨X',h1,h2,h3,.nl _ _ _ _,fun sz' l hq=> ?_⟩
  cases ow with
  |false=>cases hq
  |true=>cases hq;exact⟨.inl ⟨rfl,rfl⟩,fun a n c e=>by cases e⟩
theorem Aw{X:GW}{cs cs':List AV}{v:Value}(h:Rel X (.ag cs) v)(hl:LeL cs cs'):Rel X (.ag cs') v:=by
 cases h with
 |ag us xs hlen hr=>
  refine .ag cs' xs (by rw[← hl.length];exact hlen) fun i u' x hu hx=> ?_
  obtain⟨u,h1,h2⟩:=hl.get i u' hu
  exact h2.rel (hr i u x h1 hx)
theorem IM{cs cs':List AV}(h:OpV P o σ (.ag cs))(hl:LeL cs cs'):OpV P o σ (.ag cs'):=
 fun F X a hs=>(h F X a hs).mono fun x w' ⟨X',h1,h2,h3,h4,h5⟩=>⟨X',h1,h2,h3,Aw h4 hl,FreshOk.plain rfl⟩
inductive LeR:List (List AV)→List (List AV)→Prop
 |nil:LeR [] []
 |cons {r r':List AV} {R R':List (List AV)}:LeL r r'→LeR R R'→LeR (r::R) (r'::R')
theorem LeR.length{R R':List (List AV)}(h:LeR R R'):R.length=R'.length:=by induction h<;> simp_all
theorem LeR.get{R R':List (List AV)}(h:LeR R R'):∀ (i:Nat) r',R'[i]? =some r'→∃r,R[i]? =some r∧LeL r r':=by
 induction h with
 |nil=>intro i r' h;simp at h
 |cons hr _ ih=>
  intro i r' h
  cases i with
  |zero=>simp at h;subst h;exact⟨_,by simp,hr⟩
  |succ i=>simpa using ih i r' (by simpa using h)
theorem D0{X:GW}{ow:Bool}{sz:Nat}{R R':List (List AV)}{v:Value}(h:Rel X (.sl ow sz R) v)(hl:LeR R R'):Rel X (.sl ow sz R') v:=by
 cases h with
 |nl _ _ a c=>cases hl;exact .nl _ _ _ _
 |sl _ _ _ b off cap n c hg hn hc hs hm hr=>
  rw[hl.length]
  refine .sl ow sz R' b off cap n c hg (by rw[← hl.length];exact hn) (by rw[← hl.length];exact hc) (fun i r' hr'=> ?_) (fun i j r' u' hr' hu'=> ?_) (fun i j r' u' hr' hu'=> ?_)
  ·obtain⟨r,h1,h2⟩:=hl.get i r' hr'
   rw[← h2.length];exact hs i r h1
  ·obtain⟨r,h1,h2⟩:=hl.get i r' hr'
   obtain⟨u,k1,k2⟩:=h2.get j u' hu'
   exact hm i j r u h1 k1
  ·obtain⟨r,h1,h2⟩:=hl.get i r' hr'
   obtain⟨u,k1,k2⟩:=h2.get j u' hu'
   exact k2.rel (hr i j r u h1 k1)
theorem JN{F:Nat→Prop}{X:GW}{sz:Nat}{R R':List (List AV)}{v:Value}(h:gl F X sz R v)(hl:R.length=R'.length):gl F X sz R' v:=by
 rcases h with ⟨h1,h2⟩| ⟨b,cap,cs,e,fr,h1,h2,h3,h4,h5,h6⟩
 ·left;refine⟨h1,?_⟩;subst h2;exact List.length_eq_zero_iff.1 (by rw[← hl];rfl)
 ·right;rw[hl] at h1 h2 h5;exact⟨b,cap,cs,e,fr,h1,h2,h3,h4,h5,h6⟩
theorem EB{ow:Bool}{sz:Nat}{R R':List (List AV)}(h:OpV P o σ (.sl ow sz R))(hl:LeR R R'):OpV P o σ (.sl ow sz R'):=
 fun F X a hs=>(h F X a hs).mono fun x w' ⟨X',h1,h2,h3,h4,h5⟩=>by
  refine⟨X',h1,h2,h3,D0 h4 hl,fun sz' l hq=> ?_⟩
  cases ow with
  |false=>cases hq
  |true=>cases hq;obtain⟨k1,k2⟩:=h5 _ _ rfl;exact⟨JN k1 hl.length,k2⟩
end
theorem D2{P:Program}{len cap:Nat}{lo:Option Value}{i j m:Int}{k1 k2:IntKind}{w:World}(hlo:Em lo i 0)(h1:0≤i)(h2:i≤j)(h3:j≤m)(h4:m≤cap):
  (Instr.sliceBounds true len cap lo (some (.int k1 j)) (some (.int k2 m))).run P w=.ok (i.toNat,j.toNat,m.toNat) w:=by
 have hM:∀ (c:BoundsCode),(Instr.sliceBound (.int k2 m) cap c).run P w=.ok m.toNat w:=fun c=>oT (by omega) h4
 have hB:∀ (c:BoundsCode),(Instr.sliceBound (.int k1 j) m.toNat c).run P w=.ok j.toNat w:=fun c=>oT (by omega) (by omega)
 have hA:∀ (k:IntKind) (c:BoundsCode),(Instr.sliceBound (.int k i) j.toNat c).run P w=.ok i.toNat w:=fun k c=>oT h1 (by omega)
 cases lo with
 |none=>
  simp only[Em] at hlo
  subst hlo
  simp[Instr.sliceBounds,hM,hB]
 |some v0=>
  obtain⟨k0,rfl⟩:=hlo
  simp[Instr.sliceBounds,hM,hB,hA]
theorem D1{P:Program}{T:Tys P}{σ:AS}{d:Option Tmp}{t ty e:TypeId}{x hi mx:Operand}{pos:String}{af:Array Edge}{g:Option (Nat × Bool)}{lo:Option Operand}{o:Bool}{sz:Nat}{l:List (List AV)}{k1 k2 k3:IntKind}{i j m:Int}{by_:Nat}(hx:opV σ x=some (.sl o sz l))(h0:look T.ty t=some (.slice e))(hsz:look T.sz e=some (sz,by_))
  (hlo:m8 σ lo k1 i 0) (hhi:opV σ hi=some (.v (.int k2 j))) (hmx:opV σ mx=some (.v (.int k3 m))) (h1:0≤i) (h2:i≤j) (h3:j≤m) (h4:m≤l.length)  {F:Nat→Prop} {X:GW} (ac:Act) (hs:SimR F X σ (.slice t x lo (some hi) (some mx)) ac.tmps):
  ∃a',(execOp ac.eval ⟨d,.slice t x lo (some hi) (some mx),ty,pos,af,g⟩).run P X.w=.ok (.value (.slice a' (j.toNat - i.toNat) (m.toNat - i.toNat))) X.w∧Rel X (.sl false sz ((l.take j.toNat).drop i.toNat)) (.slice a' (j.toNat - i.toNat) (m.toNat - i.toNat)):=by
 have e1:=co hs (by simp[Op.operands]) hx
 have e2:=aL hs (by cases lo<;> simp[Op.operands]) hhi
 have e3:=aL hs (by cases lo<;> simp[Op.operands]) hmx
 have hu:=T.tyOk _ _ h0
 obtain⟨inf,hi1,hi2,hi3⟩:=T.szOk _ _ _ hsz
 have hls:∀w:World,(sizeOf e).run P w=.ok sz w:=fun w=>by simp[sizeOf,typeInfo,hi1,hi2]
 obtain⟨a0,c0,hform⟩:=gy e1
 have hcap:l.length≤c0:=by
  rcases n4 e1 with ⟨h,hl⟩| ⟨b,off,cap,n,h,_,_,hc,_⟩
  ·rw[hl];exact Nat.zero_le _
  ·rw[hform] at h;cases h;exact hc
 have hB:=D2 (P:=P) (len:=l.length) (cap:=c0) (w:=X.w) (k1:=k2) (k2:=k3) (jd (q:=lo) (k:=k1) (i:=i) (z:=0) hs (fun p hp=>by subst hp;simp[Op.operands]) hlo) h1 h2 h3 (by omega)
 refine⟨(if m.toNat=i.toNat then a0 else a0.map (·.add (i.toNat * sz))),?_,?_⟩
 ·simp only[execOp,hform,e2,e3]
  refine aW ?_
  simp only[Instr.sliceAt,Instr.slice,Option.map_some,e2,e3]
  simp[run_underlying hu,hB,hls]
 ·have hlen:((l.take j.toNat).drop i.toNat).length=j.toNat - i.toNat:=by simp;omega
  rcases n4 e1 with ⟨⟨a1,c1,h⟩,hl⟩| ⟨b,off,cap,n,h,hg,hn,hc,c,c1,c2,c3⟩
  ·subst hl
   have:j.toNat - i.toNat=0:=by simp at h4;omega
   rw[this]
   simp only[List.take_nil,List.drop_nil]
   exact .nl _ _ _ _
  ·rw[hform] at h;cases h
   rw[← hlen]
   by_cases hci:m.toNat=i.toNat
   ·rw[if_pos hci]
    have hnil:(l.take j.toNat).drop i.toNat=[] :=List.eq_nil_of_length_eq_zero (by omega)
    rw[hnil]
    exact .sl _ _ [] b off _ n (fun _ _=>undef) hg (by simp;have:=Nat.zero_le (l.length * sz);omega) (Nat.zero_le _) (by simp) (by simp) (by simp)
   ·rw[if_neg hci]
    simp only[Option.map,en]
    have hget:∀ (q:Nat) (r:List AV),((l.take j.toNat).drop i.toNat)[q]? =some r→l[i.toNat+q]? =some r:=by
     intro q r hr
     rw[List.getElem?_drop,List.getElem?_take] at hr
     split at hr
     ·exact hr
     ·cases hr
    refine .sl _ _ _ b (off+i.toNat * sz) _ n (fun q p=>c (i.toNat+q) p) hg ?_ (by omega) (fun q r hr=>c1 _ r (hget q r hr)) (fun q p r u hr hu=> ?_) (fun q p r u hr hu=>c3 _ p r u (hget q r hr) hu)
    ·rw[hlen,Nat.add_assoc,← Nat.add_mul,show i.toNat+ (j.toNat - i.toNat)=j.toNat by omega]
     have:j.toNat * sz≤l.length * sz:=Nat.mul_le_mul_right _ (by omega)
     omega
    ·rw[← c2 (i.toNat+q) p r u (hget q r hr) hu,Nat.add_mul]
     congr 2;omega
theorem FR{P:Program}{T:Tys P}{σ:AS}{d:Option Tmp}{t ty e:TypeId}{x hi mx:Operand}{pos:String}{af:Array Edge}{g:Option (Nat × Bool)}{lo:Option Operand}{o:Bool}{sz:Nat}{l:List (List AV)}{k1 k2 k3:IntKind}{i j m:Int}{by_:Nat}(hx:opV σ x=some (.sl o sz l))(h0:look T.ty t=some (.slice e))(hsz:look T.sz e=some (sz,by_))
  (hlo:m8 σ lo k1 i 0) (hhi:opV σ hi=some (.v (.int k2 j))) (hmx:opV σ mx=some (.v (.int k3 m))) (h1:0≤i) (h2:i≤j) (h3:j≤m) (h4:m≤l.length):
  OpV P ⟨d,.slice t x lo (some hi) (some mx),ty,pos,af,g⟩ σ (.sl false sz ((l.take j.toNat).drop i.toNat)):=
 aG rfl fun F X ac hs=>let ⟨a',h⟩:=D1 (d:=d) (ty:=ty) (pos:=pos) (af:=af) (g:=g) hx h0 hsz hlo hhi hmx h1 h2 h3 h4 ac hs;⟨_,h⟩
theorem PX{P:Program}{σ:AS}{d:Option Tmp}{ty:TypeId}{x y:Operand}{pos:String}{af:Array Edge}{g:Option (Nat × Bool)}{ats:Array TypeId}{k k':IntKind}{a b:Int}(hx:opV σ x=some (.v (.int k a)))(hy:opV σ y=some (.v (.int k' b))):
  OpV P ⟨d,.call { callee:=.builtin .max,args:= #[x,y],argTypes:=ats },ty,pos,af,g⟩ σ (.v (.int k (if a < b then b else a))):=by
 refine aG rfl fun F X ac hs=>⟨_,?_,.v _⟩
 have h1:=aL hs (by simp[Op.operands,Call.operands]) hx
 have h2:=aL hs (by simp[Op.operands,Call.operands]) hy
 simp[execOp,resolve,invoke,builtin,Builtin.max_,Builtin.max2,h1,h2]
theorem L9{P:Program}{σ:AS}{d:Option Tmp}{ty:TypeId}{x y z:Operand}{pos:String}{af:Array Edge}{g:Option (Nat × Bool)}{ats:Array TypeId}{k k' k2:IntKind}{a b c:Int}(hx:opV σ x=some (.v (.int k a)))(hy:opV σ y=some (.v (.int k' b)))(hz:opV σ z=some (.v (.int k2 c))):
  OpV P ⟨d,.call { callee:=.builtin .max,args:= #[x,y,z],argTypes:=ats },ty,pos,af,g⟩ σ (.v (.int k (if(if a < b then b else a) < c then c else(if a < b then b else a)))):=by
 refine aG rfl fun F X ac hs=>⟨_,?_,.v _⟩
 have h1:=aL hs (by simp[Op.operands,Call.operands]) hx
 have h2:=aL hs (by simp[Op.operands,Call.operands]) hy
 have h3:=aL hs (by simp[Op.operands,Call.operands]) hz
 simp[execOp,resolve,invoke,builtin,Builtin.max_,Builtin.max2,h1,h2,h3]
theorem KN{P:Program}{σ:AS}{d:Option Tmp}{t ty:TypeId}{x:Operand}{pos:String}{af:Array Edge}{g:Option (Nat × Bool)}{op:UnOp}{k:IntKind}{a:Int}(hx:opV σ x=some (.v (.int k a)))(hop:op=.xor):OpV P ⟨d,.unOp op t x,ty,pos,af,g⟩ σ (.v (.int k (bits .xor k (if k.signed then -1 else k.max) a))):=by
 subst hop
 refine aG rfl fun F X ac hs=>⟨_,?_,.v _⟩
 have h1:=aL hs (by simp[Op.operands]) hx
 simp only[execOp,h1]
 refine aW ?_
 rfl
theorem F8{α:Type}{l r:List α}{i j m:Int}(h:Me l i j m=some r):0≤i∧i≤j∧j≤m∧m≤l.length∧r=(l.take j.toNat).drop i.toNat:=by
 unfold Me at h
 split at h
 ·rename_i h0;cases h;exact⟨h0.1,h0.2.1,h0.2.2.1,h0.2.2.2,rfl⟩
 ·cases h
section
variable {P:Program} {Y:Tys P} {E:Env} {ρ:Rn} {σ:TS E.T} {d:Option Tmp} {t t2 yt ty e:TypeId} {x y z:Operand} {pos:String} {af:Array Edge} {g:Option (Nat × Bool)}
theorem jI:∀ {xs:List Operand} {us:List (TV E.T)},u7 σ xs=some us→uq (σ.to E.toEnc ρ) xs=some (us.map (TV.to E.toEnc ρ))
 | [],us,h=>by cases h;rfl
 |x::xs,us,h=>by
  simp only[u7] at h
  split at h
  ·rename_i u us' h1 h2
   cases h
   simp only[uq,ax h1,jI h2,List.map_cons]
  ·cases h
theorem uO(t:TypeId)(u:TV E.T):Le1 (u.to E.toEnc ρ) ((xP E t u).to E.toEnc ρ):=by
 unfold xP
 split
 ·split
  ·exact .nil _ _
  ·exact .refl _
 ·split
  ·exact .refl _
  ·exact .refl _
 ·exact .refl _
theorem Cm(t:TypeId)(u:TV E.T):Le1 (u.to E.toEnc ρ) ((nrm (xP E t u).rd).to E.toEnc ρ):=by
 rw[pA,TV.rd_to];exact(uO t u).trans (qv _)
theorem H8(u:AV):cw (some u.rd)=none:=ef u
theorem i7:∀ (ts:List TypeId) (us:List (TV E.T)),us.length=(eT E ts us).length→LeL (us.map (TV.to E.toEnc ρ)) ((eT E ts us).map (TV.to E.toEnc ρ))
 | [],us,_=>by
   simp only[eT,List.map_map]
   induction us with
   |nil=>exact .nil
   |cons u us ih=>exact .cons (show Le1 _ ((nrm (TV.rd u)).to E.toEnc ρ) by rw[pA,TV.rd_to];exact qv _) (ih (by simp[eT]))
 |t::ts,[],_=>.nil
 |t::ts,u::us,h=>.cons (Cm t u) (i7 ts us (by simpa[eT] using h))
theorem g8:∀ (ts:List TypeId) (us:List (TV E.T)),us.length=(eT E ts us).length
 | [],us=>by simp[eT]
 |t::ts,[] =>rfl
 |t::ts,u::us=>by simp only[eT,List.length_cons];rw[g8 ts us]
theorem fV:∀ (ts:List TypeId) (us:List (TV E.T)),((eT E ts us).map (TV.to E.toEnc ρ)).all (fun u=>(cw (some u)).isNone)=true
 | [],us=>by
   simp only[eT,List.map_map,List.all_map,List.all_eq_true]
   intro u _
   simp only[Function.comp,pA,TV.rd_to,H8];rfl
 |t::ts,[] =>rfl
 |t::ts,u::us=>by
  simp only[eT,List.map_cons,List.all_cons,pA,TV.rd_to,H8,Bool.and_eq_true]
  exact⟨rfl,fV ts us⟩
theorem Q6{u:TV E.T}{l:List (TA E.T)}(h:u.cs=some l):(u.to E.toEnc ρ).cells=l.map (TA.to E.toEnc ρ)∧(u.to E.toEnc ρ).okc=true:=by
 unfold TV.cs at h
 split at h
 ·rename_i x
  split at h
  ·rename_i hs
   cases h
   cases x with
   |d t x=>
    cases t with
    |nam i=>cases hs
    |bits n=>cases hs
    |ptr t=>cases x<;> exact⟨rfl,rfl⟩
    |_=>exact⟨rfl,rfl⟩
   |raw v=>cases v<;> first|exact⟨rfl,rfl⟩|cases hs
   |vec t i n=>
    obtain⟨a,m,c,e⟩:=TA.vec_form E.toEnc ρ t i n
    show((TA.vec t i n:TA E.T).to E.toEnc ρ).cells=[(TA.vec t i n:TA E.T).to E.toEnc ρ] ∧((TA.vec t i n:TA E.T).to E.toEnc ρ).okc=true
    rw[e];exact⟨rfl,rfl⟩
   |vsl t i off n=>
    obtain⟨a,m,c,e⟩:=TA.vsl_form E.toEnc ρ t i off n
    show((TA.vsl t i off n:TA E.T).to E.toEnc ρ).cells=[(TA.vsl t i off n:TA E.T).to E.toEnc ρ] ∧((TA.vsl t i off n:TA E.T).to E.toEnc ρ).okc=true
    rw[e];exact⟨rfl,rfl⟩
   |_=>exact⟨rfl,rfl⟩
  ·cases h
 ·cases h;exact⟨rfl,rfl⟩
 ·cases h
theorem re(cs us:List (TA E.T))(o:Nat):(spl cs o us).map (TA.to E.toEnc ρ)=b7 (cs.map (TA.to E.toEnc ρ)) o (us.map (TA.to E.toEnc ρ)):=by
 simp[spl,b7]
theorem Bl{pl:List (Nat × Nat)}:∀ {is:List Nat} {us:List (TV E.T)} {cs cs':List (TA E.T)},s0 pl cs is us=some cs'→pF Y pl (cs.map (TA.to E.toEnc ρ)) is (us.map (TV.to E.toEnc ρ))=some (cs'.map (TA.to E.toEnc ρ))
 | [],[],cs,cs',h=>by simp only[s0,Option.some.injEq] at h;subst h;rfl
 | [],_::_,cs,cs',h=>by simp[s0] at h
 |_::_,[],cs,cs',h=>by simp[s0] at h
 |i::is,u::us,cs,cs',h=>by
  simp only[s0] at h
  split at h
  ·rename_i off n vs hpl hvs
   obtain⟨h1,h2⟩:=Q6 (ρ:=ρ) hvs
   split at h
   ·rename_i hc
    simp only[List.map_cons,pF,hpl,h1,h2,List.length_map,Bool.true_and,hc]
    rw[← re]
    exact Bl h
   ·cases h
  ·cases h
theorem lA(l:List (TA E.T)):LeL (l.map (TA.to E.toEnc ρ)) (l.map fun a=>(a.rd.to E.toEnc ρ)):=by
 induction l with
 |nil=>exact .nil
 |cons a l ih=>exact .cons (show Le1 _ ((TA.rd a).to E.toEnc ρ) by rw[TA.rd_to];exact qv _) ih
theorem sK{ty:Ty}:∀ {us:List (TV E.T)} {xs:List (Den E.T ty)},t7 E ty us=some xs→LeR ((us.map (TV.to E.toEnc ρ)).map AV.cells) (xs.map (cells E.toEnc ty))∧(us.map (TV.to E.toEnc ρ)).all (fun u=>u.okc && Nat.beq u.cells.length (csz E.toEnc ty))=true
 | [],xs,h=>by cases h;exact⟨.nil,rfl⟩
 |u::us,xs,h=>by
  simp only[t7] at h
  split at h
  ·rename_i l xs' h1 h2
   split at h
   ·rename_i x hx
    cases h
    obtain⟨k1,k2⟩:=Q6 (ρ:=ρ) h1
    obtain⟨m1,m2⟩:=sK h2
    have hp:=Ga E ρ hx
    simp only[List.map_nil,List.append_nil] at hp
    have hle:=(lA (ρ:=ρ) l).trans hp
    refine⟨?_,?_⟩
    ·simp only[List.map_cons]
     exact .cons (by rw[k1];exact hle) m1
    ·simp only[List.map_cons,List.all_cons,k1,k2,Bool.true_and,Bool.and_eq_true]
     refine⟨?_,m2⟩
     rw[hle.length,eK]
     exact Nat.beq_refl _
   ·cases h
  ·cases h
theorem DF:∀ {us:List (TV E.T)} {xs:List (TA E.T)},Hs us=some xs→us.map (TV.to E.toEnc ρ)=xs.map (TA.to E.toEnc ρ)
 | [],xs,h=>by cases h;rfl
 |.a x::us,xs,h=>by
  simp only[Hs] at h
  split at h
  ·rename_i xs' h2;cases h;simp only[List.map_cons,DF h2];rfl
  ·cases h
 |.ag _::_,_,h=>by cases h
 |.el _::_,_,h=>by cases h
 |.tu _::_,_,h=>by cases h
 |.fn _ _::_,_,h=>by cases h
 |.ifc _ _::_,_,h=>by cases h
theorem ge:∀ {cs:List AV},(∀u∈cs,u.isMp=false)→fx cs=false
 | [],_=>rfl
 | [u],h=>by
   have:=h u List.mem_cons_self
   cases u with
   |mp l=>cases this
   |_=>rfl
 |u::u'::r,_=>by cases u<;> rfl
theorem sB(cs:List (TA E.T)):fx (cs.map (TA.to E.toEnc ρ))=false:=ge fun u hu=>by
 obtain⟨c,_,rfl⟩:=List.mem_map.1 hu
 exact TA.to_notMp E.toEnc ρ c
theorem mn{q:Option Operand}{i z:Int}(h:yR σ q z=some i):m8 (σ.to E.toEnc ρ) q .i64 i z:=by
 unfold yR at h
 cases q with
 |none=>simp only[Option.some.injEq] at h;exact h.symm
 |some q=>
  simp only at h
  split at h
  ·rename_i j hj;cases h;exact dg hj
  ·cases h
theorem Av{α:Type}{l:List α}{i:Int}{z:α}(h:bN l i=some z):0≤i∧i < l.length∧l[i.toNat]? =some z:=by
 unfold bN at h
 split at h
 ·rename_i h0;have:=(List.getElem?_eq_some_iff.1 h).1;exact⟨h0,by omega,h⟩
 ·cases h
theorem Ay{α:Type}{l r:List α}{i j:Int}(h:oG l i j=some r):0≤i∧i≤j∧j≤l.length∧r=(l.take j.toNat).drop i.toNat:=by
 unfold oG at h
 split at h
 ·rename_i h0;cases h;exact⟨h0.1,h0.2.1,h0.2.2,rfl⟩
 ·cases h
theorem kT{a b:Nat}(h:Nat.beq a b=true):a=b:=Nat.eq_of_beq_eq_true h
theorem IW:(Fq Y E σ t t2 x).ok fun u=>OpV P ⟨d,.convert t t2 x,ty,pos,af,g⟩ (σ.to E.toEnc ρ) (u.to E.toEnc ρ):=by
 unfold Fq
 split
 ·rename_i d0 k h0 h1
  split
  ·rename_i k0 n hn
   simp only[PV.ok,m0]
   exact Br (T:=Y) (dg hn) h0 h1
  ·trivial
 ·rename_i h0 h1
  split
  ·rename_i s hs;exact CS (T:=Y) (nZ hs) h0 h1
  ·trivial
 ·rename_i e h0 h1
  split
  ·rename_i l he hl
   obtain⟨o,ho⟩:=qh (ρ:=ρ) hl
   exact zA (T:=Y) (o:=o) (L:=l) ho h0 he h1
  ·trivial
 ·rename_i e h0 h1
  split
  ·rename_i s he hs
   exact zU (T:=Y) (s:=mkB s) (nZ hs) h0 h1 he
  ·trivial
 ·trivial
theorem Nq{op:BinOp}:(NR Y σ op t x y).ok fun u=>OpV P ⟨d,.binOp op t x y yt,ty,pos,af,g⟩ (σ.to E.toEnc ρ) (u.to E.toEnc ρ):=by
 have nu:∀k,zY k=true→k≠.u8:=fun k h e=>by subst e;cases h
 unfold NR
 split
 ·split
  ·rename_i k a k' b hx hy
   intro z hz
   unfold UJ at hz
   split at hz
   ·rename_i hb;cases hz;rw[m0];exact Im (dg hx) (dg hy) rfl hb
   ·cases hz
  ·trivial
 ·split
  ·rename_i k a k' b hx hy
   split
   ·rename_i hk
    intro z hz
    unfold DJ at hz
    split at hz
    ·rename_i hb;cases hz;rw[tl _ _ (fun h=>absurd h (nu k hk))];exact Cv (dg hx) (dg hy) rfl hb
    ·cases hz
   ·rename_i hk
    have hk8:k=.u8:=Uj (by rw[hk];intro h;cases h)
    subst hk8
    intro z hz
    obtain⟨r,h1,h2⟩:=Dp hz
    unfold DJ at h1
    split at h1
    ·rename_i hb
     cases h1
     have:=Cv (P:=P) (d:=d) (t:=t) (yt:=yt) (ty:=ty) (pos:=pos) (af:=af) (g:=g) (dg (ρ:=ρ) hx) (dg (ρ:=ρ) hy) rfl hb
     rw[← h2] at this
     exact this
    ·cases h1
  ·trivial
 ·split
  ·rename_i k a k' b hx hy
   split
   ·rename_i e;subst e;exact PI (dg hx) (dg hy)
   ·trivial
  ·split
   ·rename_i a b hx hy;exact QO (nZ hx) (nZ hy)
   ·split
    ·rename_i a b hx hy h0 _ _;exact IZ (Y:=Y) (Cq hx) (Cq hy) rfl h0
    ·rename_i a b hx hy h0 _ _;exact JI (Y:=Y) (Cq hx) (Cq hy) rfl h0
    ·trivial
end
def tyB:Option TypeDesc→Ty→Bool
 |some (.int k),.int k'=>k==k' && zY k
 |some (.int .u8),.byte=>true
 |some .bool,.bool=>true
 |some .string,.str=>true
 |_,_=>false
def w8{P:Program}(Y:Tys P):List Field→Nat→List Ty→Bool
 | [],_,[] =>true
 |f::fs,k,t::ts=>f.name != "_" && Nat.beq f.offset k && tyB (look Y.ty f.type) t && w8 Y fs (k+1) ts
 |_,_,_=>false
structure EqOk (P:Program) (Y:Tys P) (t:TypeId) (ts:List Ty):Prop where
 ht:P.underlying t=some (.struct (P.fieldsOf t))
 hp:P.stoodInHeld t=false
 hg:P.eqGuardType P.depth t=false
 hf:w8 Y (P.fieldsOf t).toList 0 ts=true
theorem lU{E:Enc}{ρ:Rn}{t:Ty}{x:TA E.T}{a:Den E.T t}{X:GW}{v:Value}(h:asD t x=some a)(hr:Rel X (x.to E ρ) v):Rel X (one E t a) v:=by
 have h1:=hr.rd
 rw[← TA.rd_to] at h1
 exact(xQ E ρ h).rel h1
theorem Pw{P:Program}(d:Nat)(ft:TypeId)(a b:List UInt8)(w:World)(hu:P.underlying ft=some .string):(Op.equalIn (d+1) ft (.string (mkB a)) (.string (mkB b))).run P w=.ok (zN a b) w:=by
 have:=run_equalIn_string (P:=P) w d ft (mkB a) (mkB b) hu
 rw[vH,vH,jB,jB] at this
 have e:(a==b)=zN a b:=by
  unfold zN
  by_cases e:a=b<;> simp[e]
 rw[e] at this
 exact this
theorem Oz{P:Program}{Y:Tys P}{E:Enc}{ρ:Rn}{t:Ty}{ft:TypeId}{x y:TA E.T}{p:Bool}{X:GW}{v v':Value}(d:Nat)(w:World)(ht:tyB (look Y.ty ft) t=true)(h:eqA t x y=some p)(hx:Rel X (x.to E ρ) v)(hy:Rel X (y.to E ρ) v'):(Op.equalIn (d+1) ft v v').run P w=.ok p w∧lf ((look Y.ty ft).getD .bool)=true:=by
 cases hft:look Y.ty ft with
 |none=>rw[hft] at ht;cases t<;> cases ht
 |some ds=>
  rw[hft] at ht
  have hu:=Y.tyOk _ _ hft
  cases t with
  |int k=>
   cases ds with
   |int k'=>
    simp only[eqA] at h
    split at h
    ·rename_i a b ha hb
     cases h
     obtain rfl:=bF (lU ha hx)
     obtain rfl:=bF (lU hb hy)
     exact⟨run_equalIn_int w d ft k k' a b hu,rfl⟩
    ·cases h
   |_=>cases ht
  |byte=>
   cases ds with
   |int k'=>
    simp only[eqA] at h
    split at h
    ·rename_i a b ha hb
     cases h
     obtain rfl:=bF (lU ha hx)
     obtain rfl:=bF (lU hb hy)
     exact⟨run_equalIn_int w d ft .u8 k' _ _ hu,rfl⟩
    ·cases h
   |_=>cases ht
  |bool=>
   cases ds with
   |bool=>
    simp only[eqA] at h
    split at h
    ·rename_i a b ha hb
     cases h
     obtain rfl:=bF (lU ha hx)
     obtain rfl:=bF (lU hb hy)
     exact⟨run_equalIn_bool' w d ft a b hu,rfl⟩
    ·cases h
   |_=>cases ht
  |str=>
   cases ds with
   |string=>
    simp only[eqA] at h
    split at h
    ·rename_i a b ha hb
     cases h
     obtain rfl:=bF (lU ha hx)
     obtain rfl:=bF (lU hb hy)
     exact⟨Pw d ft a b w hu,rfl⟩
    ·cases h
   |_=>cases ht
  |_=>cases ds<;> cases ht
theorem u5{P:Program}{t:TypeId}{ds:TypeDesc}{cs:Array Value}{o:Nat}{v:Value}{w:World}(hu:P.underlying t=some ds)(h1:lf ds=true)(hv:cs[o]? =some v):(part t cs o).run P w=.ok v w:=by
 cases ds<;> simp[lf] at h1<;> simp[part,isAgg,run_underlying hu,hv]
theorem H4{P:Program}{Y:Tys P}{E:Enc}{ρ:Rn}{X:GW}{xs ys:Array Value}(d:Nat)(w:World):∀ (fs:List Field) (k:Nat) (ts:List Ty) (a b:List (TA E.T)) (r:Bool),w8 Y fs k ts=true→eqT ts a b=some r→(∀ (i:Nat) u v,a[i]? =some u→xs[k+i]? =some v→Rel X (u.to E ρ) v)→(∀ (i:Nat) u v,b[i]? =some u→ys[k+i]? =some v→Rel X (u.to E ρ) v)→k+a.length≤xs.size→k+b.length≤ys.size→
  (Op.eqFields (d+1) xs ys fs).run P w=.ok r w
 | [],k,ts,a,b,r,hf,h,hx,hy,h1,h2=>by
   cases ts with
   |nil=>cases a with
    |nil=>cases b with
     |nil=>cases h;simp[Op.eqFields]
     |cons _ _=>cases h
    |cons _ _=>cases h
   |cons _ _=>cases hf
 |f::fs,k,ts,a,b,r,hf,h,hx,hy,h1,h2=>by
  cases ts with
  |nil=>cases hf
  |cons t ts=>
   cases a with
   |nil=>cases h
   |cons u a=>
    cases b with
    |nil=>cases h
    |cons u' b=>
     simp only[w8,Bool.and_eq_true] at hf
     obtain⟨⟨⟨f1,f2⟩,f3⟩,f4⟩:=hf
     simp only[eqT] at h
     split at h
     ·rename_i p q hp hq
      cases h
      have hk1:k < xs.size:=by simp at h1;omega
      have hk2:k < ys.size:=by simp at h2;omega
      have e1:xs[k]? =some xs[k] :=Array.getElem?_eq_getElem hk1
      have e2:ys[k]? =some ys[k] :=Array.getElem?_eq_getElem hk2
      have r1:=hx 0 u xs[k] rfl e1
      have r2:=hy 0 u' ys[k] rfl e2
      have key:=fun w=>Oz (P:=P) (Y:=Y) d w f3 hp r1 r2
      cases hft:look Y.ty f.type with
      |none=>rw[hft] at f3;cases t<;> cases f3
      |some ds=>
       have ho:lf ds=true:=by have:=(key w).2;rw[hft] at this;exact this
       have hu:=Y.tyOk _ _ hft
       have hoff:=kT f2
       have hn:f.name≠ "_" :=by simpa using f1
       have ih:=H4 (P:=P) (Y:=Y) (E:=E) (ρ:=ρ) (X:=X) (xs:=xs) (ys:=ys) d w fs (k+1) ts a b q f4 hq (fun i v x hv hx'=>hx (i+1) v x (by simpa using hv) (by rw[← hx'];congr 1;omega)) (fun i v x hv hx'=>hy (i+1) v x (by simpa using hv) (by rw[← hx'];congr 1;omega)) (by simp at h1;omega) (by simp at h2;omega)
       have p1:=fun w=>u5 (P:=P) (w:=w) hu ho e1
       have p2:=fun w=>u5 (P:=P) (w:=w) hu ho e2
       simp only[Op.eqFields,hn,ne_eq,not_false_eq_true,if_true,Sem.run_bind,hoff,p1,p2,Result.andThen_ok,(key w).1]
       cases p with
       |true=>simp[ih]
       |false=>simp
     ·cases h
theorem HB{P:Program}{Y:Tys P}{E:Enc}{ρ:Rn}{σ:AS}{dd:Option Tmp}{t yt ty:TypeId}{x y:Operand}{pos:String}{af:Array Edge}{g:Option (Nat × Bool)}{ts:List Ty}{a b:List (TA E.T)}{r:Bool}(hq:EqOk P Y t ts)(hx:opV σ x=some (.ag (a.map (TA.to E ρ))))(hy:opV σ y=some (.ag (b.map (TA.to E ρ))))(h:eqT ts a b=some r):
  OpV P ⟨dd,.binOp .neq t x y yt,ty,pos,af,g⟩ σ (.v (.bool (!r)))∧OpV P ⟨dd,.binOp .eql t x y yt,ty,pos,af,g⟩ σ (.v (.bool r)):=by
 have key:∀ {X:GW} {v v':Value} (w:World),Rel X (.ag (a.map (TA.to E ρ))) v→Rel X (.ag (b.map (TA.to E ρ))) v'→∃xs ys,v=.agg xs∧v'=.agg ys∧(Op.equalIn 10000 t (.agg xs) (.agg ys)).run P w=.ok r w:=by
  intro X v v' w h1 h2
  cases h1 with
  |ag _ xs hl hr=>
   cases h2 with
   |ag _ ys hl' hr'=>
    refine⟨xs,ys,rfl,rfl,?_⟩
    rw[run_equalIn_agg w 9999 t xs ys hq.ht hq.hp]
    refine H4 (Y:=Y) (E:=E) (ρ:=ρ) (X:=X) 9998 w _ 0 ts a b r hq.hf h (fun i u v hu hv=>hr i _ v (by simp[hu]) (by simpa using hv)) (fun i u v hu hv=>hr' i _ v (by simp[hu]) (by simpa using hv)) (by simp at hl;omega) (by simp at hl';omega)
 constructor
 ·refine aG rfl fun F X ac hs=>⟨_,?_,.v _⟩
  obtain⟨xs,ys,e1,e2,e3⟩:=key X.w (co hs (by simp[Op.operands]) hx) (co hs (by simp[Op.operands]) hy)
  simp only[execOp,e1,e2]
  refine aW ?_
  simp[run_eqGuard_agg,hq.hg,run_neq_struct,e3]
 ·refine aG rfl fun F X ac hs=>⟨_,?_,.v _⟩
  obtain⟨xs,ys,e1,e2,e3⟩:=key X.w (co hs (by simp[Op.operands]) hx) (co hs (by simp[Op.operands]) hy)
  simp only[execOp,e1,e2]
  refine aW ?_
  simp[run_eqGuard_agg,hq.hg,run_eql_struct,e3]
def XR.ok{E:Env}(P:Program)(f:FuncId)(us:List (TV E.T))(hs:List (Nat × TB E.T)):XR E.T→Prop
 |.bad=>True
 |.ret o ids u h=>∀z,o=some z→(h z).map (·.1)=ids∧∀ρ,Inj ρ hs→ai P f (us.map (TV.to E.toEnc ρ)) (hTo E.toEnc ρ (cW hs ids)) fun out H=>out=.ret ((u z).to E.toEnc ρ)∧H=hTo E.toEnc ρ (h z)
 |.may o ids u h=>∀p,o=some p→(∀z,p=.ok z→(h z).map (·.1)=ids)∧∀ρ,Inj ρ hs→ai P f (us.map (TV.to E.toEnc ρ)) (hTo E.toEnc ρ (cW hs ids)) fun out H=>match p with
  |.ok z=>out=.ret ((u z).to E.toEnc ρ)∧H=hTo E.toEnc ρ (h z)
  |.pan v=>out=.pan v
 |.mv o ids mvs _ u h=>∀p,o=some p→∀ρ,Inj ρ hs→ai P f (us.map (TV.to E.toEnc ρ)) (hTo E.toEnc ρ (cW hs ids)) fun out H=>match p with
  |.ok z=>∃ρ':Rn,(∀i∈ids,i ∉ mvs→ρ'.k i=ρ.k i)∧out=.ret ((u z).to E.toEnc ρ')∧H=hTo E.toEnc ρ' (h z)∧Inj ρ' (h z)
  |.pan v=>out=.pan v
def XOk(P:Program)(E:Env)(f:FuncId)(hd:List (TV E.T)→List (Nat × TB E.T)→XR E.T):Prop:=∀us hs,(hd us hs).ok P f us hs
structure GOk (P:Program) (Y:Tys P) (E:Env) (G:Gam E):Prop where
 f:∀p∈G.f,∀us,(p.2 us).ok fun u=>∀ρ,ai P p.1 (us.map (TV.to E.toEnc ρ)) [] (fun out H=>out=.ret (u.to E.toEnc ρ)∧H=[])
 q:∀p∈G.q,EqOk P Y p.1 p.2
 x:∀p∈G.x,XOk P E p.1 p.2
theorem GOk.nil{P:Program}{Y:Tys P}{E:Env}{q:List (Nat × List Ty)}{mu:List Nat}(hq:∀p∈q,EqOk P Y p.1 p.2):GOk P Y E ⟨[],q,[],mu⟩:=⟨(fun p hp=>by cases hp),hq,(fun p hp=>by cases hp)⟩
theorem GOk.cons{P:Program}{Y:Tys P}{E:Env}{G:List ((_:Nat) × (List (TV E.T)→PV E.T))}{q:List (Nat × List Ty)}{x:List ((_:Nat) × (List (TV E.T)→List (Nat × TB E.T)→XR E.T))}{f:Nat}{h:List (TV E.T)→PV E.T}(hf:∀us,(h us).ok fun u=>∀ρ,ai P f (us.map (TV.to E.toEnc ρ)) [] (fun out H=>out=.ret (u.to E.toEnc ρ)∧H=[])){mu:List Nat}(hG:GOk P Y E ⟨G,q,x,mu⟩):GOk P Y E ⟨⟨f,h⟩::G,q,x,mu⟩:=⟨fun p hp=>by
 rcases List.mem_cons.1 hp with rfl|hp
 ·exact hf
 ·exact hG.f p hp,hG.q,hG.x⟩
theorem GOk.consx{P:Program}{Y:Tys P}{E:Env}{G:List ((_:Nat) × (List (TV E.T)→PV E.T))}{q:List (Nat × List Ty)}{x:List ((_:Nat) × (List (TV E.T)→List (Nat × TB E.T)→XR E.T))}{f:Nat}{h:List (TV E.T)→List (Nat × TB E.T)→XR E.T}(hf:XOk P E f h){mu:List Nat}(hG:GOk P Y E ⟨G,q,x,mu⟩):GOk P Y E ⟨G,q,⟨f,h⟩::x,mu⟩:=⟨hG.f,hG.q,fun p hp=>by
 rcases List.mem_cons.1 hp with rfl|hp
 ·exact hf
 ·exact hG.x p hp⟩
theorem rc{P:Program}{E:Env}:∀ {l:List ((_:Nat) × (List (TV E.T)→List (Nat × TB E.T)→XR E.T))},(∀p∈l,XOk P E p.1 p.2)→∀f us hs,(BV l f us hs).ok P f us hs
 | [],_,_,_,_=>trivial
 | ⟨k,h⟩::r,hl,f,us,hs=>by
   simp only[BV]
   have ih:=rc (fun p hp=>hl p (List.mem_cons_of_mem _ hp)) f us hs
   split
   ·rename_i e
    have e':=Nat.eq_of_beq_eq_true e
    subst e'
    have h1:=hl _ List.mem_cons_self us hs
    split
    ·exact ih
    ·exact h1
   ·exact ih
section
variable {P:Program} {Y:Tys P} {E:Env} {G:Gam E} {ρ:Rn} {σ:TS E.T} {d:Option Tmp} {t t2 yt ty e:TypeId} {x y z:Operand} {pos:String} {af:Array Edge} {g:Option (Nat × Bool)}
theorem lR(hi:Inj ρ σ.h){k:Nat}{cs:List (TA E.T)}(h:look σ.h k=some (.cs cs)):look (σ.to E.toEnc ρ).h (ρ k)=some (cs.map (TA.to E.toEnc ρ)):=dc E.toEnc hi h rfl
theorem FJ(hi:Inj ρ σ.h){k o:Nat}{cs:List (TA E.T)}{c:TA E.T}{dsc:TypeDesc}(hx:opT σ x=some (.a (.box k o)))(h0:look Y.ty t=some dsc)(h1:lf dsc=true)(hb:look σ.h k=some (.cs cs))(hc:cs[o]? =some c):
  OpV P ⟨d,.load t x,ty,pos,af,g⟩ (σ.to E.toEnc ρ) ((TV.a c.rd).to E.toEnc ρ):=by
 have hx':=ax (ρ:=ρ) hx
 simp only[TV.to,TA.rd_to]
 exact kW (T:=Y) hx' (lR hi hb) (by simp[hc]) h0 h1 (TA.to_notMp _ _ _)
theorem G3{σ:AS}{o:Oper}{f:FuncId}(h:OpV P o σ (.v (.func (.func f) #[] #[]))):OpV P o σ (.fn f []):=fun F X a hs=>(h F X a hs).mono fun x w' ⟨X',h1,h2,h3,h4,h5⟩=>by
 have:=bF h4
 subst this
 exact⟨X',h1,h2,h3,.fn f [] #[] rfl (fun i u x hu hx=>by simp at hu),FreshOk.plain rfl⟩
theorem IG{P:Program}{T:Tys P}{σ:AS}{d:Option Tmp}{t ty:TypeId}{x:Operand}{pos:String}{af:Array Edge}{g:Option (Nat × Bool)}{fs:Array Field}{f:Field}{i:Nat}{cs:List AV}{dsc:TypeDesc}{c:AV}(hx:opV σ x=some (.ag cs))(h0:look T.ty t=some (.struct fs))(hf:fs[i]? =some f)(h1:look T.ty f.type=some dsc)(ho:lf dsc=true)(hc:cs[f.offset]? =some c):OpV P ⟨d,.field t x i,ty,pos,af,g⟩ σ c.rd:=by
 refine aG (ef c) fun F X ac hs=> ?_
 have e1:=co hs (by simp[Op.operands]) hx
 have hu:=T.tyOk _ _ h0
 have hu1:=T.tyOk _ _ h1
 generalize hv:ac.eval x=v at e1
 cases e1 with
 |ag _ xs hl hr=>
  have hlt:f.offset < xs.size:=by rw[← hl];exact(List.getElem?_eq_some_iff.1 hc).1
  have hxs:xs[f.offset]? =some xs[f.offset] :=Array.getElem?_eq_getElem hlt
  refine⟨xs[f.offset],?_,(hr _ _ _ hc hxs).rd⟩
  simp only[execOp,hv]
  refine aW ?_
  simp[Instr.field,run_underlying hu,hf,asAgg,u5 hu1 ho hxs]
theorem kv{E:Enc}{t:Ty}{v:Value}{z:Den E.T t}(h:rZ t v=some z):cst v=one E t z∧(cst v).isSl=false:=by
 unfold rZ at h
 split at h
 ·rename_i k k' n
  split at h
  ·rename_i hk
   have:=of_decide_eq_true hk
   subst this
   cases h
   exact⟨rfl,rfl⟩
  ·cases h
 ·cases h;exact⟨rfl,rfl⟩
 ·rename_i s
  cases h
  refine⟨?_,rfl⟩
  show AV.v (.string s)=AV.v (.string (mkB s.data.toList))
  rw[show s.data.toList=fY s from rfl,Ds]
 ·cases h
theorem PQ(hi:Inj ρ σ.h)(hG:GOk P Y E G)(op:Op):(S6 Y E G σ op ty).ok fun u=>OpV P ⟨d,op,ty,pos,af,g⟩ (σ.to E.toEnc ρ) (u.to E.toEnc ρ):=by
 unfold S6
 split
 ·rename_i f
  exact G3 (i6 (u:=.v (.func (.func f) #[] #[])) rfl (.inl rfl))
 ·rename_i f
  exact G3 (i6 (u:=.v (.func (.func f) #[] #[])) rfl (.inr rfl))
 ·split
  ·rename_i u hu
   refine KT (u:=(u.to E.toEnc ρ).rd) (i6 (ax hu) (.inl rfl)) ?_
   rw[← TV.rd_to];exact uO _ _
  ·trivial
 ·split
  ·rename_i u hu
   refine KT (u:=(u.to E.toEnc ρ).rd) (i6 (ax hu) (.inr rfl)) ?_
   rw[← TV.rd_to];exact uO _ _
  ·trivial
 ·rename_i op t x y yt
  split
  ·rename_i a b hx hy
   unfold Wg
   split
   ·rename_i ts hts
    have hq:=hG.q _ (cI hts)
    split
    ·rename_i r hr;exact(HB hq (ax (ρ:=ρ) hx) (ax (ρ:=ρ) hy) hr).2
    ·rename_i r hr;exact(HB hq (ax (ρ:=ρ) hx) (ax (ρ:=ρ) hy) hr).1
    ·trivial
   ·trivial
  ·exact Nq
 ·split
  ·rename_i b hb;exact rt (ax hb) rfl
  ·rename_i hb;exact rt (b:=true) (ax hb) rfl
  ·rename_i hb;exact rt (b:=false) (ax hb) rfl
  ·trivial
 ·split
  ·rename_i k n hn
   simp only[PV.ok,m0]
   exact w6 (dg hn) rfl
  ·trivial
 ·split
  ·rename_i k n hn
   simp only[PV.ok]
   rw[tl _ _ (fun h=>by subst h;exact HZ _ (.inr (.inr rfl)) _ _)]
   exact KN (dg hn) rfl
  ·trivial
 ·exact IW
 ·split
  ·rename_i us hu
   split
   ·rename_i u hq
    simp only[PV.ok,TV.to,TA.rd_to]
    exact qV (ax (ρ:=ρ) hu) (u:=u.to E.toEnc ρ) (by simp only[List.getElem?_map,hq];rfl)
   ·rename_i l hq
    exact qV (ax (ρ:=ρ) hu) (u:=.ag (l.map (TA.to E.toEnc ρ))) (by simp only[List.getElem?_map,hq];rfl)
   ·trivial
  ·trivial
 ·split
  ·rename_i s k i h0 hs hk
   intro b hb
   obtain⟨h1,h2,h3⟩:=Av hb
   have:=rW (P:=P) (T:=Y) (d:=d) (ty:=ty) (pos:=pos) (af:=af) (g:=g) (nZ (ρ:=ρ) hs) (dg hk) h0 h1 h2
   have e:(fY (mkB s)).getD i.toNat 0=b:=by rw[jB,List.getD_eq_getElem?_getD,h3];rfl
   rw[e] at this
   exact this
  ·trivial
 ·split
  ·rename_i h0
   split
   ·rename_i s hs
    split
    ·rename_i i j hl hh
     intro r hr
     obtain⟨h1,h2,h3,rfl⟩:=Ay hr
     exact dR (T:=Y) (k1:=.i64) (k2:=.i64) (nZ hs) h0 (mn hl) (mn hh) h1 h2 h3
    ·trivial
   ·trivial
  ·rename_i e h0
   split
   ·rename_i ty' l hs
    split
    ·rename_i sz by_ i j hsz hl hh
     split
     ·rename_i hb
      intro r hr
      obtain⟨h1,h2,h3,rfl⟩:=Ay hr
      obtain⟨o,ho⟩:=qh (ρ:=ρ) hs
      have hsz':=kT hb
      subst hsz'
      have:=tK (P:=P) (T:=Y) (k1:=.i64) (k2:=.i64) (d:=d) (ty:=ty) (pos:=pos) (af:=af) (g:=g) ho h0 hsz (mn hl) (by have:=mn (ρ:=ρ) hh;simpa using this) h1 h2 (by simpa using h3)
      rw[← List.map_take,← List.map_drop] at this
      exact this
     ·trivial
    ·trivial
   ·trivial
  ·trivial
 ·split
  ·rename_i e h0
   split
   ·rename_i ty' l hs
    split
    ·rename_i sz by_ i k2 j k3 m hsz hl hh hm
     split
     ·rename_i hb
      intro r hr
      obtain⟨h1,h2,h3,h4,rfl⟩:=F8 hr
      obtain⟨o,ho⟩:=qh (ρ:=ρ) hs
      have hsz':=kT hb
      subst hsz'
      have:=FR (P:=P) (T:=Y) (k1:=.i64) (d:=d) (ty:=ty) (pos:=pos) (af:=af) (g:=g) ho h0 hsz (mn hl) (dg hh) (dg hm) h1 h2 h3 (by simpa using h4)
      rw[← List.map_take,← List.map_drop] at this
      exact this
     ·trivial
    ·trivial
   ·trivial
  ·trivial
 ·split
  ·rename_i e ty' l k i h0 hs hk
   split
   ·rename_i sz by_ hsz
    split
    ·rename_i hb
     intro z hz
     obtain⟨h1,h2,h3⟩:=Av hz
     obtain⟨o,ho⟩:=qh (ρ:=ρ) hs
     have hsz':=kT hb
     subst hsz'
     have:=iw (P:=P) (T:=Y) (d:=d) (ty:=ty) (pos:=pos) (af:=af) (g:=g) ho (dg hk) h0 hsz h1 (by simpa using h2)
     have e:(l.map (cells E.toEnc ty')).getD i.toNat [] =(ga E ty' z).map (TA.to E.toEnc ρ):=by
      rw[tF,List.getD_eq_getElem?_getD,List.getElem?_map,h3];rfl
     simp only[e] at this
     exact this
    ·trivial
   ·trivial
  ·trivial
 ·split
  ·rename_i fs h0
   split
   ·rename_i f hf
    split
    ·rename_i fsz hz
     split
     ·rename_i hp
      split
      ·rename_i cs hx
       split
       ·rename_i hl
        have:=kG (P:=P) (T:=Y) (d:=d) (ty:=ty) (pos:=pos) (af:=af) (g:=g) (cs:=cs.map (TA.to E.toEnc ρ)) (ax (ρ:=ρ) hx) h0 hf hz hp (by simpa using hl)
        rw[← List.map_drop] at this
        exact this
       ·trivial
      ·rename_i k o hx
       exact iE (T:=Y) (ax hx) h0 hf hz hp
      ·trivial
     ·trivial
    ·trivial
   ·trivial
  ·trivial
 ·split
  ·rename_i cs fs hx h0
   split
   ·rename_i n by_ hz
    split
    ·rename_i hl
     have:=px (P:=P) (T:=Y) (d:=d) (ty:=ty) (pos:=pos) (af:=af) (g:=g) (cs:=cs.map (TA.to E.toEnc ρ)) (ax (ρ:=ρ) hx) h0 hz (by simpa using hl)
     rw[← List.map_take] at this
     exact this
    ·trivial
   ·trivial
  ·rename_i c cs dsc hn hx h0
   split
   ·rename_i h1
    have:=qk (P:=P) (T:=Y) (d:=d) (ty:=ty) (pos:=pos) (af:=af) (g:=g) (ax (ρ:=ρ) hx) h0 h1
    simp only[PV.ok,TV.to,TA.rd_to]
    exact this
   ·trivial
  ·rename_i k o fs hx h0
   split
   ·rename_i cs n by_ hb hz
    split
    ·rename_i hl
     have:=sd (P:=P) (T:=Y) (dd:=d) (ty:=ty) (pos:=pos) (af:=af) (g:=g) (ax (ρ:=ρ) hx) (lR hi hb) h0 hz (by simpa using hl) (sB cs)
     have e:List.map AV.rd (((cs.map (TA.to E.toEnc ρ)).drop o).take n)=(((cs.drop o).take n).map TA.rd).map (TA.to E.toEnc ρ):=by
      rw[← List.map_drop,← List.map_take,List.map_map,List.map_map]
      apply List.map_congr_left
      intro c _
      exact(TA.rd_to _ _ c).symm
     rw[e] at this
     exact this
    ·trivial
   ·trivial
  ·rename_i k o dsc hn hx h0
   split
   ·rename_i cs h1 hb
    split
    ·rename_i c hc
     exact FJ hi hx h0 h1 hb hc
    ·trivial
   ·trivial
  ·trivial
 ·split
  ·rename_i fs zv h0 hz
   split
   ·rename_i pl us hp hx
    split
    ·rename_i cs hb
     have hb':=Bl (Y:=Y) (ρ:=ρ) hb
     have e:(zv.cells.toList.map atomT).map (TA.to E.toEnc ρ)=zv.cells.toList.map AV.v:=by
      rw[List.map_map];apply List.map_congr_left;intro c _;exact tU _ _ c
     rw[e] at hb'
     have:=oK (P:=P) (T:=Y) (d:=d) (ty:=ty) (pos:=pos) (af:=af) (g:=g) h0 hz hp (jI hx) hb'
     refine IM this ?_
     have:=lA (ρ:=ρ) cs
     simp only[TV.to,List.map_map];exact this
    ·trivial
   ·trivial
  ·trivial
 ·split
  ·rename_i e ty' h0 het
   split
   ·rename_i sz by_ us hz hx
    split
    ·rename_i xs hp
     split
     ·rename_i hc
      simp only[Bool.and_eq_true] at hc
      have hsz:=kT hc.1.1.1
      subst hsz
      obtain⟨m1,m2⟩:=sK (ρ:=ρ) hp
      exact EB (cP (T:=Y) h0 hz hc.1.1.2 hc.1.2 (jI hx) m2 hc.2) m1
     ·trivial
    ·trivial
   ·trivial
  ·trivial
 ·split
  ·rename_i k o hx;exact Hx (ax hx)
  ·rename_i cs hx;exact po (ax hx)
  ·trivial
 ·rename_i f first caps
  split
  ·rename_i hf
   split
   ·rename_i us hx
    split
    ·rename_i xs hxs
     have:first= #[] :=Array.eq_empty_of_size_eq_zero (by have:=congrArg List.length hf;simpa using this)
     subst this
     have hx':=jI (ρ:=ρ) hx
     rw[DF hxs] at hx'
     exact zp hx'
    ·trivial
   ·trivial
  ·trivial
 ·rename_i xs ats
  split
  ·rename_i x t hxs ha
   have hxs':xs= #[x] :=by cases xs;simp at hxs;subst hxs;rfl
   subst hxs'
   split
   ·rename_i h0
    split
    ·rename_i s hs;exact nL (T:=Y) (nZ hs) ha h0
    ·trivial
   ·rename_i e h0
    split
    ·rename_i ty' l hs
     obtain⟨o,ho⟩:=qh (ρ:=ρ) hs
     have:=pw (P:=P) (T:=Y) (d:=d) (ty:=ty) (pos:=pos) (af:=af) (g:=g) ho ha h0
     simp only[List.length_map] at this
     exact this
    ·trivial
   ·trivial
  ·trivial
 ·rename_i xs ats
  split
  ·rename_i x y hxs
   have hxs':xs= #[x,y] :=by cases xs;simp at hxs;subst hxs;rfl
   subst hxs'
   split
   ·rename_i a b ha hb;exact P9 (dg ha) (dg hb)
   ·trivial
  ·trivial
 ·rename_i xs ats
  split
  ·rename_i x y hxs
   have hxs':xs= #[x,y] :=by cases xs;simp at hxs;subst hxs;rfl
   subst hxs'
   split
   ·rename_i a b ha hb;exact PX (dg ha) (dg hb)
   ·trivial
  ·rename_i x y z hxs
   have hxs':xs= #[x,y,z] :=by cases xs;simp at hxs;subst hxs;rfl
   subst hxs'
   split
   ·rename_i a b c ha hb hc;exact L9 (dg ha) (dg hb) (dg hc)
   ·trivial
  ·trivial
 ·rename_i f xs ats
  split
  ·rename_i h us hf hx
   refine(hG.f _ (uX hf) (eT E ats.toList us)).mono fun u hu=> ?_
   exact DQ (hu ρ) (jI hx) (i7 _ _ (g8 _ _)) (fV _ _)
  ·trivial
 ·rename_i s xs ats
  split
  ·rename_i f hs
   split
   ·rename_i h us hf hx
    refine(hG.f _ (uX hf) (eT E ats.toList us)).mono fun u hu=> ?_
    exact Ei (by simp only[TS.to,bD,hs];rfl) (hu ρ) (jI hx) (i7 _ _ (g8 _ _)) (fV _ _)
   ·trivial
  ·trivial
 ·rename_i t x i
  split
  ·rename_i cs fs hx h0
   split
   ·rename_i f hf
    split
    ·rename_i dsc c h1 hc
     split
     ·rename_i ho
      have h2:=IG (P:=P) (T:=Y) (d:=d) (ty:=ty) (pos:=pos) (af:=af) (g:=g) (ax (ρ:=ρ) hx) h0 hf h1 ho (c:=c.to E.toEnc ρ) (by simp[hc])
      rw[← TA.rd_to] at h2
      exact h2
     ·trivial
    ·trivial
   ·trivial
  ·trivial
 ·rename_i t x y ok
  split
  ·rename_i kt et k key h0 hx hy
   split
   ·rename_i zv ty' l hk hz hb
    have hb':look (σ.to E.toEnc ρ).h (ρ k)=some [smap (l.map fun p=>(p.1,one E.toEnc ty' p.2))] :=dc E.toEnc hi hb rfl
    split
    ·rename_i z hzm
     have h1:=Cg (P:=P) (T:=Y) (d:=d) (ty:=ty) (pos:=pos) (af:=af) (g:=g) (ax (ρ:=ρ) hx) hb' (nZ hy) h0 hk hz
     rw[yE] at h1
     refine yI h1 ?_
     cases hm:qj l key with
     |none=>
      show AV.tu [cst zv,_] =AV.tu [one E.toEnc ty' z,_]
      rw[(kv (E:=E.toEnc) hzm).1];rfl
     |some x=>
      show AV.tu [(one E.toEnc ty' x).rd,_] =AV.tu [one E.toEnc ty' x,_]
      rw[tp];rfl
    ·rename_i z hzm
     have h1:=gG (P:=P) (T:=Y) (d:=d) (ty:=ty) (pos:=pos) (af:=af) (g:=g) (ax (ρ:=ρ) hx) hb' (nZ hy) h0 hk hz (kv (E:=E.toEnc) hzm).2
     rw[yE] at h1
     refine yI h1 ?_
     cases hm:qj l key with
     |none=>exact(kv (E:=E.toEnc) hzm).1
     |some x=>exact tp _ _ _
    ·trivial
   ·trivial
  ·trivial
 ·rename_i t x
  split
  ·rename_i u dsc hx h0
   split
   ·rename_i c hc hn
    have hv:=Mi (P:=P) (T:=Y) (d:=d) (ty:=ty) (pos:=pos) (af:=af) (g:=g) (ax (ρ:=ρ) hx) h0 (by cases dsc<;> first|rfl|cases hn)
    have e:(TV.ifc t c:TV E.T).to E.toEnc ρ=.ifc t (u.to E.toEnc ρ):=by
     unfold ifT at hc
     split at hc
     ·split at hc
      ·cases hc;rfl
      ·cases hc
     ·cases hc;rfl
     ·cases hc
    show OpV P _ _ ((TV.ifc t c:TV E.T).to E.toEnc ρ)
    rw[e]
    exact hv
   ·trivial
  ·trivial
 ·trivial
theorem kh{ty:Ty}(h:ty.lone=true)(l:List (Den E.T ty)):(TB.row ty l:TB E.T).to E.toEnc ρ=l.map (one E.toEnc ty):=by
 show(l.map (cells E.toEnc ty)).flatten=_
 induction l with
 |nil=>rfl
 |cons x l ih=>rw[List.map_cons,List.flatten_cons,ih,pG E.toEnc h];rfl
theorem ub(hi:Inj ρ σ.h){k:Nat}{ty:Ty}{l:List (Den E.T ty)}(hl:ty.lone=true)(h:look σ.h k=some (.row ty l)):look (σ.to E.toEnc ρ).h (ρ k)=some (l.map (one E.toEnc ty)):=by
 have:=dc E.toEnc hi h rfl
 rw[kh hl] at this
 exact this
theorem oS(ty:Ty)(z:Den E.T ty):(one E.toEnc ty z).isMp=false:=TA.to_notMp E.toEnc Rn.zero (.d ty z)
theorem qB{e:TypeId}(h:sz1 Y e=true):∃by_,look Y.sz e=some (1,by_):=by
 unfold sz1 at h
 split at h
 ·rename_i b hb;exact⟨b,hb⟩
 ·cases h
theorem pa{n:Nat}{i:Int}{j:Nat}(h:gN n i=some j):0≤i∧i < n∧(j:Int)=i∧j < n:=by
 unfold gN at h
 split at h
 ·rename_i hc;cases h;omega
 ·cases h
theorem uF{c:Nat}{i j:Int}{p:Nat × Nat}(h:FE c i j=some p):i=(p.1:Int)∧j=(p.2:Int)∧p.1≤p.2∧p.2≤c:=by
 unfold FE at h
 split at h
 ·rename_i hc;cases h;simp only;omega
 ·cases h
theorem zQ{σ:AS}{dd:Option Tmp}{k o n:Nat}{i:Int}{ki:IntKind}{by_:Nat}(hx:opV σ x=some (.v (.pointer (some ⟨k,o,none⟩))))(hy:opV σ y=some (.v (.int ki i)))(ht:look Y.ty t=some (.array n e))(hz:look Y.sz e=some (1,by_))(h0:0≤i)(h1:i < n):
  OpV P ⟨dd,.indexAddr t x y,ty,pos,af,g⟩ σ (.v (.pointer (some ⟨k,o+i.toNat,none⟩))):=by
 refine aG rfl fun F X a hs=> ?_
 obtain⟨it,hi1,hi2,hi3,_⟩:=Y.szOk _ _ _ hz
 have e1:=aL hs (by simp[Op.operands]) hx
 have e2:=aL hs (by simp[Op.operands]) hy
 refine⟨_,?_,.v _⟩
 simp only[execOp,e1,e2]
 have hu:=Y.tyOk _ _ ht
 refine aW ?_
 simp[Instr.indexAt,asIntOf,run_underlying hu,sizeOf,typeInfo,hi1,hi2,h0,h1,en,Instr.sureAddr]
theorem zH{σ:AS}{dd:Option Tmp}{lo hi:Option Operand}{k o n c:Nat}{i j:Nat}{by_:Nat}(hx:opV σ x=some (.v (.slice (some ⟨k,o,none⟩) n c)))(ht:look Y.ty t=some (.slice e))(hz:look Y.sz e=some (1,by_))(hl:m8 σ lo .i64 (i:Int) 0)(hh:m8 σ hi .i64 (j:Int) (n:Int))(h1:i≤j)(h2:j≤c):
  OpV P ⟨dd,.slice t x lo hi none,ty,pos,af,g⟩ σ (.v (.slice (some ⟨k,offN o c i,none⟩) (j - i) (c - i))):=by
 refine aG rfl fun F X a hs=> ?_
 obtain⟨it,hi1,hi2,hi3,_⟩:=Y.szOk _ _ _ hz
 have e1:=aL hs (by simp[Op.operands]) hx
 have hlo:=jd (q:=lo) hs (fun p hp=>by subst hp;simp[Op.operands]) hl
 have hhi:=jd (q:=hi) hs (fun p hp=>by subst hp;simp[Op.operands]) hh
 refine⟨_,?_,.v _⟩
 have hu:=Y.tyOk _ _ ht
 have hb:=jO (P:=P) (isS:=true) (w:=X.w) hlo hhi (by omega) (by omega) (cap:=c) (by omega)
 simp only[execOp,e1]
 refine aW ?_
 simp only[Option.map_none,Instr.sliceAt,Sem.run_bind,run_underlying hu,Result.andThen_ok]
 simp only[Instr.slice,Sem.run_bind,run_underlying hu,Result.andThen_ok,hb]
 by_cases hci:c=i
 ·simp[sizeOf,typeInfo,hi1,hi2,offN,hci]
 ·simp[sizeOf,typeInfo,hi1,hi2,offN,hci,en]
theorem zK{σ:AS}{dd:Option Tmp}{lo hi:Option Operand}{k o n:Nat}{i j:Nat}{by_:Nat}(hx:opV σ x=some (.v (.pointer (some ⟨k,o,none⟩))))(ht:look Y.ty t=some (.array n e))(hz:look Y.sz e=some (1,by_))(hl:m8 σ lo .i64 (i:Int) 0)(hh:m8 σ hi .i64 (j:Int) (n:Int))(h1:i≤j)(h2:j≤n):
  OpV P ⟨dd,.slice t x lo hi none,ty,pos,af,g⟩ σ (.v (.slice (some ⟨k,offN o n i,none⟩) (j - i) (n - i))):=by
 refine aG rfl fun F X a hs=> ?_
 obtain⟨it,hi1,hi2,hi3,_⟩:=Y.szOk _ _ _ hz
 have e1:=aL hs (by simp[Op.operands]) hx
 have hlo:=jd (q:=lo) hs (fun p hp=>by subst hp;simp[Op.operands]) hl
 have hhi:=jd (q:=hi) hs (fun p hp=>by subst hp;simp[Op.operands]) hh
 refine⟨_,?_,.v _⟩
 have hu:=Y.tyOk _ _ ht
 have hb:=jO (P:=P) (isS:=false) (w:=X.w) hlo hhi (by omega) (by omega) (cap:=n) (by omega)
 simp only[execOp,e1]
 refine aW ?_
 simp only[Option.map_none,Instr.sliceAt,Sem.run_bind,run_underlying hu,Result.andThen_ok,Instr.sureAddr,Sem.run_pure,hb]
 by_cases hci:n=i
 ·simp[sizeOf,typeInfo,hi1,hi2,offN,hci]
 ·simp[sizeOf,typeInfo,hi1,hi2,offN,hci,en]
theorem xI{σ:AS}{dd:Option Tmp}{op:BinOp}(hx:opV σ x=some (.v (.slice none 0 0)))(hy:opV σ y=some (.v (.slice none 0 0)))(ht:look Y.ty t=some (.slice e))(neg:Bool)(hop:(op=.eql∧neg=false)∨(op=.neq∧neg=true)):OpV P ⟨dd,.binOp op t x y yt,ty,pos,af,g⟩ σ (.v (.bool (true != neg))):=by
 refine aG rfl fun F X a hs=>⟨_,?_,.v _⟩
 have e1:=aL hs (by simp[Op.operands]) hx
 have h2:=aL hs (by simp[Op.operands]) hy
 have ht:=Y.tyOk _ _ ht
 simp only[execOp,e1,h2]
 refine aW ?_
 have q:=Lib.run_eql_slice_nil X.w t e none 0 0 0 0 ht
 rcases hop with ⟨rfl,rfl⟩| ⟨rfl,rfl⟩
 ·simp[eqGuard,q,go_sem]
 ·have q':(Op.equal t (.slice none 0 0) (.slice none 0 0)).run P X.w=.ok true X.w:=by
   simp[Op.equal,Op.maxDepth,Lib.run_equalIn_slice_nil X.w 9999 t e none 0 0 0 0 ht]
  simp[eqGuard,binOp,go_sem,q']
theorem O1(hi:Inj ρ σ.h)(op:Op):(ST Y E σ op).ok fun u=>OpV P ⟨d,op,ty,pos,af,g⟩ (σ.to E.toEnc ρ) (u.to E.toEnc ρ):=by
 unfold ST
 split
 ·split
  ·rename_i k off n c ki i e hx hy ht
   split
   ·rename_i hs
    obtain⟨by_,hz⟩:=qB hs
    intro j hj
    obtain⟨h1,h2,h3,h4⟩:=pa hj
    have:=n9 (P:=P) (T:=Y) (dd:=d) (ty:=ty) (pos:=pos) (af:=af) (g:=g) (i:=j) (ax (ρ:=ρ) hx) (by rw[h3];exact dg hy) ht hz h4
    rw[Nat.mul_one] at this
    exact this
   ·trivial
  ·rename_i k off ki i n e hx hy ht
   split
   ·rename_i hs
    obtain⟨by_,hz⟩:=qB hs
    intro j hj
    obtain⟨h1,h2,h3,h4⟩:=pa hj
    have:=zQ (P:=P) (Y:=Y) (dd:=d) (ty:=ty) (pos:=pos) (af:=af) (g:=g) (ax (ρ:=ρ) hx) (dg hy) ht hz h1 h2
    rw[show i.toNat=j by omega] at this
    exact this
   ·trivial
  ·trivial
 ·split
  ·rename_i k o dsc hx ht
   split
   ·rename_i ty' l h1 hb
    split
    ·rename_i hl
     intro z hz
     have:=kW (P:=P) (T:=Y) (d:=d) (ty:=ty) (pos:=pos) (af:=af) (g:=g) (ax (ρ:=ρ) hx) (ub hi hl hb) (u:=one E.toEnc ty' z) (by simp[hz]) ht h1 (oS ty' z)
     rw[tp] at this
     exact this
    ·trivial
   ·trivial
  ·trivial
 ·split
  ·rename_i k off n c e hx ht
   split
   ·rename_i i j hs hl hh
    obtain⟨by_,hz⟩:=qB hs
    intro p hp
    obtain⟨h1,h2,h3,h4⟩:=uF hp
    subst h1 h2
    exact zH (P:=P) (Y:=Y) (ax (ρ:=ρ) hx) ht hz (mn hl) (mn hh) h3 h4
   ·trivial
  ·rename_i k off n e hx ht
   split
   ·rename_i i j hs hl hh
    obtain⟨by_,hz⟩:=qB hs
    intro p hp
    obtain⟨h1,h2,h3,h4⟩:=uF hp
    subst h1 h2
    exact zK (P:=P) (Y:=Y) (ax (ρ:=ρ) hx) ht hz (mn hl) (mn hh) h3 h4
   ·trivial
  ·trivial
 ·split
  ·rename_i e k off n c ht ht2 hx
   split
   ·rename_i l he hb
    intro s hs
    unfold Rh at hs
    split at hs
    ·rename_i hn
     cases hs
     obtain⟨hn0,hn⟩:=hn
     subst hn0 hn
     have hb':=ub (ty:=.byte) hi rfl hb
     exact DM (P:=P) (T:=Y) (L:=l) (ax (ρ:=ρ) hx) hb' ht he ht2
    ·cases hs
   ·trivial
  ·trivial
 ·rename_i xs ats
  split
  ·rename_i x t hxs ha
   have hxs':xs= #[x] :=by cases xs;simp at hxs;subst hxs;rfl
   subst hxs'
   split
   ·rename_i e k off n c ht hx
    exact g7 (T:=Y) (ax (ρ:=ρ) hx) ha ht
   ·trivial
  ·trivial
 ·split
  ·rename_i hx hy
   split
   ·rename_i e ht;exact xI (ax (ρ:=ρ) hx) (ax (ρ:=ρ) hy) ht false (.inl ⟨rfl,rfl⟩)
   ·rename_i e ht;exact xI (ax (ρ:=ρ) hx) (ax (ρ:=ρ) hy) ht true (.inr ⟨rfl,rfl⟩)
   ·trivial
  ·trivial
 ·trivial
theorem OS(b:Bk)(sz off:Nat){n:Nat}(h:0 < n):pn b sz off n=.slice (some ⟨b.b,off * sz,none⟩) n (n+b.sp.length / sz):=by
 unfold pn
 have h1:Nat.beq (off+n) 0=false:=by
  cases hb:Nat.beq (off+n) 0 with
  |false=>rfl
  |true=>have:=Nat.eq_of_beq_eq_true hb;omega
 rw[h1,Bool.and_false,if_neg (by decide),if_neg (fun e=>by generalize b.sp.length / sz=q at e;omega)]
theorem OI(b:Bk)(sz:Nat){n:Nat}(h:0 < n):vecV b sz n=.slice (some ⟨b.b,0,none⟩) n (n+b.sp.length / sz):=by
 unfold vecV
 rw[if_neg]
 intro e
 rw[Bool.and_eq_true] at e
 have:=Nat.eq_of_beq_eq_true e.2
 omega
theorem tR{e:TypeId}{n:Nat}(h:FC Y e n=true):∃by_,look Y.sz e=some (n,by_):=by
 unfold FC at h
 split at h
 ·rename_i m b hb;rw[Nat.eq_of_beq_eq_true h] at hb;exact⟨b,hb⟩
 ·cases h
theorem i4{t:Ty}{k:Nat}{l:List (Den E.T t)}(h:pL σ.h t k=some l):look σ.h k=some (.vec k t l):=by
 unfold pL at h
 split at h
 ·rename_i k' t' l' hb
  split at h
  ·rename_i e
   obtain⟨e2,rfl⟩:=em h
   cases e2
   rw[Nat.eq_of_beq_eq_true e] at hb
   exact hb
  ·cases h
 ·cases h
theorem qm(hi:Inj ρ σ.h){t:Ty}{k:Nat}{l:List (Den E.T t)}(h:pL σ.h t k=some l)(hl:l≠[]):look (σ.to E.toEnc ρ).h (ρ k)=some ((l.map (cells E.toEnc t)).flatten++ (ρ.k k).sp.map AV.v):=
 dc E.toEnc hi (i4 h) (by cases l<;> first|exact absurd rfl hl|simp[a8])
theorem Ba{t:Ty}(sp:List AV):∀ {l:List (Den E.T t)} {j o:Nat} {z:Den E.T t},l[j]? =some z→o < csz E.toEnc t→((l.map (cells E.toEnc t)).flatten++sp)[j * csz E.toEnc t+o]? =(cells E.toEnc t z)[o]?
 | [],_,_,_,h,_=>by simp at h
 |a::l,0,o,z,h,ho=>by
  simp only[List.getElem?_cons_zero,Option.some.injEq] at h
  subst h
  rw[List.map_cons,List.flatten_cons,Nat.zero_mul,Nat.zero_add,List.append_assoc,List.getElem?_append_left (by rw[eK];exact ho)]
 |a::l,j+1,o,z,h,ho=>by
  rw[List.map_cons,List.flatten_cons,List.append_assoc,List.getElem?_append_right (by rw[eK,Nat.add_mul];omega),eK,← Ba (l:=l) (j:=j) sp (by simpa using h) ho]
  congr 1
  rw[Nat.add_mul];omega
theorem vJ{t:Ty}(sp:List AV):∀ {l:List (Den E.T t)} {j:Nat} {z:Den E.T t},l[j]? =some z→(((l.map (cells E.toEnc t)).flatten++sp).drop (j * csz E.toEnc t)).take (csz E.toEnc t)=cells E.toEnc t z∧j * csz E.toEnc t+csz E.toEnc t≤((l.map (cells E.toEnc t)).flatten++sp).length
 | [],_,_,h=>by simp at h
 |a::l,0,z,h=>by
  simp only[List.getElem?_cons_zero,Option.some.injEq] at h
  subst h
  rw[List.map_cons,List.flatten_cons,Nat.zero_mul,List.drop_zero,List.append_assoc]
  have:=eK E.toEnc t a
  refine⟨?_,by rw[List.length_append];omega⟩
  rw[← this,List.take_left]
 |a::l,j+1,z,h=>by
  obtain⟨h1,h2⟩:=vJ (l:=l) (j:=j) (z:=z) sp (by simpa using h)
  rw[List.map_cons,List.flatten_cons,List.append_assoc]
  have:=eK E.toEnc t a
  refine⟨?_,by rw[List.length_append,Nat.add_mul];omega⟩
  rw[Nat.add_mul,Nat.one_mul,Nat.add_comm,← List.drop_drop,← this,List.drop_left,this,h1]
theorem kj{t:Ty}{sp:List Value}{l:List (Den E.T t)}:∀u∈((l.map (cells E.toEnc t)).flatten++sp.map AV.v),u.isMp=false:=fun u hu=>by
 rcases List.mem_append.1 hu with hu|hu
 ·obtain⟨r,hr,hu⟩:=List.mem_flatten.1 hu
  obtain⟨z,_,rfl⟩:=List.mem_map.1 hr
  have h1:=(jU E.toEnc t z u hu).1
  cases u<;> first|rfl|cases h1
 ·obtain⟨v,_,rfl⟩:=List.mem_map.1 hu;rfl
theorem NS(t:Ty)(z:Den E.T t):(ga E t z).length=csz E.toEnc t:=by
 have:=congrArg List.length (tF E Rn.zero t z)
 rw[List.length_map,eK] at this
 exact this
theorem Mn{t:Ty}{z:Den E.T t}{o:Nat}(h:o < csz E.toEnc t)(d:TA E.T):(cells E.toEnc t z)[o]? =some (((ga E t z).getD o d).to E.toEnc ρ):=by
 have hl:=NS t z
 rw[← tF E ρ,List.getElem?_map,List.getD_eq_getElem?_getD,List.getElem?_eq_getElem (by omega)]
 rfl
theorem sk{σ:AS}{dd:Option Tmp}{lo:Operand}{a:Option Addr}{n c i sz by_:Nat}(hx:opV σ x=some (.v (.slice a n c)))(ht:look Y.ty t=some (.slice e))(hz:look Y.sz e=some (sz,by_))(hl:opV σ lo=some (.v (.int .i64 (i:Int))))(h1:i≤n)(h2:n≤c):
  OpV P ⟨dd,.slice t x (some lo) none none,ty,pos,af,g⟩ σ (.v (.slice (if c=i then a else a.map (·.add (i * sz))) (n - i) (c - i))):=by
 refine aG rfl fun F X ac hs=> ?_
 obtain⟨it,hi1,hi2,hi3,_⟩:=Y.szOk _ _ _ hz
 have e1:=aL hs (by simp[Op.operands]) hx
 have hlo:=jd (q:=some lo) (i:=(i:Int)) (z:=0) hs (fun p hp=>by cases hp;simp[Op.operands]) hl
 refine⟨_,?_,.v _⟩
 have hu:=Y.tyOk _ _ ht
 have hb:=jO (P:=P) (isS:=true) (w:=X.w) (hi:=none) (j:=(n:Int)) hlo rfl (by omega) (by omega) (cap:=c) (by omega)
 simp only[execOp,e1]
 refine aW ?_
 simp only[Option.map_none,Option.map_some,Instr.sliceAt,Sem.run_bind,run_underlying hu,Result.andThen_ok] at hb ⊢
 simp only[Instr.slice,Sem.run_bind,run_underlying hu,Result.andThen_ok,hb]
 simp[sizeOf,typeInfo,hi1,hi2]
theorem tW{σ:AS}{dd:Option Tmp}{hi:Operand}{a:Option Addr}{n c j sz by_:Nat}(hx:opV σ x=some (.v (.slice a n c)))(ht:look Y.ty t=some (.slice e))(hz:look Y.sz e=some (sz,by_))(hl:opV σ hi=some (.v (.int .i64 (j:Int))))(h1:j≤c):
  OpV P ⟨dd,.slice t x none (some hi) none,ty,pos,af,g⟩ σ (.v (.slice (if c=0 then a else a.map (·.add (0 * sz))) (j - 0) (c - 0))):=by
 refine aG rfl fun F X ac hs=> ?_
 obtain⟨it,hi1,hi2,hi3,_⟩:=Y.szOk _ _ _ hz
 have e1:=aL hs (by simp[Op.operands]) hx
 have hhi:=jd (q:=some hi) (i:=(j:Int)) (z:=(n:Int)) hs (fun p hp=>by cases hp;simp[Op.operands]) hl
 refine⟨_,?_,.v _⟩
 have hu:=Y.tyOk _ _ ht
 have hb:=jO (P:=P) (isS:=true) (w:=X.w) (lo:=none) (i:=0) (len:=n) rfl hhi (by omega) (by omega) (cap:=c) (by omega)
 simp only[execOp,e1]
 refine aW ?_
 simp only[Option.map_none,Option.map_some,Instr.sliceAt,Sem.run_bind,run_underlying hu,Result.andThen_ok] at hb ⊢
 simp only[Instr.slice,Sem.run_bind,run_underlying hu,Result.andThen_ok,hb]
 simp[sizeOf,typeInfo,hi1,hi2]
theorem Cu{σ:AS}{dd:Option Tmp}{n:Nat}{i:Int}{ki:IntKind}{by_:Nat}{cs:List AV}{c:AV}(hx:opV σ x=some (.el cs))(hy:opV σ y=some (.v (.int ki i)))(ht:look Y.ty t=some (.array n e))(hz:look Y.sz e=some (1,by_))(h0:0≤i)(h1:i < n)(hc:cs[i.toNat]? =some c):
  OpV P ⟨dd,.indexAddr t x y,ty,pos,af,g⟩ σ (.el [c]):=by
 refine aG rfl fun F X a hs=> ?_
 obtain⟨it,hi1,hi2,hi3,_⟩:=Y.szOk _ _ _ hz
 have e1:=co hs (by simp[Op.operands]) hx
 have e2:=aL hs (by simp[Op.operands]) hy
 simp only[execOp,e2]
 generalize a.eval x=v at e1
 cases e1 with
 |el _ b off n' c' hg hn hm hr=>
  have hlt:i.toNat < cs.length:=by
   rcases Nat.lt_or_ge i.toNat cs.length with h|h
   ·exact h
   ·rw[List.getElem?_eq_none h] at hc;cases hc
  have hu:=Y.tyOk _ _ ht
  refine⟨.pointer (some ⟨b,off+i.toNat,none⟩),?_,.el [c] b (off+i.toNat) n' (fun j=>c' (i.toNat+j)) hg (by simp;omega) (fun j u hj=> ?_) (fun j u hj=> ?_)⟩
  ·refine aW ?_
   simp[Instr.indexAt,asIntOf,run_underlying hu,sizeOf,typeInfo,hi1,hi2,h0,h1,en,Instr.sureAddr]
  ·cases j with
   |zero=>
    simp at hj;subst hj
    exact hm _ c hc
   |succ j=>simp at hj
  ·cases j with
   |zero=>
    simp at hj;subst hj
    exact hr _ c hc
   |succ j=>simp at hj
theorem Jk{n:Nat}{p:Option (List Bool)}{i:Int}{b:Bool}(h:BK n p i=some b):∃l,p=some l∧0≤i∧i < n∧b=l.getD i.toNat false:=by
 unfold BK at h
 cases p with
 |none=>cases h
 |some l=>
  simp only[Option.bind_some,Option.map_eq_some_iff] at h
  obtain⟨j,hj,rfl⟩:=h
  obtain⟨h1,h2,h3,h4⟩:=pa hj
  exact⟨l,rfl,h1,h2,by congr 1;omega⟩
theorem OY(hi:Inj ρ σ.h)(op:Op):(RZ Y E σ op).ok fun u=>OpV P ⟨d,op,ty,pos,af,g⟩ (σ.to E.toEnc ρ) (u.to E.toEnc ρ):=by
 unfold RZ
 split
 ·rename_i t x y ok
  split
  ·rename_i kt et k key h0 hx hy
   split
   ·rename_i zv ty' l hk hz hb
    have hb':look (σ.to E.toEnc ρ).h (ρ k)=some [imap (l.map fun p=>(p.1,one E.toEnc ty' p.2))] :=dc E.toEnc hi hb rfl
    split
    ·rename_i z hzm
     have h1:=CI (P:=P) (T:=Y) (d:=d) (ty:=ty) (pos:=pos) (af:=af) (g:=g) (ax (ρ:=ρ) hx) hb' (dg hy) h0 hk hz
     rw[yQ] at h1
     refine yI h1 ?_
     cases hm:wI l key with
     |none=>
      show AV.tu [cst zv,_] =AV.tu [one E.toEnc ty' z,_]
      rw[(kv (E:=E.toEnc) hzm).1];rfl
     |some x=>
      show AV.tu [(one E.toEnc ty' x).rd,_] =AV.tu [one E.toEnc ty' x,_]
      rw[tp];rfl
    ·rename_i z hzm
     have h1:=r7 (P:=P) (T:=Y) (d:=d) (ty:=ty) (pos:=pos) (af:=af) (g:=g) (ax (ρ:=ρ) hx) hb' (dg hy) h0 hk hz (kv (E:=E.toEnc) hzm).2
     rw[yQ] at h1
     refine yI h1 ?_
     cases hm:wI l key with
     |none=>exact(kv (E:=E.toEnc) hzm).1
     |some x=>exact tp _ _ _
    ·trivial
   ·trivial
  ·trivial
 ·split
  ·rename_i i p hx
   intro y hy
   subst hy
   have hx':=ax (ρ:=ρ) hx
   have h2:=po (P:=P) (d:=d) (ty:=ty) (pos:=pos) (af:=af) (g:=g) hx'
   have:(TV.el (E.unp i y):TV E.T).to E.toEnc ρ=.el (E.enc i y):=congrArg AV.el (E.unp_to i y ρ)
   rw[this]
   exact h2
  ·rename_i n p hx
   intro y hy
   subst hy
   have hx':=ax (ρ:=ρ) hx
   exact po hx'
  ·trivial
 ·split
  ·rename_i n p ki i m e hx hy ht
   split
   ·rename_i hs
    rw[Bool.and_eq_true] at hs
    obtain⟨by_,hz⟩:=qB hs.1
    have hm:=Nat.eq_of_beq_eq_true hs.2
    subst hm
    intro b hb
    obtain⟨l,rfl,h1,h2,rfl⟩:=Jk hb
    have hx':=ax (ρ:=ρ) hx
    refine Cu (cs:=cells E.toEnc (.bits m) l) hx' (dg hy) ht hz h1 h2 ?_
    show((List.range m).map fun j=>AV.v (.bool (List.getD l j false)))[i.toNat]? =_
    rw[List.getElem?_map,List.getElem?_range (by omega)]
    rfl
   ·trivial
  ·rename_i ty' k n ki i e hx hy ht
   split
   ·rename_i hs
    obtain⟨by_,hz⟩:=tR hs
    intro j hj
    obtain⟨h1,h2,h3,h4⟩:=pa hj
    have hx':=ax (ρ:=ρ) hx
    simp only[TV.to,TA.to,OI _ _ (show 0 < n by omega)] at hx'
    have:=n9 (P:=P) (T:=Y) (dd:=d) (ty:=ty) (pos:=pos) (af:=af) (g:=g) (i:=j) hx' (by rw[h3];exact dg hy) ht hz h4
    rw[Nat.zero_add] at this
    exact this
   ·trivial
  ·rename_i ty' k off n ki i e hx hy ht
   split
   ·rename_i hs
    obtain⟨by_,hz⟩:=tR hs
    intro j hj
    obtain⟨h1,h2,h3,h4⟩:=pa hj
    have hx':=ax (ρ:=ρ) hx
    simp only[TV.to,TA.to,OS _ _ off (show 0 < n by omega)] at hx'
    have:=n9 (P:=P) (T:=Y) (dd:=d) (ty:=ty) (pos:=pos) (af:=af) (g:=g) (i:=j) hx' (by rw[h3];exact dg hy) ht hz h4
    rw[← Nat.add_mul] at this
    exact this
   ·trivial
  ·trivial
 ·split
  ·rename_i ty' k j o fs hx ht
   split
   ·rename_i f hf
    split
    ·rename_i fsz hz
     split
     ·rename_i hp
      have:=iE (P:=P) (T:=Y) (d:=d) (ty:=ty) (pos:=pos) (af:=af) (g:=g) (ax (ρ:=ρ) hx) ht hf hz hp
      rw[Nat.add_assoc] at this
      exact this
     ·trivial
    ·trivial
   ·trivial
  ·trivial
 ·split
  ·rename_i ty' k j o hx
   split
   ·rename_i l fs hv ht
    split
    ·rename_i hc
     rw[Bool.and_eq_true] at hc
     have ho:=Nat.eq_of_beq_eq_true hc.1
     subst ho
     obtain⟨by_,hz⟩:=tR hc.2
     intro z hz'
     have hl:l≠[] :=fun e=>by rw[e] at hz';simp at hz'
     obtain⟨q1,q2⟩:=vJ ((ρ.k k).sp.map AV.v) hz'
     have:=sd (P:=P) (T:=Y) (dd:=d) (ty:=ty) (pos:=pos) (af:=af) (g:=g) (ax (ρ:=ρ) hx) (qm hi hv hl) ht hz (Nat.ble_eq_true_of_le q2) (ge kj)
     rw[Nat.add_zero,q1] at this
     have e2:(cells E.toEnc ty' z).map AV.rd=cells E.toEnc ty' z:=by
      conv=>rhs;rw[← List.map_id (cells E.toEnc ty' z)]
      exact List.map_congr_left fun u hu=>(jU E.toEnc ty' z u hu).2
     rw[e2,← tF E ρ] at this
     exact this
    ·trivial
   ·rename_i l dsc hns hv ht
    split
    ·rename_i hc
     rw[Bool.and_eq_true] at hc
     have ho:o < csz E.toEnc ty':=Nat.le_of_ble_eq_true hc.2
     intro z hz'
     have hl:l≠[] :=fun e=>by rw[e] at hz';simp at hz'
     have hg:=Ba ((ρ.k k).sp.map AV.v) hz' ho
     rw[Mn (ρ:=ρ) ho (.raw undef)] at hg
     have:=kW (P:=P) (T:=Y) (d:=d) (ty:=ty) (pos:=pos) (af:=af) (g:=g) (ax (ρ:=ρ) hx) (qm hi hv hl) hg ht hc.1 (TA.to_notMp _ _ _)
     rw[← TA.rd_to] at this
     exact this
    ·trivial
   ·trivial
  ·trivial
 ·rename_i t x lo
  split
  ·rename_i ty' k n i e hx hy ht
   split
   ·rename_i hs
    obtain⟨by_,hz⟩:=tR hs
    intro p hp
    obtain⟨h1,h2,h3,h4⟩:=uF hp
    have hx':=ax (ρ:=ρ) hx
    have hy':opV (σ.to E.toEnc ρ) lo=some (.v (.int .i64 (p.1:Int))):=by rw[← h1];exact dg hy
    by_cases hn:((ρ.k k).nil && Nat.beq n 0)=true
    ·have hn':=hn
     rw[Bool.and_eq_true] at hn'
     have n0:=Nat.eq_of_beq_eq_true hn'.2
     have hv:vecV (ρ.k k) (csz E.toEnc ty') n=.slice (pf (ρ.k k).sp) 0 0:=by unfold vecV;rw[if_pos hn]
     simp only[TV.to,TA.to,hv] at hx'
     have p0:p.1=0:=by omega
     have:=sk (P:=P) (Y:=Y) (dd:=d) (ty:=ty) (pos:=pos) (af:=af) (g:=g) (i:=p.1) hx' ht hz hy' (by omega) (by omega)
     have e:pn (ρ.k k) (csz E.toEnc ty') p.1 (n - p.1)=.slice (pf (ρ.k k).sp) 0 0:=by
      unfold pn
      rw[if_pos]
      rw[p0,n0];rw[n0] at hn;exact hn
     simp only[TV.to,TA.to,e]
     simpa[p0] using this
    ·have hv:vecV (ρ.k k) (csz E.toEnc ty') n=.slice (some ⟨ρ k,0,none⟩) n (n+ (ρ.k k).sp.length / csz E.toEnc ty'):=by unfold vecV;rw[if_neg hn];rfl
     simp only[TV.to,TA.to,hv] at hx'
     have hq:n≤n+ (ρ.k k).sp.length / csz E.toEnc ty':=Nat.le_add_right _ _
     have:=sk (P:=P) (Y:=Y) (dd:=d) (ty:=ty) (pos:=pos) (af:=af) (g:=g) (i:=p.1) hx' ht hz hy' (by omega) hq
     have e:pn (ρ.k k) (csz E.toEnc ty') p.1 (n - p.1)=.slice (if n+ (ρ.k k).sp.length / csz E.toEnc ty'=p.1 then some ⟨ρ k,0,none⟩ else some ⟨ρ k,p.1 * csz E.toEnc ty',none⟩) (n - p.1) (n+ (ρ.k k).sp.length / csz E.toEnc ty' - p.1):=by
      unfold pn
      rw[if_neg (by rw[show p.1+ (n - p.1)=n by omega];exact hn)]
      have e2:n - p.1+ (ρ.k k).sp.length / csz E.toEnc ty'=n+ (ρ.k k).sp.length / csz E.toEnc ty' - p.1:=by
       generalize (ρ.k k).sp.length / csz E.toEnc ty'=q
       omega
      rw[e2]
      generalize (ρ.k k).sp.length / csz E.toEnc ty'=q
      by_cases hc:n+q=p.1
      ·rw[if_pos (by omega),if_pos hc];rfl
      ·rw[if_neg (by omega),if_neg hc];rfl
     simp only[TV.to,TA.to,e]
     simp only[Option.map_some,en,Nat.zero_add] at this
     exact this
   ·trivial
  ·trivial
 ·rename_i xs ats
  split
  ·rename_i x t hxs ha
   have hxs':xs= #[x] :=by cases xs;simp at hxs;subst hxs;rfl
   subst hxs'
   split
   ·rename_i e ty' k n ht hx
    have hx':=ax (ρ:=ρ) hx
    by_cases hn:((ρ.k k).nil && Nat.beq n 0)=true
    ·have hn':=hn
     rw[Bool.and_eq_true] at hn'
     have n0:=Nat.eq_of_beq_eq_true hn'.2
     have hv:vecV (ρ.k k) (csz E.toEnc ty') n=.slice (pf (ρ.k k).sp) 0 0:=by unfold vecV;rw[if_pos hn]
     simp only[TV.to,TA.to,hv] at hx'
     subst n0
     exact g7 (T:=Y) hx' ha ht
    ·have hv:vecV (ρ.k k) (csz E.toEnc ty') n=.slice (some ⟨ρ k,0,none⟩) n (n+ (ρ.k k).sp.length / csz E.toEnc ty'):=by unfold vecV;rw[if_neg hn];rfl
     simp only[TV.to,TA.to,hv] at hx'
     exact g7 (T:=Y) hx' ha ht
   ·rename_i e ty' k off n ht hx
    have hx':=ax (ρ:=ρ) hx
    by_cases hn:((ρ.k k).nil && Nat.beq (off+n) 0)=true
    ·have hn':=hn
     rw[Bool.and_eq_true] at hn'
     have n0:=Nat.eq_of_beq_eq_true hn'.2
     have hv:pn (ρ.k k) (csz E.toEnc ty') off n=.slice (pf (ρ.k k).sp) 0 0:=by unfold pn;rw[if_pos hn]
     simp only[TV.to,TA.to,hv] at hx'
     obtain rfl:n=0:=by omega
     exact g7 (T:=Y) hx' ha ht
    ·have hv:pn (ρ.k k) (csz E.toEnc ty') off n=.slice (some ⟨(ρ.k k).b,if n+ (ρ.k k).sp.length / csz E.toEnc ty'=0 then 0 else off * csz E.toEnc ty',none⟩) n (n+ (ρ.k k).sp.length / csz E.toEnc ty'):=by unfold pn;rw[if_neg hn]
     simp only[TV.to,TA.to,hv] at hx'
     exact g7 (T:=Y) hx' ha ht
   ·trivial
  ·trivial
 ·trivial
theorem Fp(hi:Inj ρ σ.h)(hG:GOk P Y E G)(op:Op):(evP Y E G σ op ty).ok fun u=>OpV P ⟨d,op,ty,pos,af,g⟩ (σ.to E.toEnc ρ) (u.to E.toEnc ρ):=by
 have h:=O1 (Y:=Y) (E:=E) (d:=d) (ty:=ty) (pos:=pos) (af:=af) (g:=g) hi op
 have h2:=OY (Y:=Y) (E:=E) (d:=d) (ty:=ty) (pos:=pos) (af:=af) (g:=g) hi op
 unfold evP
 split
 ·split
  ·exact PQ hi hG op
  ·exact h
 ·exact h2
end
def offS(off c i sz:Nat):Nat:=if c=i then off else off+i * sz
section
variable {P:Program} {T:Tys P} {σ:AS} {t u ty e:TypeId} {x y:Operand} {pos:String} {af:Array Edge} {g:Option (Nat × Bool)}
theorem Bt{dd:Option Tmp}{lo hi:Option Operand}{k o n c i j sz by_:Nat}(hx:opV σ x=some (.v (.slice (some ⟨k,o,none⟩) n c)))(ht:look T.ty t=some (.slice e))(hz:look T.sz e=some (sz,by_))(hl:m8 σ lo .i64 (i:Int) 0)(hh:m8 σ hi .i64 (j:Int) (n:Int))(h1:i≤j)(h2:j≤c):
  OpV P ⟨dd,.slice t x lo hi none,ty,pos,af,g⟩ σ (.v (.slice (some ⟨k,offS o c i sz,none⟩) (j - i) (c - i))):=by
 refine aG rfl fun F X a hs=> ?_
 obtain⟨it,hi1,hi2,hi3,_⟩:=T.szOk _ _ _ hz
 have e1:=aL hs (by simp[Op.operands]) hx
 have hlo:=jd (q:=lo) hs (fun p hp=>by subst hp;simp[Op.operands]) hl
 have hhi:=jd (q:=hi) hs (fun p hp=>by subst hp;simp[Op.operands]) hh
 refine⟨_,?_,.v _⟩
 have hu:=T.tyOk _ _ ht
 have hb:=jO (P:=P) (isS:=true) (w:=X.w) hlo hhi (by omega) (by omega) (cap:=c) (by omega)
 simp only[execOp,e1]
 refine aW ?_
 simp only[Option.map_none,Instr.sliceAt,Sem.run_bind,run_underlying hu,Result.andThen_ok]
 simp only[Instr.slice,Sem.run_bind,run_underlying hu,Result.andThen_ok,hb]
 by_cases hci:c=i
 ·simp[sizeOf,typeInfo,hi1,hi2,offS,hci]
 ·simp[sizeOf,typeInfo,hi1,hi2,offS,hci,en]
theorem Jw{k off n c:Nat}{cs:List AV}{zv:Value}(hx:opV σ x=some (.v (.slice (some ⟨k,off,none⟩) n c)))(hb:look σ.h k=some cs)(hmp:fx cs=false)(ht:look T.ty t=some (.slice e))(hz:look T.zr e=some zv)(hl:off+n * zv.cells.size≤cs.length)(hone:∀v∈(Builtin.zeroCells zv.cells n).toList,v.oneCell'=true)
  {R:AS→Prop} (hR:R (σ.setc k (b7 cs off ((Builtin.zeroCells zv.cells n).toList.map .v)))):cy P ⟨none,.call { callee:=.builtin .clear,args:= #[x],argTypes:= #[t] },ty,pos,af,g⟩ σ R:=by
 intro F X a hs
 have e1:=bF (bt hs hx)
 obtain⟨i,hi1,hi2⟩:=T.zrOk _ _ hz
 obtain⟨b1,b2,arr,el,fr,b3,b4,b5,b6⟩:=(hs.box k cs hb).cells hmp
 have hzs:(Builtin.zeroCells zv.cells n).size=n * zv.cells.size:=by simp[Builtin.zeroCells]
 have hst:=run_storeCells_cells (P:=P) k off (Builtin.zeroCells zv.cells n).toList 0 X.w (fun j hj=>by
  rw[Array.length_toList,hzs] at hj
  have:off+j < arr.size:=by rw[b4];omega
  simp[World.cell?,b3,this]) (fun j hj=>b5 _) hone
 simp only[Nat.add_zero] at hst
 obtain⟨s1,s2⟩:=SimE.setc (cs:=cs) (us:=(Builtin.zeroCells zv.cells n).toList.map .v) (vs:=(Builtin.zeroCells zv.cells n).toList) hs hb (by rw[List.length_map,Array.length_toList,hzs];exact hl) (by simp) (fun j u v hu hv=>by
  rw[List.getElem?_map,hv] at hu;cases hu;exact .v _) (fun j sz' l v ho=>by
  rw[List.getElem?_map] at ho
  cases hq:(Builtin.zeroCells zv.cells n).toList[j]? with
  |none=>rw[hq] at ho;cases ho
  |some u0=>rw[hq] at ho;cases ho) (fun j j' p q ho=>by
  rw[List.getElem?_map] at ho
  cases hq:(Builtin.zeroCells zv.cells n).toList[j]? with
  |none=>rw[hq] at ho;cases ho
  |some u0=>rw[hq] at ho;cases ho) hmp
 have hrun:(Builtin.clear_ #[t] ty #[.slice (some ⟨k,off,none⟩) n c]).run P X.w=.ok (.tuple #[]) (X.w.setCells k off (Builtin.zeroCells zv.cells n).toList):=by
  cases n with
  |zero=>
   have:(Builtin.zeroCells zv.cells 0).toList=[] :=by simp[Builtin.zeroCells]
   rw[this]
   simp[Builtin.clear_,run_underlying (T.tyOk _ _ ht),World.setCells]
  |succ m=>
   simp[Builtin.clear_,run_underlying (T.tyOk _ _ ht),zeroValue,typeInfo,hi1,hi2,hst]
 refine ci (x:=.tuple #[]) (w':=X.w.setCells k off (Builtin.zeroCells zv.cells n).toList) (by simp[execOp,resolve,invoke,builtin,e1,hrun]) ⟨_,_,rfl,hR,?_,s2⟩
 exact s1
end
end Go.Proofs.YtobacplonkjigaaDoor
