import Derived.Test.YtlhjbhgkhpbnfaaCk02
import Derived.Laws.MakeOwn
import Derived.Laws.IdiomCopy
import Derived.Laws.StructEq
import Derived.Lib.SliceRun
set_option linter.unusedSimpArgs false
set_option linter.unusedVariables false
set_option linter.defProp false
namespace Go.Proofs.Ytlhjbhgkhpbnfaa
open Go.RowKit P
def AS.withH(O:AS)(h:List (Nat × List AV)):AS:={ n:=O.n,t:=O.t,h:=h,e:=O.e }
def eA{α:Type}(k:Nat):List (Nat × α)->List (Nat × α)
 | [] =>[]
 |p::r=>if p.1=k then eA k r else p::eA k r
def sV{α:Type}{k' k:Nat}{a:α}:∀ {h:List (Nat × α)},look (eA k' h) k=some a->k≠k'/\look h k=some a
 | [],h=>by simp[eA,aP] at h
 | (q,b)::r,h=>by
   simp only[eA] at h;by_cases e:q=k'
   ·rw[ZI e] at h;obtain⟨h1,h2⟩:=sV h;refine⟨h1,?_⟩;rw[ae,ZH (by rw[e];exact h1)];exact h2
   ·rw[ZH e,ae] at h;by_cases e2:k=q
    ·rw[ZI e2] at h;rw[ae,ZI e2];exact⟨by rw[e2];exact e,h⟩
    ·rw[ZH e2] at h;obtain⟨h1,h2⟩:=sV h;rw[ae,ZH e2];exact⟨h1,h2⟩
def H4(O:AS)(k:Nat)(cs:List AV):(O.setc k cs).h=(k,cs)::O.h:=rfl
def y9(l body:List Oper)(om oa:Oper)(after:List Oper):Bool:=
 lE 0 l && jn l body body 0 && A8 body [] && fq l body.length om body 0 && (om.guard.isNone && om.dst.isNone) && zi after (body.length+1) && zQ ((body++ [om]).map cq).reverse (cq oa)
section
variable {P:Program} {Q:Exit->AS->Prop} {ks:List It} {T:Tys P} {O:AS} {K:AS->Prop} {l body after rest:List Oper} {om oa o:Oper} {d k:Nat} {u:AV}
def Mb{id k':Nat}(hm:P.follows .mixedOrders=true)(hl:l=body++om::oa::after)(hB:y9 l body om oa after=true)(he:O.e=[])
  (h:m8 P l (fun σ'=>∃cs':List AV,(∀σ1:AS,σ1.n=O.n->σ1.e=[] ->σ1.h=O.h->(∀t,Operand.tmp t∈om.op.operands.toList->look σ1.t t=look σ'.t t)->zC P om σ1 (σ1.setc k' cs'))/\br P Q (.o l (body.length+1) (oa::after)::ks) (((σ'.withH O.h).setc k' cs').als (fg body))) body (O.withH (eA k' O.h))):br P Q (.c (.region id l.toArray true)::ks) O:=by
 intro F X a hs D hdf;obtain⟨us,hul,⟨cs',hom,hK⟩,hstep⟩:=xK body (O.withH (eA k' O.h)) h;simp only[y9,Bool.and_eq_true] at hB;obtain⟨⟨⟨⟨⟨⟨hx,hset⟩,hdst⟩,hsom⟩,hgd⟩,hchn⟩,hcov⟩:=hB;have hguard:om.guard=none:=by
  cases hg:om.guard with
  |none=>rfl
  |some p=>rw[hg] at hgd;simp at hgd
 have hodst:om.dst=none:=by
  cases hg:om.dst with
  |none=>rfl
  |some p=>rw[hg] at hgd;simp at hgd
 have hdis:=(oX body [] hdst).2;have hlb:∀i,i < body.length->l[i]? =body[i]? :=fun i hi=>by rw[hl,ZO hi]
 have hlo:l[body.length]? =some om:=by rw[hl];simp
 have hla:l[body.length+1]? =some oa:=by rw[hl];simp
 have hll:body.length+1 < l.length:=by rw[hl];simp
 have hlex:∀ (i:Nat) o,l[i]? =some o->∀j∈cq o,j < i:=by intro i o ho j hj;have:=iG l 0 i o hx ho j hj;omega
 have hch:∀ (i:Nat) o,body.length+1 < i->l[i]? =some o->i - 1∈cq o:=by
  intro i o hi ho;obtain⟨j,hj⟩:∃j,i=body.length+1+1+j:=⟨i - body.length - 1 - 1,by omega⟩
  have hoa:after[j]? =some o:=by rw[hl,ZJ (by omega)] at ho;rw[show i - body.length=j+1+1 by omega] at ho;simpa using ho
  have:=sP hchn j o hoa
  rwa [show i - 1=body.length+1+j by omega]
 refine wp_region_any hm ?_
 let Inv:Array Bool->GW->Act->Prop:=fun listed X1 a1=>∃σ1:AS,SimE F X1 σ1 a1.tmps/\σ1.n=O.n/\σ1.h=(if listed.getD body.length false=true then(O.setc k' cs').h else O.h)/\σ1.e=[] /\
  (∀ (i:Nat) o d u,body[i]? =some o->us[i]? =some u->o.dst=some d->listed.getD i false=true->look σ1.t d=some u)/\
  (∀t,(∀ (i:Nat) o,body[i]? =some o->o.dst=some t->listed.getD i false=false)->look σ1.t t=look O.t t)/\
  (∀ (i:Nat) o d s,body[i]? =some o->o.dst=some d->o.op=.move (.tmp s)->o.guard=none->(∀ (q:Nat) oq,body[q]? =some oq->oq.dst≠some s)->listed.getD i false=true->a1.tmps.getD d undef=a1.tmps.getD s undef)
 have ready_of:∀ (listed:Array Bool),listed.size=l.length->listed.getD (body.length+1) false=false->Region.ready .any l.toArray listed≠[] :=by
  intro listed hsz hlast hnil;obtain⟨k,hk,hkf,hkl⟩:=jt (fun j=>listed.getD j false) (body.length+1+1) ⟨body.length+1,by omega,hlast⟩;have hkl2:k < l.length:=by omega
  have hmem:k∈Region.ready .any l.toArray listed:=by refine mem_ready.2 ⟨by rw[eZ (by omega)];exact hkf,l[k],by simp[hkl2],fun e he hb=> ?_⟩;exact hkl e.on (hlex k l[k] (ZE hkl2) e.on (cG.2 ⟨e,he,hb,rfl⟩))
  rw[hnil] at hmem;cases hmem
 have key:∀ (fuel:Nat) (listed:Array Bool) (X1:GW) (a1:Act),listed.size=l.length->(∀j,body.length+1<=j->listed.getD j false=false)->
   ((List.range l.length).filter (fun i=> !listed.getD i true)).length<=fuel->Ext F X X1->a1.defers=D->Inv listed X1 a1->
   (∀j oj,l[j]? =some oj->listed.getD j false=true->∀d∈cq oj,listed.getD d false=true)->
   wpAny P .any l.toArray (dA F X D (Stk P Q ks)) fuel listed a1 X1.w:=by
  intro fuel
  induction fuel with
  |zero=>intro listed X1 a1 hsz hlast hf hx1 hd1 hI hdn;have h0:=aal.1 (abJ.1 hf);have:=aaZ.1 h0 (body.length+1) (aaF.2 (by omega));rw[eZ (by omega),hlast _ (ZN _)] at this;exact absurd rfl this
  |succ fuel ih=>
   intro listed X1 a1 hsz hlast hf hx1 hd1 hI hdn;refine⟨fun hnil=>absurd hnil (ready_of listed hsz (hlast _ (ZN _))),fun i hi=> ?_⟩;obtain⟨h1,o,h2,h3⟩:=mem_ready.1 hi;have h2l:l[i]? =some o:=by simpa using h2
   have hil:i < l.length:=(ZD.1 h2l).1;have hlf:listed.getD i false=false:=by rw[<- eZ (by omega)];exact h1
   obtain⟨σ1,s1,s2,s3,se,s4,s5,s6⟩:=hI;have hsee0:∀ (i:Nat) (o:Oper),l[i]? =some o->i<=body.length->fq l i o body 0=true->listed.getD i false=false->(∀e∈o.after,Region.binds .any e=true->listed.getD e.on false=true)->∀t,t∈dk l o->look (puts (O.withH (eA k' O.h)) (body.take i) (us.take i)).t t=look σ1.t t:=by
    intro i o h2l hib hset1 hlf h3 t ht;rw[iF _ _ _ _ (by simp;omega) (fun q q' o1 o2 d h1 h2 h3 h4=>by
     rw[ZX] at h1 h2;split at h1
     ·split at h2
      ·exact hdis q q' o1 o2 d h1 h2 h3 h4
      ·cases h2
     ·cases h1)]
    cases hf:((body.take i).zip (us.take i)).find? (fun p=>p.1.dst==some t) with
    |some p=>
     have hmem:=aav hf;have hpd:p.1.dst=some t:=by simpa using aa7 hf
     obtain⟨q,hq⟩:=aab hmem;rw[Z8,ZX,ZX] at hq;have hqi:q < i:=by apply Z7;intro hc;rw[ZH hc] at hq;cases hq.1
     rw[ZI hqi,ZI hqi] at hq;obtain⟨d',hd',hs'⟩:=gg body 0 q p.1 hset1 hq.1;rw[hpd] at hd';cases hd';have hdep:=(hs' ht (by omega)).1 (by omega);rw[Z6] at hdep;obtain⟨e,he1,he2,he3⟩:=cG.1 hdep;have hq3:listed.getD q false=true:=by rw[<- he3];exact h3 e he1 he2
     rw[s4 q p.1 t p.2 hq.1 hq.2 hpd hq3]
    |none=>
     simp only;symm;refine s5 t fun j oj hj hjd=> ?_;have hjl:=(ZD.1 hj).1;by_cases hji:j < i
     ·have hmem:(oj,us[j]'(by omega))∈(body.take i).zip (us.take i):=by
       refine ZQ (i:=j) (Z8.2 ⟨?_,?_⟩)
       ·rw[ZX,ZI hji];exact hj
       ·rw[ZX,ZI hji];exact ZE (by omega)
      exact absurd (by simpa using hjd) (aaI.1 hf _ hmem)
     ·by_cases hje:j=i
      ·subst hje;exact hlf
      ·obtain⟨d',hd',hs'⟩:=gg body 0 j oj hset1 hj;rw[hjd] at hd';cases hd';have hdep:=(hs' ht (by omega)).2 (by omega);cases hc:listed.getD j false
       ·rfl
       ·have:=hdn j oj (by rw[hlb j hjl];exact hj) hc i hdep;rw[hlf] at this;cases this
   have hR0:∀ (i:Nat) (o:Oper),l[i]? =some o->i<=body.length->fq l i o body 0=true->listed.getD i false=false->(∀e∈o.after,Region.binds .any e=true->listed.getD e.on false=true)->SimR F X1 (puts (O.withH (eA k' O.h)) (body.take i) (us.take i)) o.op a1.tmps:=by
    intro i o h2l hib hset1 hlf h3;refine⟨s1.gb,s1.fb,fun t u ht hu=> ?_,fun k cs hk=> ?_⟩
    ·rw[hsee0 i o h2l hib hset1 hlf h3 t (by simp only[dk];exact aar _ (gM ht))] at hu;exact s1.slot t u hu
    ·rw[jC] at hk;obtain⟨hk1,hk2⟩:=sV hk;refine s1.box k cs ?_;rw[s3];split
     ·rw[H4,ae,ZH hk1];exact hk2
     ·exact hk2
   unfold wpOp;simp only[h2];by_cases hib:i < body.length
   ·have h2':body[i]? =some o:=by rw[<- hlb i hib];exact h2l
    have hui:us[i]? =some us[i] :=ZE (by omega);obtain⟨d,hod,hdn2,hcase⟩:=hstep i o us[i] h2' hui;have hset1:fq l i o body 0=true:=by have:=kl body 0 i o hset h2';rwa [Z6] at this
    have hsee:=hsee0 i o h2l (by omega) hset1 hlf h3;have hwan2:cb l (puts (O.withH (eA k' O.h)) (body.take i) (us.take i)) o=cb l σ1 o/\fH l (puts (O.withH (eA k' O.h)) (body.take i) (us.take i)) o=fH l σ1 o:=by refine(kB (by rw[oL,s2];rfl) fun j want d0 hg hd0=>hsee d0 ?_);simp only[dk,hg,hd0];simp
    have hwan:=hwan2.1;have hdz:d < a1.tmps.size:=by rw[s1.size,s2];exact bJ hdn2
    have go:∀ (v:Value) (X2:GW),(∀s,o.op=.move (.tmp s)->o.guard=none->v=a1.tmps.getD s undef)->New X1 X2->(∀b n,X2.g b=some n->b < X2.w.heap.size)->Rel X2 us[i] v->FreshOk F X1.w.heap.size X2 us[i] v->wpAny P .any l.toArray (dA F X D (Stk P Q ks)) fuel (listed.setIfInBounds i true) (a1.put o.dst v) X2.w:=by
     intro v X2 hv2 hn2 hg2 hr2 hf2;refine ih (listed.setIfInBounds i true) X2 (a1.put o.dst v) (by simp[hsz]) (fun j hj=>by rw[bv false (by omega),ZH (by omega)];exact hlast j hj) ?_ (hx1.trans (hn2.ext s1.gb s1.fb)) (by rw[eG];exact hd1) ?_ ?_
     ·have:=lQ hil hsz h1;omega
     ·refine⟨σ1.put d us[i],?_,s2,by rw[bv false (by omega),ZH (show ¬body.length=i by omega)];exact s3,by simp[AS.put,se],fun j oj dj uj hj huj hdj hlj=> ?_,fun t ht=> ?_,fun j oj dj sj hj hdj hopj hgj hsj hlj=> ?_⟩
      ·rw[hod];exact s1.put_new (by rw[s2];exact bJ hdn2) hn2 hg2 hr2 hf2
      ·simp only[AS.put,ae];by_cases e:j=i
       ·subst e;rw[h2'] at hj;cases hj;rw[hod] at hdj;cases hdj;rw[ZI rfl,<- huj,hui]
       ·have hne:dj≠d:=fun e2=>e (hdis j i oj o d hj h2' (by rw[hdj,e2]) hod);rw[ZH hne];rw[bv false (by omega),ZH e] at hlj;exact s4 j oj dj uj hj huj hdj hlj
      ·have hne:t≠d:=by
        rintro rfl;have:=ht i o h2' hod;rw[bv false (by omega),ZI rfl] at this;cases this
       simp only[AS.put,ae];rw[ZH hne];refine s5 t fun j oj hj hjd=> ?_;have:=ht j oj hj hjd;rw[bv false (by omega)] at this;by_cases e:j=i
       ·rw[ZI e] at this;cases this
       ·rw[ZH e] at this;exact this
      ·have hds:d≠sj:=fun e=>hsj i o h2' (by rw[hod,e]);rw[hod];have hset:∀ (x:Nat),(a1.put (some d) v).tmps.getD x undef=if x=d then v else a1.tmps.getD x undef:=by
        intro x;simp only[Act.put,Array.getD_eq_getD_getElem?,Array.getElem?_setIfInBounds];by_cases e:d=x
        ·subst e;rw[ZI rfl,ZI hdz,ZI rfl];rfl
        ·rw[ZH e,ZH (Ne.symm e)]
       rw[hset,hset,ZH (Ne.symm hds)];by_cases e:j=i
       ·subst e;rw[h2'] at hj;cases hj;rw[hod] at hdj;cases hdj;rw[ZI rfl];exact hv2 sj hopj hgj
       ·have hne:dj≠d:=fun e2=>e (hdis j i oj o d hj h2' (by rw[hdj,e2]) hod);rw[ZH hne];rw[bv false (by omega),ZH e] at hlj;exact s6 j oj dj sj hj hdj hopj hgj hsj hlj
     ·intro j oj hoj hj dd hdd;rw[bv false (by omega)];by_cases e:dd=i
      ·rw[ZI e]
      ·rw[ZH e];by_cases e2:j=i
       ·subst e2;rw[h2l] at hoj;cases hoj;obtain⟨x,hx1,hx2,hx3⟩:=cG.1 hdd;rw[<- hx3];exact h3 x hx1 hx2
       ·rw[bv false (by omega),ZH e2] at hj;exact hdn j oj hoj hj dd hdd
    rcases hcase with ⟨hw,hop⟩| ⟨hw,hun⟩
    ·rw[hwan] at hw;rw[ZI (kv s1 hw)];left;have hrun:=hop F X1 a1 (hR0 i o h2l (by omega) hset1 hlf h3);have hrun2:jz P o a1 X1.w fun x w'=>(∀s,o.op=.move (.tmp s)->o.guard=none->x=a1.tmps.getD s undef)/\∃X':GW,X'.w=w'/\New X1 X'/\(∀b n,X'.g b=some n->b < X'.w.heap.size)/\Rel X' us[i] x/\FreshOk F X1.w.heap.size X' us[i] x:=by
      by_cases hmv:∃s,o.op=.move (.tmp s)
      ·obtain⟨s,hs⟩:=hmv;have hex:(execOp a1.eval o).run P X1.w=.ok (.value (a1.tmps.getD s undef)) X1.w:=by obtain⟨dst,op,ty,pos,af,g⟩:=o;simp only at hs;subst hs;rfl
       unfold jz at hrun ⊢;rw[hex] at hrun ⊢;exact⟨fun s' h' _=>by rw[hs] at h';cases h';rfl,hrun⟩
      ·exact hrun.mono fun x w' h=>⟨fun s h'=>absurd ⟨s,h'⟩ hmv,h⟩
     refine hrun2.wp fun x w' ⟨k0,X2,k1,k2,k3,k4,k5⟩=> ?_;subst k1;exact go x X2 k0 k2 k3 k4 k5
    ·have hw:o8 l σ1 o:=by
      rcases hw with hw|hw
      ·exact .inl (by rw[<- hwan];exact hw)
      ·exact .inr (by rw[<- hwan2.2];exact hw)
     rw[ZH (by rw[tw s1 hw];simp)];refine go undef X1 (fun s _ hg=> ?_) (New.refl X1) s1.gb (by rw[hun];exact .v _) (by rw[hun];exact FreshOk.plain rfl)
     ·exfalso;exact sI hw hg
   ·by_cases hio:i=body.length
    ·subst hio;rw[hlo] at h2l;cases h2l;have hsee:=hsee0 body.length om hlo (ZN _) hsom hlf h3;have hof:listed.getD body.length false=false:=hlf;rw[ZH (by rw[hof];decide)] at s3
     have hrun:=hom σ1 s2 se s3 (fun t ht=>by have:=hsee t (by simp only[dk];exact aar _ (gM ht));rw[aan (ZN _),aan (by omega)] at this;exact this.symm) (fun σ2=>σ2=σ1.setc k' cs') rfl F X1 a1 s1;have hw:Region.wanted om (yielded l.toArray a1.tmps)=true:=by unfold Region.wanted;rw[hguard]
     rw[ZI hw];left;refine hrun.wp fun x w' ⟨X2,σ2,k1,k2,k3,k4⟩=> ?_;subst k1 k2;rw[hodst] at k3 ⊢;refine ih (listed.setIfInBounds body.length true) X2 (a1.put none x) (by simp[hsz]) (fun j hj=>by rw[bv false (by omega),ZH (by omega)];exact hlast j (by omega)) ?_ (hx1.trans k4) (by rw[eG];exact hd1) ?_ ?_
     ·have:=lQ hil hsz h1;omega
     ·refine⟨σ1.setc k' cs',k3,s2,?_,?_,fun j oj dj uj hj huj hdj hlj=> ?_,fun t ht=> ?_,fun j oj dj sj hj hdj hopj hgj hsj hlj=> ?_⟩
      ·rw[bv false (by omega),ZI rfl,ZI rfl,H4,H4,s3]
      ·simp[AS.setc,AS.dropC,se]
      ·rw[bv false (by omega),ZH (by have:=(ZD.1 hj).1;omega)] at hlj;exact s4 j oj dj uj hj huj hdj hlj
      ·refine s5 t fun j oj hj hjd=> ?_;have:=ht j oj hj hjd;rw[bv false (by omega),ZH (by have:=(ZD.1 hj).1;omega)] at this;exact this
      ·rw[bv false (by omega),ZH (by have:=(ZD.1 hj).1;omega)] at hlj;exact s6 j oj dj sj hj hdj hopj hgj hsj hlj
     ·intro j oj hoj hj dd hdd;rw[bv false (by omega)];by_cases e:dd=body.length
      ·rw[ZI e]
      ·rw[ZH e];by_cases e2:j=body.length
       ·subst e2;rw[hlo] at hoj;cases hoj;obtain⟨x,hx1,hx2,hx3⟩:=cG.1 hdd;rw[<- hx3];exact h3 x hx1 hx2
       ·rw[bv false (by omega),ZH e2] at hj;exact hdn j oj hoj hj dd hdd
    have hie:i=body.length+1:=by apply Z7;intro hne;obtain⟨e,he1,he2,he3⟩:=cG.1 (hch i o (by omega) h2l);have h9:=h3 e he1 he2;rw[he3,hlast (i - 1) (by omega)] at h9;cases h9
    subst hie;rw[hla] at h2l;cases h2l;have hall1:∀j,j < body.length+1->listed.getD j false=true:=by
     intro j hj;refine qv (p:=fun j=>listed.getD j false=true) hcov (fun q hq=> ?_) (fun i d hi hli q hq=> ?_) j (by simpa using hj)
     ·obtain⟨e,he1,he2,he3⟩:=cG.1 hq;rw[<- he3];exact h3 e he1 he2
     ·rw[List.reverse_reverse,aao,Z4] at hi;obtain⟨oi,hi1,rfl⟩:=hi;have hil2:=(ZD.1 hi1).1;refine hdn i oi ?_ hli q hq;rw[hl,show body++om::oa::after=(body++ [om])++oa::after by simp,ZO hil2];exact hi1
    have hallb:∀j,j < body.length->listed.getD j false=true:=fun j hj=>hall1 j (by omega);rw[ZI (hall1 body.length (by omega))] at s3;have hfin:SimE F X1 (((puts (O.withH (eA k' O.h)) body us).withH O.h).setc k' cs') a1.tmps:=by
     refine s1.sub (by rw[s2];exact oL body us (O.withH (eA k' O.h))) (fun t u hu=> ?_) (fun k cs hk=>by rw[s3];exact hk) (fun p hp=>by
      have he0:=vo body us (O.withH (eA k' O.h)) he;have he1:(((puts (O.withH (eA k' O.h)) body us).withH O.h).setc k' cs').e=[] :=by have:((puts (O.withH (eA k' O.h)) body us).withH O.h).e=[] :=he0;simp only[AS.setc,AS.dropC];rw[this];rfl
      rw[he1] at hp;cases hp)
     have hu:look (puts (O.withH (eA k' O.h)) body us).t t=some u:=hu;rw[iF body us (O.withH (eA k' O.h)) t hul hdis] at hu;cases hf:(body.zip us).find? (fun p=>p.1.dst==some t) with
     |some p=>
      rw[hf] at hu;cases hu;have hmem:=aav hf;have hpd:p.1.dst=some t:=by simpa using aa7 hf
      obtain⟨q,hq⟩:=aab hmem;rw[Z8] at hq;exact s4 q p.1 t p.2 hq.1 hq.2 hpd (hallb q (ZD.1 hq.1).1)
     |none=>rw[hf] at hu;rw[<- hu];refine s5 t fun i o ho hod=> ?_;have hil:=(ZD.1 ho).1;have hui:us[i]? =some us[i] :=ZE (by omega);have:=aaI.1 hf (o,us[i]) (ZQ (Z8.2 ⟨ho,hui⟩));exact absurd (by simpa using hod) this
    have hfin2:SimE F X1 ((((puts (O.withH (eA k' O.h)) body us).withH O.h).setc k' cs').als (fg body)) a1.tmps:=by
     refine uC hfin fun p hp=> ?_;unfold fg at hp;obtain⟨o,ho1,ho2⟩:=abw.1 hp;obtain⟨i,hi⟩:=aab ho1;split at ho2
     ·rename_i d s hd' hop' hg';split at ho2
      ·rename_i hall;cases ho2;refine s6 i o d s hi hd' hop' hg' (fun q oq hq hq'=> ?_) (hallb i (ZD.1 hi).1);have:=ZL.1 hall oq (ZQ hq);rw[hq'] at this;simp at this
      ·cases ho2
     ·cases ho2
    have hrun:=hK F X1 a1 hfin2 D hd1;have hn:l.length - (body.length+1)=after.length+1:=by rw[hl];simp only[List.length_append,List.length_cons];omega
    rw[hn,List.range'_succ,wpOps_cons] at hrun;have hcnt:after.length<=fuel:=by
     have hsub:(List.range' (body.length+1) (after.length+1)).length<=((List.range l.length).filter (fun i=> !listed.getD i true)).length:=by
      refine List.Sublist.length_le ?_
      have e1:List.range l.length=List.range' 0 (body.length+1)++List.range' (body.length+1) (after.length+1):=by have:=List.range'_append_1 (s:=0) (m:=body.length+1) (n:=after.length+1);rw[Z6] at this;rw[abs,this,show l.length=body.length+1+ (after.length+1) by rw[hl];simp only[List.length_append,List.length_cons];omega]
      rw[e1,List.filter_append];refine List.Sublist.trans ?_ (List.sublist_append_right _ _)
      have:(List.range' (body.length+1) (after.length+1)).filter (fun i=> !listed.getD i true)=List.range' (body.length+1) (after.length+1):=by rw[List.filter_eq_self];intro q hq;obtain⟨hq1,hq2⟩:=List.mem_range'_1.1 hq;rw[eZ (by omega),hlast q hq1];rfl
      rw[this];exact List.Sublist.refl _
     rw[List.length_range'] at hsub;omega
    have hrun':=wpOp_mono (K':=wpAny P .any l.toArray (dA F X1 D (Stk P Q ks)) fuel (listed.setIfInBounds (body.length+1) true)) (fun a' w' h'=>vV hlex hch after.length (body.length+1+1) fuel (listed.setIfInBounds (body.length+1) true) a' w' (by omega) (by omega) (by simp[hsz]) (fun j hj=>by
     rw[bv false (by omega)];by_cases e:j=body.length+1
     ·rw[ZI e]
     ·rw[ZH e];exact hall1 j (by omega)) (fun j hj=>by rw[bv false (by omega),ZH (by omega)];exact hlast j (by omega)) hcnt h') hrun
    unfold wpOp at hrun';simp only[h2] at hrun';have hmono:=pJ (P:=P) (ops:=l.toArray) (R:=dA F X1 D (Stk P Q ks)) (R':=dA F X D (Stk P Q ks)) (fun e a w hp=>hp.ext hx1)
    have:=sW (P:=P) (ops:=l.toArray) (R:=dA F X1 D (Stk P Q ks)) (R':=dA F X D (Stk P Q ks)) (fun e a w hp=>hp.ext hx1) (i:=body.length+1) (K:=wpAny P .any l.toArray (dA F X1 D (Stk P Q ks)) fuel (listed.setIfInBounds (body.length+1) true)) (K':=wpAny P .any l.toArray (dA F X D (Stk P Q ks)) fuel (listed.setIfInBounds (body.length+1) true)) (fun a w h=>hmono fuel _ a w h) (a:=a1) (w:=X1.w) (by unfold wpOp;simp only[h2];exact hrun')
    unfold wpOp at this;simp only[h2] at this;exact this
 have hXd:New X ⟨X.w.drew,X.g⟩:=⟨rfl,rfl,rfl,ZN _,fun _ _=>⟨rfl,rfl⟩⟩
 have hsd:=hs.new hXd hs.gb;have hno:∀i,(Array.replicate l.toArray.size false).getD i false=false:=fun i=>by simp only[Array.getD_eq_getD_getElem?,Array.getElem?_replicate];split<;> simp
 refine key _ _ ⟨X.w.drew,X.g⟩ a (by simp) (fun j _=>hno j) (by refine aaM (aaH _ _) (by simp)) (hXd.ext hs.gb hs.fb) hdf ⟨O,hsd,rfl,by rw[hno];rfl,he,(fun i o d u _ _ _ hf=>by rw[hno] at hf;cases hf),(fun t _=>rfl),(fun i o d s _ _ _ _ _ hf=>by rw[hno] at hf;cases hf)⟩ (fun j oj hoj hf=>by rw[hno] at hf;cases hf)
end
section
variable {P:Program} {T:Tys P} {O:AS}
def wy{o:Oper}{d:Nat}(vf:Nat->Value){cs:List AV}(hdst:o.dst=some d)(hd:Nat.ble (d+1) O.n=true)(hp:io cs)
  (hrun:∀F X (a:Act),SimE F X O a.tmps->∃ (arr:Array Value) (el:TypeId),(execOp a.eval o).run P X.w=.ok (.value (vf X.w.heap.size)) (X.w.alloc (.cells arr el))/\arr.size=cs.length/\∀ (i:Nat) u x,cs[i]? =some u->arr[i]? =some x->Rel X u x)
  {R:AS->Prop} (hR:∀k,gy k O.h->R ((O.box k cs).put d (.v (vf k)))):dM P o O R:=by
 intro F X a hs;obtain⟨arr,el,h1,h2,h3⟩:=hrun F X a hs;have hn:New X ⟨X.w.alloc (.cells arr el),X.g⟩:=⟨rfl,rfl,rfl,by show X.w.heap.size<=(X.w.heap.push _).size;simp,fun b hb=>⟨by show(X.w.heap.push _)[b]? =_;rw[aaP,ZH (by omega)],rfl⟩⟩
 have hgb:∀b n,X.g b=some n->b < (X.w.alloc (.cells arr el)).heap.size:=fun b n hb=>by have:=hs.gb b n hb;show b < (X.w.heap.push _).size;simp;omega
 have hnew:=hs.new hn hgb;have hgk:X.g X.w.heap.size=none:=by
  cases hg:X.g X.w.heap.size with
  |none=>rfl
  |some n=>have:=hs.gb _ _ hg;omega
 have hhk:(X.w.alloc (.cells arr el)).heap[X.w.heap.size]? =some (.cells arr el):=by show(X.w.heap.push _)[_]? =_;simp
 have hb:eN F ⟨X.w.alloc (.cells arr el),X.g⟩ X.w.heap.size cs:=by refine ef.box ⟨hgk,fun hF=>aa1 _ (hs.fb _ hF),arr,el,(0,0),hhk,h2,fun o=> ?_,fun i u x hu hx=>(h3 i u x hu hx).mono (hn.pres hs.gb)⟩;show(X.w.alloc (.cells arr el)).frozen? ⟨X.w.heap.size,o,none⟩=false;simp only[World.frozen?,hhk];simp
 refine cX h1 ⟨⟨X.w.alloc (.cells arr el),X.g⟩,_,rfl,hR X.w.heap.size (fun q hq e1=> ?_),?_,hn.ext hs.gb hs.fb⟩
 ·obtain⟨k,cs'⟩:=q;simp only at e1;subst e1;have:∀ {l:List (Nat × List AV)} {k:Nat} {c:List AV},(k,c)∈l->∃c',look l k=some c':=by
   intro l
   induction l with
   |nil=>intro k c h;cases h
   |cons p l ih=>
    intro k c h;obtain⟨k0,c0⟩:=p;by_cases e2:k=k0
    ·exact⟨c0,by rw[ae,ZI e2]⟩
    ·rcases ZY.1 h with h|h
     ·cases h;exact absurd rfl e2
     ·obtain⟨c',h'⟩:=ih h;exact⟨c',by rw[ae,ZH e2];exact h'⟩
  obtain⟨c',h'⟩:=this hq;exact aa1 _ (hs.box _ _ h').lt
 ·rw[hdst];exact(hnew.box1 hb hp).put_new (bJ hd) (New.refl _) hgb (.v _) (FreshOk.plain rfl)
def Cw{x y:Operand}{t ty e:TypeId}{pos:String}{af:Array Edge}{g:Option (Nat × Bool)}{d:Nat}{sz by_ n c:Nat}{kx ky:IntKind}{zv:Value}(hx:opV O x=some (.v (.int kx (n:Int))))(hy:opV O y=some (.v (.int ky (c:Int))))(hn:n<=c)(ht:look T.ty t=some (.slice e))(hz:look T.sz e=some (sz,by_))(hzr:look T.zr e=some zv)(hfit:by_ * c<=281474976710656)(hc:c<=9223372036854775807)(hd:Nat.ble (d+1) O.n=true)
  {R:AS->Prop} (hR:∀k,gy k O.h->R ((O.box k ((madeCells zv.cells (c * sz)).toList.map .v)).put d (.v (.slice (some ⟨k,0,none⟩) n c)))):dM P ⟨some d,.makeSlice t x y,ty,pos,af,g⟩ O R:=by
 refine wy (fun k=>.slice (some ⟨k,0,none⟩) n c) rfl hd (fun u hu=> ?_) (fun F X a hs=> ?_) hR
 ·obtain⟨v,_,rfl⟩:=ZW.1 hu;rfl
 ·obtain⟨i,hi1,hi2⟩:=T.zrOk _ _ hzr;obtain⟨i',hj1,hj2,hj3,_⟩:=T.szOk _ _ _ hz;rw[hi1] at hj1;cases hj1;have e1:=cE (cC hs hx);have e2:=cE (cC hs hy);have hb:(i.bytes:Int) * (c:Int)<=281474976710656:=by
   rw[hj3];have h:((by_ * c:Nat):Int)<=281474976710656:=by omega
   rwa [Int.natCast_mul] at h
  have hr:=run_make (P:=P) X.w t e i zv (T.tyOk _ _ ht) hi1 hi2 kx ky (n:Int) (c:Int) (by omega) (by omega) hb (by omega);simp only[Int.toNat_natCast] at hr;refine⟨madeCells zv.cells (c * i.size),e,?_,by simp[hj2],fun q u v hu hv=> ?_⟩
  ·simp only[execOp,e1,e2];exact bd hr
  ·rw[aao,<- hj2,aay,hv] at hu;cases hu;exact .v v
def nh{x y:Operand}{t ty e:TypeId}{pos:String}{af:Array Edge}{g:Option (Nat × Bool)}{dd:Option Tmp}{sz by_ k o n c i:Nat}{ki:IntKind}(hx:opV O x=some (.v (.slice (some ⟨k,o,none⟩) n c)))(hy:opV O y=some (.v (.int ki (i:Int))))(ht:look T.ty t=some (.slice e))(hz:look T.sz e=some (sz,by_))(hi:i < n):
  OpV P ⟨dd,.indexAddr t x y,ty,pos,af,g⟩ O (.v (.pointer (some ⟨k,o+i * sz,none⟩))):=by
 refine aQ rfl fun F X a hs=> ?_;obtain⟨it,hi1,hi2,hi3,_⟩:=T.szOk _ _ _ hz;have e1:=cE (cO hs (by simp[Op.operands]) hx);have e2:=cE (cO hs (by simp[Op.operands]) hy);refine⟨_,?_,.v _⟩;simp only[execOp,e1,e2];have hu:=T.tyOk _ _ ht;have h1:¬((i:Int) < 0):=by omega
 have h2:(i:Int) < (n:Int):=by omega
 refine bd ?_;simp[Instr.indexAt,asIntOf,run_underlying hu,sizeOf,typeInfo,hi1,hi2,h1,h2,e9];intro h;omega
def zV{α:Type}:∀ {L:List (List α)},(∀r∈L,r.length=1)->∀i:Nat,L.flatten[i]? =(L[i]?).bind fun r=>r[0]?
 | [],_,i=>by simp
 |r::L,h,i=>by
  have h1:=h r ZP
  match r,h1 with
  | [x],_=>
    cases i with
    |zero=>simp
    |succ i=>simpa using zV (fun q hq=>h q (ZM _ hq)) i
def oU{α:Type}:∀ {L:List (List α)},(∀r∈L,r.length=1)->L.flatten.length=L.length
 | [],_=>rfl
 |r::L,h=>by have h1:=h r ZP;have h2:=oU fun q hq=>h q (ZM _ hq);simp only[List.flatten_cons,List.length_append,List.length_cons,h2];omega
def Aa{ps:Array (Nat × Operand)}{t ty e:TypeId}{pos:String}{af:Array Edge}{g:Option (Nat × Bool)}{d len sz by_:Nat}{us:List AV}(hsz1:sz=1)(ht:look T.ty t=some (.slice e))(hz:look T.sz e=some (sz,by_))(hp:oG ps.toList 0=true)(hl:Nat.beq len ps.toList.length=true)(hx:tQ O (ps.toList.map (·.2))=some us)
  (hc:us.all (fun u=>u.okc && Nat.beq u.cells.length sz)=true) (hpl:∀u∈(us.map AV.cells).flatten,de (some u)=none) (hm:Nat.ble (len * sz) 16777216=true) (hd:Nat.ble (d+1) O.n=true) {R:AS->Prop} (hR:∀k,gy k O.h->R ((O.box k (us.map AV.cells).flatten).put d (.v (.slice (some ⟨k,0,none⟩) len len)))):
  dM P ⟨some d,.buildSlice t len ps,ty,pos,af,g⟩ O R:=by
 refine wy (fun k=>.slice (some ⟨k,0,none⟩) len len) rfl hd (fun u hu=>hpl u hu) (fun F X a hs=> ?_) hR;obtain⟨i,hi1,hi2,hi3,zv,hi4,hi5⟩:=T.szOk _ _ _ hz;have hlen:=ZK hl;have hle:=ZS hm;obtain⟨g1,g2⟩:=nP hx;simp only[List.length_map] at g1
 have hmem:∀p∈ps.toList,p.2∈(Op.buildSlice t len ps).operands.toList:=fun p hp=>by simp only[Op.operands];exact ZW.2 ⟨p,hp,rfl⟩
 have hrel:∀ (q:Nat) v,(ps.toList.map fun p=>a.eval p.2)[q]? =some v->∃u,us[q]? =some u/\Rel X u v:=by intro q v hv;simp only[List.getElem?_map,Option.map_eq_some_iff] at hv;obtain⟨p,hpq,rfl⟩:=hv;obtain⟨u,h1,h2⟩:=g2 q p.2 (by simp[List.getElem?_map,hpq]);exact⟨u,h1,cC hs h2⟩
 have hcell:∀ (q:Nat) u,us[q]? =some u->u.okc=true/\u.cells.length=sz:=by intro q u hu;have:=ZL.1 hc u (ZQ hu);simp only[Bool.and_eq_true] at this;exact⟨this.1,ZK this.2⟩
 have hrc:∀ (q:Nat) u v,us[q]? =some u->Rel X u v->u.cells.length=v.cells.size/\∀ (j:Nat) c y,u.cells[j]? =some c->v.cells[j]? =some y->Rel X c y:=by
  intro q u v hu hr;refine lN hr fun xs hxs=> ?_;have hk:=(hcell q u hu).1;subst hxs;cases hr with
  |ag us xs hl hr=>exact⟨us,rfl⟩
  |v=>cases hk
 let vs:=ps.toList.map fun p=>a.eval p.2
 have hvl:vs.length=us.length:=by simp[vs,g1]
 have hvs:∀v∈vs,v.cells.size=sz:=by intro v hv;obtain⟨q,hq⟩:=aab hv;obtain⟨u,h1,h2⟩:=hrel q v hq;rw[<- (hrc q u v h1 h2).1];exact(hcell q u h1).2
 let z0:Array Value:=if len * sz=0 then #[] else zv.cells
 let init:Array Value:=(Array.range (len * sz)).map (z0[· % z0.size]!)
 obtain⟨cells',f1,f2,f3,f4⟩:=vz sz vs 0 init hvs (by simp[init,hvl,g1,hlen]);have hlv:vs.length=len:=by rw[hvl,g1,hlen]
 have hw:(execOp a.eval ⟨some d,.buildSlice t len ps,ty,pos,af,g⟩).run P X.w=.ok (.value (.slice (some ⟨X.w.heap.size,0,none⟩) len len)) (X.w.alloc (.cells cells' e)):=by
  simp only[execOp];refine bd ?_;have hparts:(ps.map fun p=>(p.1,a.eval p.2)).toList=(vs.zipIdx 0).map fun p=>(p.2,p.1):=by rw[Array.toList_map];exact iD hp
  have hnot:¬len * sz > 16777216:=by omega
  simp only[init,z0] at f1;have hparts':(Array.map (fun x=>match x with| (i,x)=>(i,a.eval x)) ps).toList=(vs.zipIdx 0).map fun p=>(p.2,p.1):=hparts;have hzero:∀w:World,(zeroValue e).run P w=.ok zv w:=fun w=>by simp[zeroValue,typeInfo,hi1,hi4]
  by_cases h0:len * sz=0
  ·simp only[h0,if_true] at f1;have hpz:ps.toList.map (fun p=>(p.1,a.eval p.2))=(vs.zipIdx 0).map fun p=>(p.2,p.1):=iD hp;simp at f1;simp[Instr.buildSlice,run_underlying (T.tyOk _ _ ht),sizeOf,typeInfo,hi1,hi2,h0,hpz,f1,newRow,newObj,Sem.run]
  ·rw[ZH h0] at f1;have hpz:ps.toList.map (fun p=>(p.1,a.eval p.2))=(vs.zipIdx 0).map fun p=>(p.2,p.1):=iD hp;simp[Instr.buildSlice,run_underlying (T.tyOk _ _ ht),sizeOf,hzero,typeInfo,hi1,hi2,h0,hle,hpz,f1,newRow,newObj,Sem.run]
 have hrow:∀r∈us.map AV.cells,r.length=1:=fun r hr=>by obtain⟨u,hu,rfl⟩:=ZW.1 hr;obtain⟨q,hq⟩:=aab hu;rw[(hcell q u hq).2,hsz1]
 refine⟨cells',e,hw,?_,fun q u v hu hv=> ?_⟩
 ·rw[oU hrow,f2,Z3,<- hvl,hlv];simp[init,hsz1]
 ·rw[zV hrow] at hu;simp only[List.getElem?_map] at hu;cases hq:us[q]? with
  |none=>rw[hq] at hu;cases hu
  |some u0=>
   rw[hq] at hu;have hu':u0.cells[0]? =some u:=hu;have hql:q < vs.length:=by rw[hvl];exact(ZD.1 hq).1
   obtain⟨u1,k1,k2⟩:=hrel q vs[q] (ZE hql);rw[hq] at k1;cases k1;have h6:=f3 q 0 vs[q] (ZE hql) (by omega);have hsz:=hvs vs[q] (aaD hql);have hy:vs[q].cells[0]? =some vs[q].cells[0] :=ZV (by omega);have hix:q * sz+0=q:=by rw[hsz1];omega
   rw[Z6,hy,hix] at h6;rw[hv] at h6;cases h6;exact(hrc q u0 vs[q] hq k2).2 0 u _ hu' hy
def zD{x y:Operand}{t u ty e:TypeId}{pos:String}{af:Array Edge}{g:Option (Nat × Bool)}{d by_ k n c:Nat}{cs:List AV}{m:List (List AV)}{du:TypeDesc}(hx:opV O x=some (.v (.slice (some ⟨k,0,none⟩) n c)))(hb:look O.h k=some cs)(hmp:fU cs=false)(ht:look T.ty t=some (.slice e))(hu:look T.ty u=some du)(hnz:du=.string\/∃e',du=.slice e')(hz:look T.sz e=some (1,by_))
  (hadd:∀F X (a:Act),SimE F X O a.tmps->∃q,AddsA P X 1 m (a.eval y) q) (hroom:n+m.length<=c) (hfit:n+m.length<=cs.length) (hd:Nat.ble (d+1) O.n=true) (hpl:io m.flatten)
  {R:AS->Prop} (hR:R ((O.setc k (cF cs n m.flatten)).put d (.v (.slice (some ⟨k,0,none⟩) (n+m.length) c)))):
  dM P ⟨some d,.call { callee:=.builtin .append,args:= #[x,y],argTypes:= #[t,u] },ty,pos,af,g⟩ O R:=by
 intro F X a hs;obtain⟨i,hi1,hi2,hi3,zv,hi4,hi5⟩:=T.szOk _ _ _ hz;obtain⟨q,hadd⟩:=hadd F X a hs;have e1:=cE (cC hs hx);have hA:Adds P X.w i.size m.length (a.eval y) (rowCells 1 m.length q):=⟨hadd.len,by rw[hi2];exact hadd.first,by rw[hi2];exact bZ _ _ _⟩
 obtain⟨b1,b2,arr,el,fr,b3,b4,b5,b6⟩:=(hs.box k cs hb).cells hmp;have hrl:=bZ 1 m.length q;rw[abB] at hrl;have hcell:∀j,j < (rowCells 1 m.length q).length->(X.w.cell? ⟨k,n * i.size+j,none⟩).isSome=true:=by
  intro j hj;rw[hrl] at hj;have:n * i.size+j < arr.size:=by rw[hi2,b4];omega
  simp[World.cell?,b3,this]
 have hrun:=ns (P:=P) (ty:=ty) (b:=k) (sLen:=n) (sCap:=c) (T.tyOk _ _ ht) (T.tyOk _ _ hu) hnz hi1 hA hadd.one hroom hcell (fun j _=>b5 _);rw[hi2,abB] at hrun;have hml:m.flatten.length=m.length:=oU hadd.rows
 obtain⟨s1,s2⟩:=SimE.setc (cs:=cs) (us:=m.flatten) (vs:=rowCells 1 m.length q) (o:=n) hs hb (by rw[hml];exact hfit) (by rw[hrl,hml]) (fun j u v hu hv=>by
  rw[zV hadd.rows] at hu;cases hr:m[j]? with
  |none=>rw[hr] at hu;cases hu
  |some r=>rw[hr] at hu;have hj:=(ZD.1 hr).1;have h0:=jN (sz:=1) (n:=m.length) (c:=q) (i:=j) (j:=0) hj (by decide);rw[show j * 1+0=j by omega,hv] at h0;cases h0;exact hadd.rel j 0 r u hr hu) (fun j sz l v ho=>by
  cases hi:m.flatten[j]? with
  |none=>rw[hi] at ho;cases ho
  |some u=>rw[hi,hpl u (ZQ hi)] at ho;cases ho) (fun j j' p q ho=>by
  cases hi:m.flatten[j]? with
  |none=>rw[hi] at ho;cases ho
  |some u=>rw[hi,hpl u (ZQ hi)] at ho;cases ho) hmp
 refine cX (x:=.slice (some ⟨k,0,none⟩) (n+m.length) c) (w':=X.w.setCells k n (rowCells 1 m.length q)) (dh (by rw[e1]) rfl hrun) ⟨⟨X.w.setCells k n (rowCells 1 m.length q),X.g⟩,_,rfl,hR,?_,s2⟩;exact s1.put_new (bJ hd) (New.refl _) s1.gb (.v _) (FreshOk.plain rfl)
end
def Pf{P:Program}{Q:Exit->AS->Prop}{c:Code}{ks:List It}{O σ':AS}(h:br P Q (.c c::ks) σ')(hs:∀F X tm,SimE F X O tm->∃X':GW,X'.w=X.w/\SimE F X' σ' tm/\Ext F X X'):br P Q (.c c::ks) O:=fun F X a hsim D hd=>by obtain⟨X',hw,h1,h2⟩:=hs F X _ hsim;have h3:=h F X' a h1 D hd;rw[hw] at h3;exact wp_mono h3 fun _ _ _ hp=>hp.ext h2
def jH{α:Type}{k j:Nat}{u:α}:∀ {l:List (Nat × α)},look (l.filter fun p=> !(p.1==k)) j=some u->j≠k/\look l j=some u
 | [],h=>by simp[aP] at h
 | (a,b)::r,h=>by
   rw[abc] at h;by_cases ha:a=k
   ·rw[ZH (by simp[ha])] at h;obtain⟨h1,h2⟩:=jH h;refine⟨h1,?_⟩;rw[ae,ZH (fun e=>h1 (e.trans ha))];exact h2
   ·rw[ZI (by simp[ha]),ae] at h;by_cases hj:j=a
    ·rw[ZI hj] at h;refine⟨fun e=>ha (hj.symm.trans e),?_⟩;rw[ae,ZI hj];exact h
    ·rw[ZH hj] at h;obtain⟨h1,h2⟩:=jH h;refine⟨h1,?_⟩;rw[ae,ZH hj];exact h2
def yN{sz:Nat}:∀ {L:List (List AV)} (hsz:∀r∈L,r.length=sz) {i j:Nat} {r:List AV} {u:AV},L[i]? =some r->r[j]? =some u->L.flatten[i * sz+j]? =some u
 | [],_,i,j,r,u,h,_=>by simp at h
 |x::L,hsz,i,j,r,u,h,hu=>by
  have hx:=hsz x (by simp);cases i with
  |zero=>simp at h;subst h;rw[aag,abg,Z6,ZO (ZD.1 hu).1];exact hu
  |succ i=>have ih:=yN (L:=L) (fun r hr=>hsz r (by simp[hr])) (i:=i) (j:=j) (by simpa using h) hu;rw[aag,ZJ (by rw[aaK,hx];omega),hx,show(i+1) * sz+j - sz=i * sz+j by rw[aaK];omega];exact ih
def tK{sz:Nat}:∀ {L:List (List AV)},(∀r∈L,r.length=sz)->L.flatten.length=L.length * sz
 | [],_=>by simp
 |x::L,h=>by rw[aag,ZR,tK fun r hr=>h r (by simp[hr]),h x (by simp),abm,aaK];omega
structure SrcA (P:Program) (X:GW) (sz N q:Nat) (us:List AV) (x:Value) (vs:List Value):Prop where
 len:(Builtin.lenOf x).run P X.w=.ok N X.w
 first:∀w',w'.heap=X.w.heap->(Builtin.firstCells sz q x).run P w'=.ok vs.toArray w'
 lv:vs.length=q * sz
 lu:us.length=q * sz
 rel:∀ (i:Nat) u v,us[i]? =some u->vs[i]? =some v->Rel X u v
 one:∀v∈vs,v.oneCell'=true
def D8{X:GW}{u1 u2:List AV}{v1 v2:List Value}(hl:u1.length=v1.length)(h1:∀ (i:Nat) u v,u1[i]? =some u->v1[i]? =some v->Rel X u v)(h2:∀ (i:Nat) u v,u2[i]? =some u->v2[i]? =some v->Rel X u v):∀ (i:Nat) u v,(u1++u2)[i]? =some u->(v1++v2)[i]? =some v->Rel X u v:=fun i u v hu hv=>by
 by_cases hi:i < u1.length
 ·rw[ZO hi] at hu;rw[ZO (by omega)] at hv;exact h1 i u v hu hv
 ·rw[ZJ (by omega)] at hu;rw[ZJ (by omega),<- hl] at hv;exact h2 _ u v hu hv
def G8{sz:Nat}(h0:0 < sz):∀ {L:List (List AV)},(∀r∈L,r.length=sz)->∀ {i:Nat} {u:AV},L.flatten[i]? =some u->∃r,L[i / sz]? =some r/\r[i % sz]? =some u
 | [],_,i,u,h=>by simp at h
 |x::L,hsz,i,u,h=>by
  have hx:=hsz x (by simp);rw[aag] at h;by_cases hi:i < sz
  ·rw[ZO (by omega)] at h;rw[abr hi,abD hi];exact⟨x,rfl,h⟩
  ·rw[ZJ (by omega),hx] at h;obtain⟨r,h1,h2⟩:=G8 h0 (L:=L) (fun r hr=>hsz r (by simp[hr])) h;have e1:i / sz=(i - sz) / sz+1:=by have:=Nat.add_div_right (i - sz) h0;rw[show i - sz+sz=i by omega] at this;exact this
   have e2:i % sz=(i - sz) % sz:=by rw[Nat.mod_eq_sub_mod (by omega)]
   rw[e1,e2];exact⟨r,by simpa using h1,h2⟩
section
variable {P:Program} {T:Tys P} {O:AS} {X:GW}
def JY{o:Bool}{sz:Nat}(h0:0 < sz){m:List (List AV)}{v:Value}(h:Rel X (.sl o sz m) v)(h1:∀r∈m,∀u∈r,u.one=true):∃vs,SrcA P X sz m.length m.length m.flatten v vs:=by
 have hrows:=qp h;obtain⟨c,hc⟩:=u5 (P:=P) h fun r hr=>⟨hrows r hr,h1 r hr⟩
 refine⟨rowCells sz m.length c,hc.len,hc.first,bZ _ _ _,tK hrows,fun i u v hu hv=> ?_,hc.one⟩;obtain⟨r,k1,k2⟩:=G8 h0 hrows hu;have h3:=jN (sz:=sz) (n:=m.length) (c:=c) (ZD.1 k1).1 (Nat.mod_lt i h0);rw[show i / sz * sz+i % sz=i by rw[aa5];exact Nat.div_add_mod i sz,hv] at h3;cases h3;exact hc.rel _ _ _ _ k1 k2
def GF{F:Nat->Prop}{tm:Array Value}(h:SimE F X O tm){k off sz n c q:Nat}{cs:List AV}(hb:look O.h k=some cs)(hm:fU cs=false)(hl:off+q * sz<=cs.length)(h1:∀u∈(cs.drop off).take (q * sz),u.one=true):∃vs,SrcA P X sz n q ((cs.drop off).take (q * sz)) (.slice (some ⟨k,off,none⟩) n c) vs:=by
 obtain⟨b1,b2,arr,el,fr,b3,b4,b5,b6⟩:=(h.box k cs hb).cells hm;have hll:((arr.toList.drop off).take (q * sz)).length=q * sz:=by rw[aa2,abd,aaW,b4];omega
 refine⟨(arr.toList.drop off).take (q * sz),rfl,fun w' hw=> ?_,hll,by rw[aa2,abd];omega,fun i u v hu hv=> ?_,fun v hv=> ?_⟩
 ·refine run_firstCells_some (P:=P) w' sz q ⟨k,off,none⟩ n c _ hll (fun j v hv=> ?_);rw[e9];rw[ZX] at hv;split at hv
  ·rw[aaq,aay] at hv;simp only[World.cell?,hw,b3];exact hv
  ·cases hv
 ·rw[ZX] at hu hv;split at hu
  ·rename_i hi;rw[ZI hi] at hv;rw[aaq] at hu hv;exact b6 _ _ _ hu (by simpa using hv)
  ·cases hu
 ·obtain⟨i,hi⟩:=aab hv;rw[ZX] at hi;split at hi
  ·rename_i hiq;rw[aaq,aay] at hi;have hlt:=(ZU.1 hi).1;have hc:cs[off+i]? =some (cs[off+i]'(by omega)):=ZE (by omega);exact AV.one_rel (b6 _ _ _ hc hi) (h1 _ (ZQ (i:=i) (by rw[ZX,ZI hiq,aaq];exact hc)))
  ·cases hi
variable {t u ty e:TypeId} {x y:Operand} {pos:String} {af:Array Edge} {g:Option (Nat × Bool)}
def Ab{d k n c by_ sz N:Nat}{cs us:List AV}{du:TypeDesc}(hx:opV O x=some (.v (.slice (some ⟨k,0,none⟩) n c)))(hb:look O.h k=some cs)(hmp:fU cs=false)(ht:look T.ty t=some (.slice e))(hu:look T.ty u=some du)(hnz:du=.string\/∃e',du=.slice e')(hz:look T.sz e=some (sz,by_))
  (hsrc:∀F X (a:Act),SimE F X O a.tmps->∃vs,SrcA P X sz N N us (a.eval y) vs) (hroom:n+N<=c) (hl:n * sz+N * sz<=cs.length) (hpl:io us) (hd:Nat.ble (d+1) O.n=true)
  {R:AS->Prop} (hR:R ((O.setc k (cF cs (n * sz) us)).put d (.v (.slice (some ⟨k,0,none⟩) (n+N) c)))):dM P ⟨some d,.call { callee:=.builtin .append,args:= #[x,y],argTypes:= #[t,u] },ty,pos,af,g⟩ O R:=by
 intro F X a hs;have e1:=cE (cC hs hx);obtain⟨vs,hv⟩:=hsrc F X a hs;obtain⟨i,hi1,hi2,hi3,zv,hi4,hi5⟩:=T.szOk _ _ _ hz;obtain⟨b1,b2,arr,el,fr,b3,b4,b5,b6⟩:=(hs.box k cs hb).cells hmp
 have hrun:=ns (P:=P) (ty:=ty) (b:=k) (sLen:=n) (sCap:=c) (T.tyOk _ _ ht) (T.tyOk _ _ hu) hnz hi1 (x:=a.eval y) (m:=N) (news:=vs) ⟨hv.len,by rw[hi2];exact hv.first,by rw[hi2];exact hv.lv⟩ hv.one hroom (fun j hj=>by
  rw[hv.lv] at hj;have:n * i.size+j < arr.size:=by rw[hi2,b4];omega
  simp[World.cell?,b3,this]) (fun j _=>b5 _)
 rw[hi2] at hrun;obtain⟨s1,s2⟩:=SimE.setc (cs:=cs) (us:=us) (vs:=vs) hs hb (by rw[hv.lu];exact hl) (by rw[hv.lv,hv.lu]) hv.rel (fun j sz' l v ho=>by
  cases hi:us[j]? with
  |none=>rw[hi] at ho;cases ho
  |some u0=>rw[hi,hpl u0 (ZQ hi)] at ho;cases ho) (fun j j' p q ho=>by
  cases hi:us[j]? with
  |none=>rw[hi] at ho;cases ho
  |some u0=>rw[hi,hpl u0 (ZQ hi)] at ho;cases ho) hmp
 refine cX (x:=.slice (some ⟨k,0,none⟩) (n+N) c) (w':=X.w.setCells k (n * sz) vs) (dh e1 rfl hrun) ⟨_,_,rfl,hR,?_,s2⟩;exact s1.put' (by show d < O.n;exact bJ hd) (.v _) (fun sz l h=>by cases h) (fun r sz l sz' l' q n c q' n' c' h1 h2=>by cases h2)
def wo{o:Oper}{d nn:Nat}{us0:List AV}{Fact:Nat->List AV->Prop}(hdst:o.dst=some d)(hd:Nat.ble (d+1) O.n=true)(hp:∀cap sp,Fact cap sp->io (us0++sp))
  (hrun:∀F X (a:Act),SimE F X O a.tmps->∃ (arr:Array Value) (el:TypeId) (cap:Nat) (sp:List AV),Fact cap sp/\(execOp a.eval o).run P X.w=.ok (.value (.slice (some ⟨X.w.heap.size,0,none⟩) nn cap)) (X.w.drew.alloc (.cells arr el))/\arr.size=(us0++sp).length/\∀ (i:Nat) u x,(us0++sp)[i]? =some u->arr[i]? =some x->Rel X u x)
  {R:AS->Prop} (hR:∀k cap sp,gy k O.h->Fact cap sp->R ((O.box k (us0++sp)).put d (.v (.slice (some ⟨k,0,none⟩) nn cap)))):dM P o O R:=by
 intro F X a hs;obtain⟨arr,el,cap,sp,hF,h1,h2,h3⟩:=hrun F X a hs;have hn:New X ⟨X.w.drew.alloc (.cells arr el),X.g⟩:=⟨rfl,rfl,rfl,by show X.w.heap.size<=(X.w.heap.push _).size;simp,fun b hb=>⟨by show(X.w.heap.push _)[b]? =_;rw[aaP,ZH (by omega)],rfl⟩⟩
 have hgb:∀b n,X.g b=some n->b < (X.w.drew.alloc (.cells arr el)).heap.size:=fun b n hb=>by have:=hs.gb b n hb;show b < (X.w.heap.push _).size;simp;omega
 have hnew:=hs.new hn hgb;have hgk:X.g X.w.heap.size=none:=by
  cases hg:X.g X.w.heap.size with
  |none=>rfl
  |some n=>have:=hs.gb _ _ hg;omega
 have hhk:(X.w.drew.alloc (.cells arr el)).heap[X.w.heap.size]? =some (.cells arr el):=by show(X.w.heap.push _)[_]? =_;simp
 have hb:eN F ⟨X.w.drew.alloc (.cells arr el),X.g⟩ X.w.heap.size (us0++sp):=by refine ef.box ⟨hgk,fun hF=>aa1 _ (hs.fb _ hF),arr,el,(0,0),hhk,h2,fun o=> ?_,fun i u x hu hx=>(h3 i u x hu hx).mono (hn.pres hs.gb)⟩;show(X.w.drew.alloc (.cells arr el)).frozen? ⟨X.w.heap.size,o,none⟩=false;simp only[World.frozen?,hhk];simp
 refine cX h1 ⟨⟨X.w.drew.alloc (.cells arr el),X.g⟩,_,rfl,hR X.w.heap.size cap sp (fun q hq e1=> ?_) hF,?_,hn.ext hs.gb hs.fb⟩
 ·obtain⟨k,cs'⟩:=q;simp only at e1;subst e1;have:∀ {l:List (Nat × List AV)} {k:Nat} {c:List AV},(k,c)∈l->∃c',look l k=some c':=by
   intro l
   induction l with
   |nil=>intro k c h;cases h
   |cons p l ih=>
    intro k c h;obtain⟨k0,c0⟩:=p;by_cases e2:k=k0
    ·exact⟨c0,by rw[ae,ZI e2]⟩
    ·rcases ZY.1 h with h|h
     ·cases h;exact absurd rfl e2
     ·obtain⟨c',h'⟩:=ih h;exact⟨c',by rw[ae,ZH e2];exact h'⟩
  obtain⟨c',h'⟩:=this hq;exact aa1 _ (hs.box _ _ h').lt
 ·rw[hdst];exact(hnew.box1 hb (hp cap sp hF)).put_new (bJ hd) (New.refl _) hgb (.v _) (FreshOk.plain rfl)
end
def Df{Q:Exit->AS->Prop}{ks:List It}{P:Program}{O:AS}{l:List Oper}{k:Nat}{o:Oper}{rest:List Oper}{d:Nat}(ho:l[k]? =some o)(hw:fH l O o=true)(hdst:o.dst=some d)(hd:Nat.ble (d+1) O.n=true)
  (hn:br P Q (.o l (k+1) rest::ks) (AS.nf (O.put d (.v undef)))):br P Q (.o l k (o::rest)::ks) O:=by
 intro F X a hs D hdf;have hk:k < l.length:=(ZD.1 ho).1;rw[kP hk];have ho':(l.toArray)[k]? =some o:=by simpa using ho
 simp only[wpOps,ho'];rw[ZH (by rw[ye hs hw];simp)];refine hn F X (a.put o.dst undef) ?_ D (by rw[eG];exact hdf);rw[hdst];exact hs.put_new (bJ hd) (New.refl X) hs.gb (.v _) (FreshOk.plain rfl)
section
variable {P:Program} {T:Tys P} {O:AS} {t ty:TypeId} {x y z:Operand} {pos:String} {af:Array Edge} {g:Option (Nat × Bool)}
def imap(l:List (Int × AV)):AV:=.mp (l.map fun p=>(.int .i64 p.1,p.2))
def iget(l:List (Int × AV))(k:Int):Option AV:=match l with
 | [] =>none
 | (k',u)::r=>if k=k' then some u else iget r k
def iset(l:List (Int × AV))(k:Int)(u:AV):List (Int × AV):=match l with
 | [] =>[(k,u)]
 | (k',u')::r=>if k=k' then(k,u)::r else(k',u')::iset r k u
def rA(k:Int):∀ (l:List (Int × AV)) (es:List MapEntry) (i:Nat),es.length=l.length->(∀ (j:Nat) (e:MapEntry) p,l[j]? =some p->es[j]? =some e->e.key=.int .i64 p.1)->
  (iget l k=none/\Instr.findNow (.int .i64) (.int .i64 k) es i=some none/\∀u,iset l k u=l++ [(k,u)])\/∃ (j:Nat) (e:MapEntry) (u:AV),l[j]? =some (k,u)/\es[j]? =some e/\iget l k=some u/\Instr.findNow (.int .i64) (.int .i64 k) es i=some (some (i+j,e.val))/\∀u',iset l k u'=l.set j (k,u')
 | [],es,i,hl,hk=>by have:es=[] :=aal.1 hl;subst this;exact .inl ⟨rfl,rfl,fun u=>rfl⟩
 | (k',u0)::l,[],i,hl,hk=>by simp at hl
 | (k',u0)::l,e::es,i,hl,hk=>by
   have h0:=hk 0 e (k',u0) rfl rfl;simp only at h0;by_cases e1:k=k'
   ·subst e1;refine .inr ⟨0,e,u0,rfl,rfl,by simp[iget],?_,fun u'=>by simp[iset]⟩;simp[Instr.findNow,Instr.sameNow,h0]
   ·have hs:Instr.sameNow (.int .i64) (.int .i64 k) e.key=some false:=by rw[h0];simp[Instr.sameNow,e1]
    rcases rA k l es (i+1) (by simpa using hl) (fun j e' p hp he=>hk (j+1) e' p (by simpa using hp) (by simpa using he)) with ⟨h1,h2,h3⟩| ⟨j,e',u,h1,h2,h3,h4,h5⟩
    ·exact .inl ⟨by simp[iget,e1,h1],by simp[Instr.findNow,hs,h2],fun u=>by simp[iset,e1,h3]⟩
    ·exact .inr ⟨j+1,e',u,by simpa using h1,by simpa using h2,by simp[iget,e1,h3],by simp[Instr.findNow,hs,h4];omega,fun u'=>by simp[iset,e1,h5]⟩
def lZ{w:World}{kt:TypeId}{b:Bool}{n:Int}(hk:P.underlying kt=some (.int .i64)):(Instr.checkKey b 10000 kt (.int .i64 n)).run P w=.ok () w:=MapKept.run_checkKey (k:=.int .i64 n) hk rfl b 9999
def Ct{d:Option Tmp}{kt et:TypeId}{zv:Value}{k:Nat}{l:List (Int × AV)}{key:Int}(hx:opV O x=some (.v (.map (some k))))(hb:look O.h k=some [imap l])(hy:opV O y=some (.v (.int .i64 key)))(ht:look T.ty t=some (.map kt et))(hk:look T.ty kt=some (.int .i64))(hz:look T.zr et=some zv):
  OpV P ⟨d,.lookup t x y true,ty,pos,af,g⟩ O (.tu [match iget l key with|some u=>u.rd|none=>cst zv,.v (.bool (iget l key).isSome)]):=by
 refine aQ (uO _) fun F X a hs=> ?_;have e1:=aZ hs (by simp[Op.operands]) hx;have e2:=aZ hs (by simp[Op.operands]) hy;obtain⟨g1,g2,es,ck,g3,g4,g5⟩:=(hs.box k _ hb).map;have hut:=T.tyOk _ _ ht;have huk:=T.tyOk _ _ hk;obtain⟨iz,hz1,hz2⟩:=T.zrOk _ _ hz
 have hfind:=rA key l es.toList 0 (by simpa using g4) (fun j e p hp he=>(g5 j e (.int .i64 p.1,p.2) (by simp[hp]) (by simpa using he)).1);have hck:=lZ (P:=P) (w:=X.w) (b:=es.isEmpty) (n:=key) huk;rcases hfind with ⟨h1,h2,_⟩| ⟨j,e,u,h1,h2,h3,h4,_⟩
 ·refine⟨.tuple #[zv,.bool false],?_,?_⟩
  ·simp only[execOp,e1,e2];refine bd ?_;simp[Instr.lookup,run_underlying hut,MapKept.run_getObj_map g3,hck,Instr.findKey,run_underlying huk,h2,zeroValue,typeInfo,hz1,hz2]
  ·rw[h1];refine .tu _ _ rfl fun i u x hu hx=> ?_
   match i,hu,hx with
   |0,hu,hx=>simp at hu hx;subst hu hx;exact o7 X zv
   |1,hu,hx=>simp at hu hx;subst hu hx;exact .v _
   |n+2,hu,hx=>simp at hu
 ·refine⟨.tuple #[e.val,.bool true],?_,?_⟩
  ·simp only[execOp,e1,e2];refine bd ?_;simp[Instr.lookup,run_underlying hut,MapKept.run_getObj_map g3,hck,Instr.findKey,run_underlying huk,h4]
  ·rw[h3];refine .tu _ _ rfl fun i u' x hu hx=> ?_
   match i,hu,hx with
   |0,hu,hx=>simp at hu hx;subst hu hx;exact(g5 j e (.int .i64 key,u) (by simp[h1]) (by simpa using h2)).2.rd
   |1,hu,hx=>simp at hu hx;subst hu hx;exact .v _
   |n+2,hu,hx=>simp at hu
def zY{d:Option Tmp}{kt et:TypeId}{zv:Value}{k:Nat}{l:List (Int × AV)}{key:Int}(hx:opV O x=some (.v (.map (some k))))(hb:look O.h k=some [imap l])(hy:opV O y=some (.v (.int .i64 key)))(ht:look T.ty t=some (.map kt et))(hk:look T.ty kt=some (.int .i64))(hz:look T.zr et=some zv)(hpz:(cst zv).isSl=false):
  OpV P ⟨d,.lookup t x y false,ty,pos,af,g⟩ O (match iget l key with|some u=>u.rd|none=>cst zv):=by
 refine aQ (by cases iget l key with
  |none=>exact B4 zv
  |some u=>exact eq u) fun F X a hs=> ?_
 have e1:=aZ hs (by simp[Op.operands]) hx;have e2:=aZ hs (by simp[Op.operands]) hy;obtain⟨g1,g2,es,ck,g3,g4,g5⟩:=(hs.box k _ hb).map;have hut:=T.tyOk _ _ ht;have huk:=T.tyOk _ _ hk;obtain⟨iz,hz1,hz2⟩:=T.zrOk _ _ hz
 have hfind:=rA key l es.toList 0 (by simpa using g4) (fun j e p hp he=>(g5 j e (.int .i64 p.1,p.2) (by simp[hp]) (by simpa using he)).1);have hck:=lZ (P:=P) (w:=X.w) (b:=es.isEmpty) (n:=key) huk;rcases hfind with ⟨h1,h2,_⟩| ⟨j,e,u,h1,h2,h3,h4,_⟩
 ·refine⟨zv,?_,by rw[h1];exact o7 X zv⟩;simp only[execOp,e1,e2];refine bd ?_;simp[Instr.lookup,run_underlying hut,MapKept.run_getObj_map g3,hck,Instr.findKey,run_underlying huk,h2,zeroValue,typeInfo,hz1,hz2]
 ·refine⟨e.val,?_,by rw[h3];exact(g5 j e (.int .i64 key,u) (by simp[h1]) (by simpa using h2)).2.rd⟩;simp only[execOp,e1,e2];refine bd ?_;simp[Instr.lookup,run_underlying hut,MapKept.run_getObj_map g3,hck,Instr.findKey,run_underlying huk,h4]
def CD{kt et:TypeId}{k:Nat}{l:List (Int × AV)}{key:Int}{u:AV}(hx:opV O x=some (.v (.map (some k))))(hb:look O.h k=some [imap l])(hy:opV O y=some (.v (.int .i64 key)))(hz:opV O z=some u)(ht:look T.ty t=some (.map kt et))(hk:look T.ty kt=some (.int .i64)){R:AS->Prop}(hR:R (O.setc k [imap (iset l key u.rd)])):
  dM P ⟨none,.mapUpdate t x y z,ty,pos,af,g⟩ O R:=by
 intro F X a hs;have e1:=cE (cC hs hx);have e2:=cE (cC hs hy);have e3:=(cC hs hz).rd;obtain⟨g1,g2,es,ck,g3,g4,g5⟩:=(hs.box k _ hb).map;have hut:=T.tyOk _ _ ht;have huk:=T.tyOk _ _ hk;have hfind:=rA key l es.toList 0 (by simpa using g4) (fun j e p hp he=>(g5 j e (.int .i64 p.1,p.2) (by simp[hp]) (by simpa using he)).1)
 have hck:=lZ (P:=P) (w:=X.w) (b:=false) (n:=key) huk;have hkl:k < X.w.heap.size:=(ZU.1 g3).1;have fin:∀ (es':Array MapEntry) (ck':Nat),(execOp a.eval ⟨none,.mapUpdate t x y z,ty,pos,af,g⟩).run P X.w=.ok .skip { X.w with heap:=X.w.heap.setIfInBounds k (.map es' ck') }->es'.size=(iset l key u.rd).length->
   (∀ (i:Nat) (e:MapEntry) p,((iset l key u.rd).map fun p=>(Value.int .i64 p.1,p.2))[i]? =some p->es'[i]? =some e->e.key=p.1/\Rel X p.2 e.val)->jz P ⟨none,.mapUpdate t x y z,ty,pos,af,g⟩ a X.w fun x w'=>∃ (X':GW) (σ':AS),X'.w=w'/\R σ'/\SimE F X' σ' (a.put none x).tmps/\Ext F X X':=by
  intro es' ck' hrun hsz hen
  obtain⟨s1,s2⟩:=SimE.setm (l:=l.map fun p=>(Value.int .i64 p.1,p.2)) (l':=(iset l key u.rd).map fun p=>(Value.int .i64 p.1,p.2)) (w':={ X.w with heap:=X.w.heap.setIfInBounds k (.map es' ck') }) hs hb (fun c hc=>by simp[Array.getElem?_setIfInBounds,Ne.symm hc]) (by simp) rfl rfl rfl ⟨es',ck',by simp[hkl],by simpa using hsz,hen⟩
  unfold jz;rw[hrun];exact⟨_,_,rfl,hR,s1,s2⟩
 rcases hfind with ⟨h1,h2,h3⟩| ⟨j,e,u0,h1,h2,h3,h4,h5⟩
 ·refine fin (es.push { key:=.int .i64 key,val:=a.eval z,born:=ck }) (ck+1) ?_ (by rw[h3];simp[g4]) (fun i e' p hp he=> ?_)
  ·simp only[execOp,e1,e2];simp[Instr.mapUpdate,run_underlying hut,MapKept.run_getObj_map g3,hck,Instr.findKey,run_underlying huk,h2,MapKept.run_setObj_map _ g3]
  ·rw[h3,aah] at hp;by_cases hi:i < es.size
   ·rw[ZO (by simp at g4;simp;omega)] at hp;rw[aaP,ZH (by omega)] at he;exact g5 i e' p hp he
   ·have hie:i=es.size:=by
     have:=(ZU.1 he).1;simp at this;omega
    rw[ZJ (by simp at g4;simp;omega)] at hp;rw[hie] at hp he;simp at g4 hp he;rw[g4] at hp;simp at hp;subst hp he;exact⟨rfl,e3⟩
 ·have hje:es.toList[j]? =some e:=h2;have hke:=(g5 j e (.int .i64 key,u0) (by simp[h1]) (by simpa using h2)).1;have hjl:j < es.size:=by have:=(ZD.1 h2).1;simpa using this
  refine fin (es.modify j fun e=>{ e with key:=.int .i64 key,val:=a.eval z }) ck ?_ (by rw[h5];simp at g4 ⊢;exact g4) (fun i e' p hp he=> ?_)
  ·have hst:(Instr.keyThatStays (.int .i64 key) (.int .i64 key)).run P X.w=.ok (.int .i64 key) X.w:=by
    exact MapKept.run_keyThatStays (d:=.int .i64) rfl
   have hkk:((es[j]?).map (·.key)).getD (.int .i64 key)=.int .i64 key:=by
    have:es[j]? =some e:=by simpa using h2
    rw[this];simpa using hke
   simp only[execOp,e1,e2];simp only[Nat.zero_add] at h4;simp[Instr.mapUpdate,run_underlying hut,MapKept.run_getObj_map g3,hck,Instr.findKey,run_underlying huk,h4,hkk,hst,MapKept.run_setObj_map _ g3]
  ·rw[h5,abF] at hp;rw[Array.getElem?_modify] at he;by_cases hij:j=i
   ·subst hij;rw[ZI rfl] at he;rw[aat (by simp at g4;simp;omega)] at hp;have h2':es[j]? =some e:=by simpa using h2
    rw[h2'] at he;simp at he hp;subst hp he;exact⟨rfl,e3⟩
   ·rw[ZH hij] at he;rw[aaB hij] at hp;exact g5 i e' p hp he
end
inductive Ty where
 |int (k:IntKind)
 |byte
 |bool
 |str
 |sl (t:Ty)
 |nam (i:Nat)
 |ptr (t:Ty)
 |bits (n:Nat)
 deriving DecidableEq
def Den(T:Nat->Type):Ty->Type
 |.int _=>Int
 |.byte=>UInt8
 |.bool=>Bool
 |.str=>List UInt8
 |.sl t=>List (Den T t)
 |.nam i=>T i
 |.ptr t=>Option (Den T t)
 |.bits _=>List Bool
structure Enc where
 T:Nat->Type
 enc:∀i,T i->List AV
 sz:Nat->Nat
 len:∀i z,(enc i z).length=sz i
 one:∀i z,∀u∈enc i z,u.one=true/\u.rd=u
def csz(E:Enc):Ty->Nat
 |.nam i=>E.sz i
 |.bits n=>n
 |_=>1
def cells(E:Enc):(t:Ty)->Den E.T t->List AV
 |.int k,x=>[.v (.int k x)]
 |.byte,b=>[.v (.int .u8 (UInt8.toNat b))]
 |.bool,b=>[.v (.bool b)]
 |.str,s=>[.v (.string (mkB s))]
 |.sl t,l=>[.sl false (csz E t) (List.map (cells E t) l)]
 |.nam i,z=>E.enc i z
 |.ptr _,none=>[.v (.pointer none)]
 |.ptr t,some y=>[.el (cells E t y)]
 |.bits n,l=>(List.range n).map fun i=>.v (.bool (List.getD l i false))
def one(E:Enc)(t:Ty)(x:Den E.T t):AV:=
 match t,x with
 |.nam i,z=>.ag (E.enc i z)
 |.bits n,l=>.ag (cells E (.bits n) l)
 |t,x=>(cells E t x).headD (.v undef)
def eH(E:Enc)(t:Ty)(x:Den E.T t):(cells E t x).length=csz E t:=by
 cases t with
 |nam i=>exact E.len i x
 |ptr t=>cases x<;> rfl
 |bits n=>simp[cells,csz]
 |_=>rfl
def jg(E:Enc)(t:Ty)(x:Den E.T t):∀u∈cells E t x,u.one=true/\u.rd=u:=by
 cases t with
 |bits n=>intro u hu;have hu':u∈(List.range n).map fun i=>AV.v (.bool (List.getD (show List Bool from x) i false)):=hu;obtain⟨i,_,rfl⟩:=ZW.1 hu';exact⟨rfl,rfl⟩
 |nam i=>exact E.one i x
 |ptr t=>cases x<;> (intro u hu;simp only[cells,List.mem_singleton] at hu;subst hu;exact⟨rfl,rfl⟩)
 |_=>intro u hu;simp only[cells,List.mem_singleton] at hu;subst hu;exact⟨rfl,rfl⟩
def Ty.lone:Ty->Bool
 |.nam _=>false
 |.bits _=>false
 |_=>true
def oS(E:Enc){t:Ty}(h:t.lone=true)(x:Den E.T t):cells E t x=[one E t x] :=by
 cases t with
 |nam i=>cases h
 |bits n=>cases h
 |ptr t=>cases x<;> rfl
 |_=>rfl
def sX(E:Enc)(t:Ty)(x:Den E.T t):(one E t x).rd=one E t x:=by
 cases t with
 |ptr t=>cases x<;> rfl
 |_=>rfl
structure Bk where
 b:Nat
 nil:Bool
 sp:List Value
structure Rn where
 k:Nat->Bk
def Rn.zero:Rn:=⟨fun _=>⟨0,false,[]⟩⟩
def Rn.b(I:Rn)(i:Nat):Nat:=(I.k i).b
instance:CoeFun Rn (fun _=>Nat->Nat):=⟨Rn.b⟩
def nS:List Value->Option Addr
 | [.slice a _ _] =>a
 |_=>none
def vecV(b:Bk)(sz n:Nat):Value:=if(b.nil && Nat.beq n 0)=true then .slice (nS b.sp) 0 0 else .slice (some ⟨b.b,0,none⟩) n (n+b.sp.length / sz)
def pc(b:Bk)(sz off n:Nat):Value:=if(b.nil && Nat.beq (off+n) 0)=true then .slice (nS b.sp) 0 0 else .slice (some ⟨b.b,if n+b.sp.length / sz=0 then 0 else off * sz,none⟩) n (n+b.sp.length / sz)
inductive TA (T:Nat->Type) where
 |d (t:Ty) (x:Den T t)
 |own (t:Ty) (l:List (Den T t))
 |box (i off:Nat)
 |mpr (i:Nat)
 |fnb (f:FuncId) (l:List Nat)
 |raw (v:Value)
 |tt
 |ff
 |clip (t:Ty) (l:List (Den T t))
 |bsl (i off n c:Nat)
 |vec (t:Ty) (i n:Nat)
 |pel (t:Ty) (i j o:Nat)
 |vsl (t:Ty) (i off n:Nat)
inductive TC (T:Nat->Type) where
 |a (x:TA T)
 |ag (l:List (TA T))
inductive TV (T:Nat->Type) where
 |a (x:TA T)
 |ag (l:List (TA T))
 |el (l:List (TA T))
 |tu (l:List (TC T))
 |fn (f:FuncId) (l:List (TA T))
 |ifc (t:TypeId) (x:TC T)
inductive TB (T:Nat->Type) where
 |cs (l:List (TA T))
 |smap (t:Ty) (l:List (List UInt8 × Den T t))
 |row (t:Ty) (l:List (Den T t))
 |vec (i:Nat) (t:Ty) (l:List (Den T t))
 |imap (t:Ty) (l:List (Int × Den T t))
def E0{α:Type}:List (List UInt8 × α)->List UInt8->Option α
 | [],_=>none
 | (k',u)::r,k=>if k=k' then some u else E0 r k
def TG{α:Type}:List (List UInt8 × α)->List UInt8->α->List (List UInt8 × α)
 | [],k,u=>[(k,u)]
 | (k',u')::r,k,u=>if k=k' then(k,u)::r else(k',u')::TG r k u
def zO{α:Type}(f:α->AV):∀ (l:List (List UInt8 × α)) (k:List UInt8),lget (l.map fun p=>(p.1,f p.2)) k=(E0 l k).map f
 | [],k=>rfl
 | (k',u)::r,k=>by
   simp only[List.map_cons,lget,E0];split
   ·rfl
   ·exact zO f r k
def Hd{α:Type}(f:α->AV):∀ (l:List (List UInt8 × α)) (k:List UInt8) (u:α),lset (l.map fun p=>(p.1,f p.2)) k (f u)=(TG l k u).map fun p=>(p.1,f p.2)
 | [],k,u=>rfl
 | (k',u')::r,k,u=>by
   simp only[List.map_cons,lset,TG];split
   ·rfl
   ·rw[Hd f r k u];rfl
def mL{α:Type}:List (Int × α)->Int->Option α
 | [],_=>none
 | (k',u)::r,k=>if k=k' then some u else mL r k
def mJ{α:Type}:List (Int × α)->Int->α->List (Int × α)
 | [],k,u=>[(k,u)]
 | (k',u')::r,k,u=>if k=k' then(k,u)::r else(k',u')::mJ r k u
def yl{α:Type}(f:α->AV):∀ (l:List (Int × α)) (k:Int),iget (l.map fun p=>(p.1,f p.2)) k=(mL l k).map f
 | [],k=>rfl
 | (k',u)::r,k=>by
   simp only[List.map_cons,iget,mL];split
   ·rfl
   ·exact yl f r k
def Ex{α:Type}(f:α->AV):∀ (l:List (Int × α)) (k:Int) (u:α),iset (l.map fun p=>(p.1,f p.2)) k (f u)=(mJ l k u).map fun p=>(p.1,f p.2)
 | [],k,u=>rfl
 | (k',u')::r,k,u=>by
   simp only[List.map_cons,iset,mJ];split
   ·rfl
   ·rw[Ex f r k u];rfl
def TA.to(E:Enc)(I:Rn):TA E.T->AV
 |.d t x=>Go.Proofs.Ytlhjbhgkhpbnfaa.one E t x
 |.own t l=>.sl true (csz E t) (l.map (cells E t))
 |.box i off=>.v (.pointer (some ⟨I i,off,none⟩))
 |.mpr i=>.v (.map (some (I i)))
 |.fnb f l=>.fn f (l.map fun i=>.v (.pointer (some ⟨I i,0,none⟩)))
 |.raw v=>.v v
 |.tt=>.v (.bool true)
 |.ff=>.v (.bool false)
 |.clip t l=>.cl (csz E t) (l.map (cells E t))
 |.bsl i off n c=>.v (.slice (some ⟨I i,off,none⟩) n c)
 |.vec t i n=>.v (vecV (I.k i) (csz E t) n)
 |.pel t i j o=>.v (.pointer (some ⟨I i,j * csz E t+o,none⟩))
 |.vsl t i off n=>.v (pc (I.k i) (csz E t) off n)
def KJ(b:Bk)(sz n:Nat):∃a m c,vecV b sz n=.slice a m c:=by unfold vecV;split<;> exact⟨_,_,_,rfl⟩
def LL(b:Bk)(sz off n:Nat):∃a m c,pc b sz off n=.slice a m c:=by unfold pc;split<;> exact⟨_,_,_,rfl⟩
def TA.vec_form(E:Enc)(I:Rn)(t:Ty)(i n:Nat):∃a m c,(TA.vec t i n:TA E.T).to E I=.v (.slice a m c):=by obtain⟨a,m,c,h⟩:=KJ (I.k i) (csz E t) n;exact⟨a,m,c,by rw[<- h];rfl⟩
def TA.vsl_form(E:Enc)(I:Rn)(t:Ty)(i off n:Nat):∃a m c,(TA.vsl t i off n:TA E.T).to E I=.v (.slice a m c):=by obtain⟨a,m,c,h⟩:=LL (I.k i) (csz E t) off n;exact⟨a,m,c,by rw[<- h];rfl⟩
def TC.to(E:Enc)(I:Rn):TC E.T->AV
 |.a x=>x.to E I
 |.ag l=>.ag (l.map (TA.to E I))
def TV.to(E:Enc)(I:Rn):TV E.T->AV
 |.a x=>x.to E I
 |.ag l=>.ag (l.map (TA.to E I))
 |.el l=>.el (l.map (TA.to E I))
 |.tu l=>.tu (l.map (TC.to E I))
 |.fn f l=>.fn f (l.map (TA.to E I))
 |.ifc t x=>.ifc t (x.to E I)
def TB.to(E:Enc)(I:Rn):TB E.T->List AV
 |.cs l=>l.map (TA.to E I)
 |.smap t l=>[Go.Proofs.Ytlhjbhgkhpbnfaa.smap (l.map fun p=>(p.1,Go.Proofs.Ytlhjbhgkhpbnfaa.one E t p.2))]
 |.row t l=>(l.map (cells E t)).flatten
 |.imap t l=>[Go.Proofs.Ytlhjbhgkhpbnfaa.imap (l.map fun p=>(p.1,Go.Proofs.Ytlhjbhgkhpbnfaa.one E t p.2))]
 |.vec i t l=>(l.map (cells E t)).flatten++ (I.k i).sp.map AV.v
def bi{T:Nat->Type}(I:Rn):TB T->Bool
 |.vec i _ l=> !((I.k i).nil && l.isEmpty)
 |_=>true
def TA.rd{T:Nat->Type}:TA T->TA T
 |.own t l=>.d (.sl t) l
 |x=>x
def TV.rd{T:Nat->Type}:TV T->TV T
 |.a x=>.a x.rd
 |u=>u
theorem TA.rd_to(E:Enc)(I:Rn)(x:TA E.T):x.rd.to E I=(x.to E I).rd:=by
 cases x with
 |d t x=>exact(sX E t x).symm
 |_=>rfl
theorem TV.rd_to(E:Enc)(I:Rn)(x:TV E.T):x.rd.to E I=(x.to E I).rd:=by
 cases x with
 |a x=>exact TA.rd_to E I x
 |_=>rfl
def TA.to_notMp(E:Enc)(I:Rn)(x:TA E.T):(x.to E I).isMp=false:=by
 cases x with
 |d t x=>
  cases t with
  |ptr t=>cases x<;> rfl
  |_=>rfl
 |_=>rfl
def TA.plain{T:Nat->Type}:TA T->Bool
 |.own _ _=>false
 |_=>true
def vi(E:Enc)(t:Ty)(x:Den E.T t):de (some (one E t x))=none:=by
 cases t with
 |ptr t=>cases x<;> rfl
 |_=>rfl
theorem TA.plain_to(E:Enc)(I:Rn){x:TA E.T}(h:x.plain=true):de (some (x.to E I))=none:=by
 cases x with
 |d t x=>exact vi E t x
 |own t l=>cases h
 |_=>rfl
structure TS (T:Nat->Type) where
 n:Nat
 t:List (Nat × TV T)
 h:List (Nat × TB T)
 e:List (Nat × Root)
def Root.to(I:Rn):Root->Root
 |.s t=>.s t
 |.c k o=>.c (I k) o
def hTo(E:Enc)(I:Rn)(h:List (Nat × TB E.T)):List (Nat × List AV):=(h.filter fun p=>bi I p.2).map fun p=>(I p.1,p.2.to E I)
def tTo(E:Enc)(I:Rn)(t:List (Nat × TV E.T)):List (Nat × AV):=t.map fun p=>(p.1,p.2.to E I)
def eTo(I:Rn)(e:List (Nat × Root)):List (Nat × Root):=e.map fun p=>(p.1,p.2.to I)
def TS.to(E:Enc)(I:Rn)(O:TS E.T):AS:={ n:=O.n,t:=tTo E I O.t,h:=hTo E I O.h,e:=eTo I O.e }
def Inj{T:Nat->Type}(I:Rn)(h:List (Nat × TB T)):Prop:=∀p∈h,∀q∈h,(bi I p.2=true->bi I q.2=true->I p.1=I q.1->p.1=q.1)/\(p.1=q.1->bi I p.2=bi I q.2)
def yg{α β:Type}(f:α->β):∀ (l:List (Nat × α)) (i:Nat),look (l.map fun p=>(p.1,f p.2)) i=(look l i).map f
 | [],i=>rfl
 | (k,a)::r,i=>by
   simp only[List.map_cons,ae];split
   ·rfl
   ·exact yg f r i
theorem cg(E:Enc)(I:Rn)(t:List (Nat × TV E.T))(i:Nat):look (tTo E I t) i=(look t i).map (TV.to E I):=yg _ t i
theorem dS(E:Enc){I:Rn}{k:Nat}{b:TB E.T}(r:List (Nat × TB E.T))(h:bi I b=true):hTo E I ((k,b)::r)=(I k,b.to E I)::hTo E I r:=by unfold hTo;rw[List.filter_cons,if_pos h,List.map_cons]
theorem fo(E:Enc){I:Rn}{k:Nat}{b:TB E.T}(r:List (Nat × TB E.T))(h:bi I b=false):hTo E I ((k,b)::r)=hTo E I r:=by unfold hTo;rw[List.filter_cons,if_neg (by rw[h];decide)]
def sS(E:Enc)(I:Rn)(h h':List (Nat × TB E.T)):hTo E I (h++h')=hTo E I h++hTo E I h':=by unfold hTo;rw[List.filter_append,List.map_append]
def xg{E:Enc}{I:Rn}{h:List (Nat × TB E.T)}{p:Nat × TB E.T}(hp:p∈h)(hl:bi I p.2=true):(I p.1,p.2.to E I)∈hTo E I h:=ZW.2 ⟨p,Z2.2 ⟨hp,hl⟩,rfl⟩
def uM{T:Nat->Type}(b b':TB T):Prop:=∀I,bi I b=bi I b'
theorem uM.refl{T:Nat->Type}(b:TB T):uM b b:=fun _=>rfl
def Inj.tail{T:Nat->Type}{I:Rn}{p:Nat × TB T}{h:List (Nat × TB T)}(hi:Inj I (p::h)):Inj I h:=fun p hp q hq=>hi p (ZM _ hp) q (ZM _ hq)
theorem dz(E:Enc){I:Rn}:∀ {h:List (Nat × TB E.T)} {k:Nat} {b:TB E.T},Inj I h->look h k=some b->bi I b=true->look (hTo E I h) (I k)=some (b.to E I)
 | (j,c)::r,k,b,hi,hl,hv=>by
   rw[ae] at hl;by_cases hjk:k=j
   ·subst hjk;rw[ZI rfl] at hl;cases hl;rw[dS E r hv,ae,ZI rfl]
   ·rw[ZH hjk] at hl;have hm:=db hl;have ih:=dz E (h:=r) hi.tail hl hv;cases hc:bi I c with
    |false=>rw[fo E r hc];exact ih
    |true=>rw[dS E r hc,ae,ZH (fun e=>hjk ((hi _ (ZM _ hm) _ ZP).1 hv hc e))];exact ih
theorem FR(I:Rn)(e:List (Nat × Root))(i:Nat):look (eTo I e) i=(look e i).map (Root.to I):=yg _ e i
def Inj.sub{T:Nat->Type}{I:Rn}{h h':List (Nat × TB T)}(hi:Inj I h)(hs:∀p∈h',∃q∈h,q.1=p.1/\bi I q.2=bi I p.2):Inj I h':=fun p hp q hq=>by obtain⟨p',h1,h2,h5⟩:=hs p hp;obtain⟨q',h3,h4,h6⟩:=hs q hq;rw[<- h2,<- h4,<- h5,<- h6];exact hi p' h1 q' h3
section
variable {E:Enc} {I:Rn}
def TS.put{T:Nat->Type}(O:TS T)(d:Nat)(u:TV T):TS T:={ n:=O.n,t:=(d,u)::O.t,h:=O.h,e:=O.e.filter fun p=> !(p.1==d) && !p.2.in d }
theorem Em(I:Rn)(r:Root)(d:Nat):(r.to I).in d=r.in d:=by cases r<;> rfl
theorem Ic(I:Rn)(e:List (Nat × Root))(d:Nat):(eTo I e).filter (fun p=> !(p.1==d) && !p.2.in d)=eTo I (e.filter fun p=> !(p.1==d) && !p.2.in d):=by
 unfold eTo;rw[List.filter_map]
 congr 1
 apply abA;intro p _;simp only[Function.comp];rw[Em]
theorem cI(O:TS E.T)(d:Nat)(u:TV E.T):(O.put d u).to E I=(O.to E I).put d (u.to E I):=by simp only[TS.to,TS.put,AS.put,Ic,tTo,List.map_cons]
def TS.alias{T:Nat->Type}(O:TS T)(d:Nat)(r:Root):TS T:={ n:=O.n,t:=O.t,h:=O.h,e:=(d,r)::O.e }
theorem ER(O:TS E.T)(d:Nat)(r:Root):(O.alias d r).to E I=(O.to E I).alias d (r.to I):=rfl
structure OwnV (T:Nat->Type) where
 t:Ty
 l:List (Den T t)
def SP{T:Nat->Type}:Option (TA T)->Option (OwnV T)
 |some (.own t l)=>some ⟨t,l⟩
 |_=>none
def TS.ownAt{T:Nat->Type}(O:TS T):Root->Option (OwnV T)
 |.s t=>match look O.t t with
  |some (.a x)=>SP (some x)
  |_=>none
 |.c k o=>match look O.h k with
  |some (.cs cs)=>SP cs[o]?
  |_=>none
def vJ{T:Nat->Type}{x:Option (TA T)}{w:OwnV T}(h:SP x=some w):x=some (.own w.t w.l):=by
 unfold SP at h;split at h
 ·cases h;rfl
 ·cases h
def yz(O:TS E.T)(hi:Inj I O.h){r:Root}{w:OwnV E.T}(h:O.ownAt r=some w):(O.to E I).own (r.to I)=some (csz E w.t,w.l.map (cells E w.t)):=by
 cases r with
 |s t=>
  simp only[TS.ownAt] at h;split at h
  ·rename_i x hx;have:=vJ h;cases this;simp only[Root.to,AS.own,TS.to,cg,hx];rfl
  ·cases h
 |c k o=>
  simp only[TS.ownAt] at h;split at h
  ·rename_i cs hx;have:=vJ h;simp only[Root.to,AS.own,TS.to,dz E hi hx rfl,TB.to,List.getElem?_map,this];rfl
  ·cases h
def VM{T:Nat->Type}(h:List (Nat × TB T))(k o:Nat):List (Nat × TB T):=
 match look h k with
 |some (.cs cs)=>match cs[o]? with
  |some u=>(k,.cs (cs.set o u.rd))::h
  |none=>h
 |_=>h
def TS.lay{T:Nat->Type}(O:TS T):Root->TS T
 |.s t=>{ n:=O.n,t:=(match look O.t t with|some u=>(t,u.rd)::O.t|none=>O.t),h:=O.h,e:=O.e }
 |.c k o=>{ n:=O.n,t:=O.t,h:=VM O.h k o,e:=O.e }
def CT(O:TS E.T)(hi:Inj I O.h){r:Root}{w:OwnV E.T}(h:O.ownAt r=some w):(O.lay r).to E I=(O.to E I).lay (r.to I):=by
 cases r with
 |s t=>
  simp only[TS.to,TS.lay,AS.lay,Root.to,cg];cases hl:look O.t t with
  |none=>rfl
  |some u=>simp only[Option.map_some,tTo,List.map_cons,TV.rd_to]
 |c k o=>
  simp only[TS.ownAt] at h;split at h
  ·rename_i cs hx;have hc:=vJ h;have hlk:=dz E hi hx rfl;have e1:(O.lay (.c k o)).to E I={ n:=O.n,t:=tTo E I O.t,h:=(I k,(cs.set o (TA.rd (.own w.t w.l))).map (TA.to E I))::hTo E I O.h,e:=eTo I O.e }:=by simp only[TS.lay,VM,hx,hc];rfl
   have e2:(O.to E I).lay (Root.to I (.c k o))={ n:=O.n,t:=tTo E I O.t,h:=(I k,(cs.map (TA.to E I)).set o (AV.rd (TA.to E I (.own w.t w.l))))::hTo E I O.h,e:=eTo I O.e }:=by simp only[TS.to,AS.lay,Root.to,hlk];simp only[TB.to,List.getElem?_map,hc,Option.map_some]
   rw[e1,e2,abF,TA.rd_to]
  ·cases h
def Un{T:Nat->Type}(O:TS T)(r:Root):∀p∈(O.lay r).h,∃q∈O.h,q.1=p.1/\uM q.2 p.2:=by
 cases r with
 |s t=>exact fun p hp=>⟨p,hp,rfl,.refl _⟩
 |c k o=>
  intro p hp;simp only[TS.lay,VM] at hp;split at hp
  ·rename_i cs hx;split at hp
   ·rename_i u hu;rcases ZY.1 hp with rfl|hp
    ·exact⟨_,db hx,rfl,fun _=>rfl⟩
    ·exact⟨p,hp,rfl,.refl _⟩
   ·exact⟨p,hp,rfl,.refl _⟩
  ·exact⟨p,hp,rfl,.refl _⟩
def TS.hand{T:Nat->Type}(O:TS T)(x t:Nat):TS T:=
 match look O.t t with
 |some (.a (.own ty l))=>{ n:=O.n,t:=(x,.a (.own ty l))::(t,.a (.d (.sl ty) l))::O.t,h:=O.h,e:=O.e.filterMap fun p=>if p.1==x then none else if p.2=.s t then some (p.1,.s x) else if p.2.in x then none else some p }
 |_=>O
def BX(I:Rn)(r:Root)(t:Nat):(r.to I=.s t) ↔ (r=.s t):=by cases r<;> simp[Root.to]
def Kq(O:TS E.T){x t:Nat}{ty:Ty}{l:List (Den E.T ty)}(h:look O.t t=some (.a (.own ty l))):(O.hand x t).to E I=(O.to E I).hand x (.s t):=by
 have ho:(O.to E I).own (.s t)=some (csz E ty,l.map (cells E ty)):=by simp only[AS.own,TS.to,cg,h];rfl
 unfold AS.hand TS.hand;rw[ho,h];have hl:look (tTo E I O.t) t=some (.sl true (csz E ty) (l.map (cells E ty))):=by rw[cg,h];rfl
 have e1:AS.lay (O.to E I) (.s t)={ n:=O.n,t:=(t,.sl false (csz E ty) (l.map (cells E ty)))::tTo E I O.t,h:=hTo E I O.h,e:=eTo I O.e }:=by simp only[TS.to,AS.lay,hl,AV.rd]
 rw[e1];simp only[TS.to];refine aas (AS.mk _ _ _) ?_;unfold eTo;rw[List.map_filterMap,List.filterMap_map]
 congr 1
 funext p
 simp only[Function.comp];by_cases h1:(p.1==x)=true
 ·rw[ZI h1,ZI h1];rfl
 ·rw[ZH h1,ZH h1];by_cases h2:p.2=.s t
  ·rw[ZI h2,ZI ((BX I _ _).2 h2)];rfl
  ·rw[ZH h2,ZH (fun e=>h2 ((BX I _ _).1 e)),Em];split<;> rfl
def zb(E:Enc)(O σ':TS E.T):Prop:=∀I,Inj I O.h->Inj I σ'.h/\oF (O.to E I) (σ'.to E I)
theorem zb.refl(O:TS E.T):zb E O O:=fun I h=>⟨h,fun _ _ _ hs=>hs⟩
def Mn(O:TS E.T){x t:Nat}:∀ (I:Rn),Inj I O.h->Inj I (O.hand x t).h/\∀F X tm,SimE F X (O.to E I) tm->rootV tm X.w (.s t)=some (tm.getD x undef)->SimE F X ((O.hand x t).to E I) tm:=by
 intro I hi;by_cases h:∃ty l,look O.t t=some (.a (.own ty l))
 ·obtain⟨ty,l,hl⟩:=h;refine⟨?_,fun F X tm hs hr=> ?_⟩
  ·unfold TS.hand;rw[hl];exact hi
  ·rw[Kq O hl];exact hs.hand hr
 ·have:O.hand x t=O:=by
   unfold TS.hand;split
   ·rename_i ty l hl;exact absurd ⟨ty,l,hl⟩ h
   ·rfl
  rw[this];exact⟨hi,fun F X tm hs _=>hs⟩
def mm{T:Nat->Type}(K:List Nat):List (Nat × Root)->TS T->TS T
 | [],O=>O
 | (x,.s t)::es,O=>mm K es (if K.contains x && !K.contains t then O.hand x t else O)
 | (_,.c _ _)::es,O=>mm K es O
def rl(K:List Nat):∀ (es:List (Nat × Root)) (O:TS E.T) (I:Rn),Inj I O.h->Inj I (mm K es O).h/\∀F X tm,SimE F X (O.to E I) tm->kQ (eTo I es) tm X.w->SimE F X ((mm K es O).to E I) tm
 | [],O,I,hi=>⟨hi,fun _ _ _ h _=>h⟩
 | (x,.s t)::es,O,I,hi=>by
   simp only[mm];split
   ·obtain⟨h1,h2⟩:=Mn (x:=x) (t:=t) O I hi;obtain⟨k1,k2⟩:=rl K es (O.hand x t) I h1;exact⟨k1,fun F X tm hs he=>k2 F X tm (h2 F X tm hs (he (x,.s t) ZP)) fun p hp=>he p (ZM _ hp)⟩
   ·obtain⟨k1,k2⟩:=rl K es O I hi;exact⟨k1,fun F X tm hs he=>k2 F X tm hs fun p hp=>he p (ZM _ hp)⟩
 | (x,.c k o)::es,O,I,hi=>by simp only[mm];obtain⟨k1,k2⟩:=rl K es O I hi;exact⟨k1,fun F X tm hs he=>k2 F X tm hs fun p hp=>he p (ZM _ hp)⟩
def nrm{T:Nat->Type}:TV T->TV T
 |.a .tt=>.a (.d .bool true)
 |.a .ff=>.a (.d .bool false)
 |u=>u
theorem o6(E:Enc)(I:Rn)(u:TV E.T):(nrm u).to E I=u.to E I:=by
 cases u with
 |a x=>cases x<;> rfl
 |_=>rfl
def wz{T:Nat->Type}(w:Bool)(u:TV T):TV T:=match w with|true=>nrm u.rd|false=>nrm u
def yu{T:Nat->Type}(t:List (Nat × TV T)):List (Nat × Bool)->List (Nat × TV T)
 | [] =>[]
 | (k,w)::ks=>match look t k with|some u=>(k,wz w u)::yu t ks|none=>yu t ks
def dv{T:Nat->Type}(h:List (Nat × TB T)):List Nat->List (Nat × TB T)
 | [] =>[]
 |k::ks=>match look h k with|some b=>(k,b)::dv h ks|none=>dv h ks
def TS.canon{T:Nat->Type}(O:TS T)(K:List (Nat × Bool))(B:List Nat):TS T:=
 { n:=O.n,t:=yu (mm (K.map Prod.fst) O.e O).t K,h:=dv (mm (K.map Prod.fst) O.e O).h B,e:=[] }
def Dr{T:Nat->Type}(K:List Nat):∀ (es:List (Nat × Root)) (O:TS T),(mm K es O).n=O.n
 | [],_=>rfl
 | (x,.s t)::es,O=>by
   simp only[mm];rw[Dr K es];split
   ·unfold TS.hand;split<;> rfl
   ·rfl
 | (x,.c _ _)::es,O=>by simp only[mm];exact Dr K es O
def qI{T:Nat->Type}{t:List (Nat × TV T)}:∀ {K:List (Nat × Bool)} {k:Nat} {u:TV T},look (yu t K) k=some u->∃w u0,look t k=some u0/\u=wz w u0
 | [],_,_,h=>by cases h
 | (k0,w)::ks,k,u,h=>by
   simp only[yu] at h;cases hl:look t k0 with
   |none=>rw[hl] at h;exact qI h
   |some u0=>
    rw[hl] at h;simp only[ae] at h;split at h
    ·rename_i e;subst e;cases h;exact⟨w,u0,hl,rfl⟩
    ·exact qI h
def mV{T:Nat->Type}{t:List (Nat × TB T)}:∀ {K:List Nat} {k:Nat} {u:TB T},look (dv t K) k=some u->look t k=some u
 | [],_,_,h=>by cases h
 |k0::ks,k,u,h=>by
  simp only[dv] at h;cases hl:look t k0 with
  |none=>rw[hl] at h;exact mV h
  |some u0=>
   rw[hl] at h;simp only[ae] at h;split at h
   ·rename_i e;subst e;cases h;exact hl
   ·exact mV h
def l8{T:Nat->Type}{t:List (Nat × TB T)}:∀ {K:List Nat},∀p∈dv t K,∃q∈t,q.1=p.1/\uM q.2 p.2
 | [],_,h=>by cases h
 |k0::ks,p,h=>by
  simp only[dv] at h;cases hl:look t k0 with
  |none=>rw[hl] at h;exact l8 p h
  |some u0=>
   rw[hl] at h;rcases ZY.1 h with rfl|h
   ·exact⟨_,db hl,rfl,.refl _⟩
   ·exact l8 p h
def oM{E:Enc}{I:Rn}:∀ {h:List (Nat × TB E.T)} {k:Nat} {cs:List AV},look (hTo E I h) k=some cs->∃i b,(i,b)∈h/\I i=k/\cs=b.to E I/\bi I b=true/\(Inj I h->look h i=some b)
 | [],_,_,h=>by cases h
 | (j,c)::r,k,cs,h=>by
   cases hc:bi I c with
   |false=>rw[fo E r hc] at h;obtain⟨i,b,h1,h2,h3,h5,h4⟩:=oM (h:=r) h;refine⟨i,b,ZM _ h1,h2,h3,h5,fun hi=> ?_⟩;rw[ae,ZH (fun e2=>by have:=(hi _ (ZM _ h1) _ ZP).2 e2;simp only at this;rw[h5,hc] at this;cases this)];exact h4 hi.tail
   |true=>
    rw[dS E r hc,ae] at h;split at h
    ·rename_i e;cases h;exact⟨j,c,ZP,e.symm,rfl,hc,fun _=>iM⟩
    ·rename_i e;obtain⟨i,b,h1,h2,h3,h5,h4⟩:=oM (h:=r) h;refine⟨i,b,ZM _ h1,h2,h3,h5,fun hi=> ?_⟩;rw[ae,ZH (fun e2=>e (by rw[<- h2,e2]))];exact h4 hi.tail
theorem zb.mk{O σ':TS E.T}(hn:σ'.n=O.n)(ht:∀k u,look σ'.t k=some u->∃w u0,look O.t k=some u0/\u=wz w u0)(hh:∀k b,look σ'.h k=some b->look O.h k=some b)(hm:∀p∈σ'.h,∃q∈O.h,q.1=p.1/\uM q.2 p.2)(he:σ'.e=[]):zb E O σ':=by
 intro I hi;have hi':=hi.sub fun p hp=>let ⟨q,h1,h2,h3⟩:=hm p hp;⟨q,h1,h2,h3 I⟩
 refine⟨hi',fun F X tm hs=> ?_⟩;have heq:kQ (σ'.to E I).e tm X.w:=by simp only[TS.to,he];intro p hp;cases hp
 have hslot:∀t u,look (σ'.to E I).t t=some u->∃u0,look (O.to E I).t t=some u0/\Le1 u0 u:=by
  intro t u hu;simp only[TS.to,cg,Option.map_eq_some_iff] at hu ⊢;obtain⟨v,hv,rfl⟩:=hu;obtain⟨w,u0,h1,rfl⟩:=ht t v hv;refine⟨_,⟨u0,h1,rfl⟩,?_⟩;cases w with
  |false=>simp only[wz,o6];exact .refl _
  |true=>simp only[wz,o6,TV.rd_to];generalize u0.to E I=z;cases z<;> first|exact .refl _|exact .rd _ _ _
 have hbox:∀k cs,look (σ'.to E I).h k=some cs->look (O.to E I).h k=some cs:=by intro k cs hk;obtain⟨i,b,h1,rfl,rfl,h5,h4⟩:=oM hk;exact dz E hi (hh i b (h4 hi')) h5
 refine⟨hs.toSim.reown hn (fun t u hu=> ?_) (fun k cs hk=>hs.box k cs (hbox k cs hk)) heq.look id (fun r sz l ho=> ?_) (fun _ _ hne _ _=>hne),heq⟩
 ·obtain⟨u0,h1,h2⟩:=hslot t u hu;exact h2.rel (hs.slot t u0 h1)
 ·cases r with
  |s t=>
   simp only[AS.own] at ho;cases hlk:look (σ'.to E I).t t with
   |none=>rw[hlk] at ho;cases ho
   |some u=>
    rw[hlk] at ho;obtain⟨u0,h1,h2⟩:=hslot t u hlk;rcases h2.own ho with h3| ⟨h3,h4⟩
    ·right;simp only[id,AS.own];rw[h1];exact⟨h3,trivial⟩
    ·left;subst h3;have:=hs.slot t _ h1;refine⟨?_,h4⟩;simp only[rootV];generalize tm.getD t undef=y at this;cases this;rfl
  |c k o=>
   simp only[AS.own] at ho;cases hlk:look (σ'.to E I).h k with
   |none=>rw[hlk] at ho;cases ho
   |some cs=>rw[hlk] at ho;right;simp only[id,AS.own];rw[hbox k cs hlk];exact⟨ho,trivial⟩
def K1(O:TS E.T)(K:List (Nat × Bool))(B:List Nat):zb E O (O.canon K B):=by
 intro I hi;obtain⟨h1,h2⟩:=rl (E:=E) (K.map Prod.fst) O.e O I hi
 obtain⟨k1,k2⟩:=zb.mk (E:=E) (O:=mm (K.map Prod.fst) O.e O) (σ':=O.canon K B) (by simp only[TS.canon];rw[Dr]) (fun k u hu=>qI (t:=(mm (K.map Prod.fst) O.e O).t) (K:=K) hu) (fun k b hb=>mV (t:=(mm (K.map Prod.fst) O.e O).h) (K:=B) hb) (fun p hp=>l8 (t:=(mm (K.map Prod.fst) O.e O).h) (K:=B) p hp) rfl I h1
 exact⟨k1,fun F X tm hs=>k2 F X tm (h2 F X tm hs hs.eqm)⟩
end
structure Env extends Enc where
 unp:∀i,T i->List (TA T)
 unp_to:∀i z I,(unp i z).map (TA.to toEnc I)=enc i z
 pk:∀i,List (TA T)->Option (T i × List (TA T))
 pk_to:∀i l z r I,pk i l=some (z,r)->LeL (l.map fun a=>(a.rd.to toEnc I)) (enc i z++r.map fun a=>(a.rd.to toEnc I))
 et:List (TypeId × Ty)
 ct:List (TypeId × List Ty)
 nf:List TypeId
def Yx:List TypeId->TypeId->Bool
 | [],_=>false
 |k::r,i=>match Nat.beq i k with|true=>true|false=>Yx r i
def j9{T:Nat->Type}(a b:Ty)(x:Den T a):Option (Den T b):=if h:a=b then some (h ▸ x) else none
def ev{T:Nat->Type}{a b:Ty}{x:Den T a}{y:Den T b}(h:j9 a b x=some y):∃e:a=b,y=e ▸ x:=by
 unfold j9 at h;split at h
 ·rename_i e;cases h;exact⟨e,rfl⟩
 ·cases h
def cL(E:Env)(t:Ty)(x:Den E.T t):List (TA E.T):=
 match t,x with
 |.nam i,z=>E.unp i z
 |.bits n,l=>(List.range n).map fun i=>.d .bool (List.getD l i false)
 |t,x=>[.d t x]
def tP(E:Env)(I:Rn)(t:Ty)(x:Den E.T t):(cL E t x).map (TA.to E.toEnc I)=cells E.toEnc t x:=by
 cases t with
 |nam i=>exact E.unp_to i x I
 |ptr t=>cases x<;> rfl
 |bits n=>exact aaY.trans rfl
 |_=>rfl
def asD{T:Nat->Type}(t:Ty):TA T->Option (Den T t)
 |.d t' x=>j9 t' t x
 |.own t' l=>j9 (.sl t') t l
 |.tt=>j9 .bool t (true:Bool)
 |.ff=>j9 .bool t (false:Bool)
 |.raw (.slice none 0 0)=>match t with
  |.sl _=>some []
  |_=>none
 |.raw (.pointer none)=>match t with
  |.ptr _=>some none
  |_=>none
 |_=>none
def y8(E:Enc)(I:Rn){t:Ty}{a:TA E.T}{x:Den E.T t}(h:asD t a=some x):Le1 (a.rd.to E I) (one E t x):=by
 unfold asD at h;split at h
 ·obtain⟨rfl,rfl⟩:=ev h;exact .refl _
 ·obtain⟨rfl,rfl⟩:=ev h;exact .refl _
 ·obtain⟨rfl,rfl⟩:=ev h;exact .refl _
 ·obtain⟨rfl,rfl⟩:=ev h;exact .refl _
 ·split at h
  ·cases h;exact .nil _ _
  ·cases h
 ·split at h
  ·cases h;exact .refl _
  ·cases h
 ·cases h
def pkL{T:Nat->Type}(t:Ty):List (TA T)->Option (Den T t × List (TA T))
 |a::r=>match asD t a with
  |some x=>some (x,r)
  |none=>none
 | [] =>none
def pkT(E:Env)(t:Ty)(l:List (TA E.T)):Option (Den E.T t × List (TA E.T)):=
 match t with
 |.nam i=>E.pk i l
 |.bits _=>none
 |t=>pkL t l
def LeL.append{a b c d:List AV}(h:LeL a b)(k:LeL c d):LeL (a++c) (b++d):=by
 induction h with
 |nil=>exact k
 |cons hu _ ih=>exact .cons hu ih
def dx(E:Enc)(I:Rn){t:Ty}(hl:t.lone=true){l:List (TA E.T)}{x:Den E.T t}{r:List (TA E.T)}(h:pkL t l=some (x,r)):LeL (l.map fun a=>(a.rd.to E I)) (cells E t x++r.map fun a=>(a.rd.to E I)):=by
 rw[oS E hl];unfold pkL at h;split at h
 ·rename_i a r0;split at h
  ·rename_i x0 hx;cases h;exact .cons (y8 E I hx) (.refl _)
  ·cases h
 ·cases h
def Io(E:Env)(I:Rn){t:Ty}{l:List (TA E.T)}{x:Den E.T t}{r:List (TA E.T)}(h:pkT E t l=some (x,r)):LeL (l.map fun a=>(a.rd.to E.toEnc I)) (cells E.toEnc t x++r.map fun a=>(a.rd.to E.toEnc I)):=by
 cases t with
 |nam i=>exact E.pk_to i l x r I h
 |bits n=>cases h
 |_=>exact dx E.toEnc I rfl h
inductive PV (T:Nat->Type):Type 1 where
 |one (u:TV T)
 |opt {α:Type} (o:Option α) (u:α->TV T)
 |bad
def PV.ok{T:Nat->Type}(p:PV T)(K:TV T->Prop):Prop:=
 match p with
 |.one u=>K u
 |.opt o u=>∀z,o=some z->K (u z)
 |.bad=>True
def PV.ok.mono{T:Nat->Type}{p:PV T}{K K':TV T->Prop}(h:p.ok K)(hk:∀u,K u->K' u):p.ok K':=by
 cases p with
 |one u=>exact hk _ h
 |opt o u=>exact fun z hz=>hk _ (h z hz)
 |bad=>trivial
section
variable {P:Program} {Y:Tys P} {E:Env} {I:Rn}
def constT{T:Nat->Type}:Value->TV T
 |.int .u8 n=>if((UInt8.ofNat n.toNat).toNat:Int)=n then .a (.d .byte (UInt8.ofNat n.toNat)) else .a (.raw (.int .u8 n))
 |.int k n=>.a (.d (.int k) n)
 |.bool true=>.a .tt
 |.bool false=>.a .ff
 |.string s=>.a (.d .str s.data.toList)
 |.agg xs=>.ag (xs.toList.map .raw)
 |.tuple xs=>.tu (xs.toList.map fun x=>.a (.raw x))
 |v=>.a (.raw v)
theorem Lk(E:Enc)(I:Rn)(v:Value):(constT v:TV E.T).to E I=cst v:=by
 cases v with
 |int k n=>
  cases k with
  |u8=>
   unfold constT;simp only;split
   ·rename_i h;show AV.v (.int .u8 ((UInt8.ofNat n.toNat).toNat:Int))=_;rw[h];rfl
   ·rfl
  |_=>rfl
 |bool b=>cases b<;> rfl
 |agg xs=>simp only[constT,TV.to,List.map_map,cst];rfl
 |tuple xs=>simp only[constT,TV.to,List.map_map,cst];rfl
 |_=>rfl
def opT{T:Nat->Type}(O:TS T):Operand->Option (TV T)
 |.tmp t=>look O.t t
 |.const v=>some (constT v)
 |.func f=>some (.a (.raw (.func (.func f) #[] #[])))
 |.global g=>some (.a (.raw (.pointer (some ⟨g,0,none⟩))))
theorem aF{O:TS E.T}{x:Operand}{u:TV E.T}(h:opT O x=some u):opV (O.to E.toEnc I) x=some (u.to E.toEnc I):=by
 cases x with
 |tmp t=>simp only[opT] at h;simp only[opV,TS.to,cg,h];rfl
 |const v=>cases h;simp only[opV,Lk]
 |func f=>cases h;rfl
 |global g=>cases h;rfl
def asI{T:Nat->Type}:Option (TV T)->Option (IntKind × Int)
 |some (.a (.d (.int k) x))=>some (k,x)
 |some (.a (.d .byte b))=>some (.u8,(UInt8.toNat b:Int))
 |_=>none
def dO{O:TS E.T}{x:Operand}{k:IntKind}{n:Int}(h:asI (opT O x)=some (k,n)):opV (O.to E.toEnc I) x=some (.v (.int k n)):=by
 cases hx:opT O x with
 |none=>rw[hx] at h;cases h
 |some u=>
  rw[hx] at h;rw[aF hx];unfold asI at h;split at h
  ·rename_i e;cases e;cases h;rfl
  ·rename_i e;cases e;cases h;rfl
  ·cases h
def asB{T:Nat->Type}:Option (TV T)->Option Bool
 |some (.a (.d .bool b))=>some b
 |some (.a .tt)=>some true
 |some (.a .ff)=>some false
 |_=>none
def DJ{O:TS E.T}{x:Operand}{b:Bool}(h:asB (opT O x)=some b):opV (O.to E.toEnc I) x=some (.v (.bool b)):=by
 cases hx:opT O x with
 |none=>rw[hx] at h;cases h
 |some u=>
  rw[hx] at h;rw[aF hx];unfold asB at h;split at h
  ·rename_i e;cases e;cases h;rfl
  ·rename_i e;cases e;cases h;rfl
  ·rename_i e;cases e;cases h;rfl
  ·cases h
def asS{T:Nat->Type}:Option (TV T)->Option (List UInt8)
 |some (.a (.d .str s))=>some s
 |_=>none
def ne{O:TS E.T}{x:Operand}{s:List UInt8}(h:asS (opT O x)=some s):opV (O.to E.toEnc I) x=some (.v (.string (mkB s))):=by
 cases hx:opT O x with
 |none=>rw[hx] at h;cases h
 |some u=>
  rw[hx] at h;rw[aF hx];unfold asS at h;split at h
  ·rename_i e;cases e;cases h;rfl
  ·cases h
def asL{T:Nat->Type}:Option (TV T)->Option (OwnV T)
 |some (.a (.d (.sl t) l))=>some ⟨t,l⟩
 |some (.a (.own t l))=>some ⟨t,l⟩
 |_=>none
def pK{O:TS E.T}{x:Operand}{w:OwnV E.T}(h:asL (opT O x)=some w):∃o,opV (O.to E.toEnc I) x=some (.sl o (csz E.toEnc w.t) (w.l.map (cells E.toEnc w.t))):=by
 cases hx:opT O x with
 |none=>rw[hx] at h;cases h
 |some u=>
  rw[hx] at h;rw[aF hx];unfold asL at h;split at h
  ·rename_i e;cases e;cases h;exact⟨_,rfl⟩
  ·rename_i e;cases e;cases h;exact⟨_,rfl⟩
  ·cases h
def mkI{T:Nat->Type}(k:IntKind)(r:Int):TV T:=match k with
 |.u8=>.a (.d .byte (UInt8.ofNat r.toNat))
 |k=>.a (.d (.int k) r)
def tl(E:Enc)(I:Rn){k:IntKind}{r:Int}(h:k=.u8->0<=r/\r < 256):(mkI k r:TV E.T).to E I=.v (.int k r):=by
 unfold mkI;split
 ·obtain⟨h1,h2⟩:=h rfl;show AV.v (.int .u8 ((UInt8.ofNat r.toNat).toNat:Int))=_
  congr 2
  simp;omega
 ·rfl
def Vc(n:Int):0<=IntKind.u8.wrap n/\IntKind.u8.wrap n < 256:=by rw[IntKind.wrap_u8];omega
theorem mz(E:Enc)(I:Rn){k:IntKind}{n:Int}:(mkI k (k.wrap n):TV E.T).to E I=.v (.int k (k.wrap n)):=tl E I fun h=>by subst h;exact Vc n
def XC(k:IntKind)(a b:Int):Option Int:=if b=0 then none else some (k.wrap (a.tdiv b))
def UI(a b:Int):Option Int:=if b=0 then none else some (a.tmod b)
def Y1(k:IntKind)(a b:Int):Option Int:=if 0<=b then some (k.wrap (a * 2 ^ (min b.toNat k.bits))) else none
def SJ(k:IntKind)(a b:Int):Option Int:=if 0<=b then some (a.fdiv (2 ^ (min b.toNat k.bits))) else none
def u8C(r:Int):Option UInt8:=if 0<=r/\r < 256 then some (UInt8.ofNat r.toNat) else none
def TI(a b:List UInt8):Option (List UInt8):=if a.length+b.length<=9223372036854775807 then some (a++b) else none
def A5:IntKind->Bool
 |.u8=>false
 |_=>true
def binI{T:Nat->Type}(op:BinOp)(k:IntKind)(a b:Int):PV T:=
 match op with
 |.add=>.one (mkI k (k.wrap (a+b)))
 |.sub=>.one (mkI k (k.wrap (a - b)))
 |.mul=>.one (mkI k (k.wrap (a * b)))
 |.quo=>.opt (XC k a b) (mkI k)
 |.rem=>match A5 k with|true=>.opt (UI a b) (mkI k)|false=>.opt ((UI a b).bind u8C) fun b=>.a (.d .byte b)
 |.and=>.one (mkI k (bits .and k a b))
 |.or=>.one (mkI k (bits .or k a b))
 |.xor=>.one (mkI k (bits .xor k a b))
 |.eql=>.one (.a (.d .bool (a==b)))
 |.neq=>.one (.a (.d .bool (a != b)))
 |.lss=>.one (.a (.d .bool (decide (a < b))))
 |.leq=>.one (.a (.d .bool (decide (a<=b))))
 |.gtr=>.one (.a (.d .bool (decide (a > b))))
 |.geq=>.one (.a (.d .bool (decide (a>=b))))
 |_=>.bad
def binS{T:Nat->Type}(op:BinOp)(a b:List UInt8):PV T:=
 match op with
 |.add=>.opt (TI a b) fun s=>.a (.d .str s)
 |.eql=>.one (.a (.d .bool (decide (a=b))))
 |.neq=>.one (.a (.d .bool (!decide (a=b))))
 |.lss=>.one (.a (.d .bool (Op.bytesLess a b)))
 |.leq=>.one (.a (.d .bool (Op.bytesLess a b || decide (a=b))))
 |.gtr=>.one (.a (.d .bool (!(Op.bytesLess a b || decide (a=b)))))
 |.geq=>.one (.a (.d .bool (!Op.bytesLess a b)))
 |_=>.bad
def Qm(Y:Tys P)(O:TS E.T)(op:BinOp)(t:TypeId)(x y:Operand):PV E.T:=
 match op with
 |.shl=>match asI (opT O x),asI (opT O y) with
  |some (k,a),some (_,b)=>.opt (Y1 k a b) (mkI k)
  |_,_=>.bad
 |.shr=>match asI (opT O x),asI (opT O y) with
  |some (k,a),some (_,b)=>match A5 k with|true=>.opt (SJ k a b) (mkI k)|false=>.opt ((SJ k a b).bind u8C) fun b=>.a (.d .byte b)
  |_,_=>.bad
 |op=>match asI (opT O x),asI (opT O y) with
  |some (k,a),some (k',b)=>if k=k' then binI op k a b else .bad
  |_,_=>match asS (opT O x),asS (opT O y) with
   |some a,some b=>binS op a b
   |_,_=>match asB (opT O x),asB (opT O y),look Y.ty t,op with
    |some a,some b,some .bool,.eql=>.one (.a (.d .bool (a==b)))
    |some a,some b,some .bool,.neq=>.one (.a (.d .bool (!(a==b))))
    |_,_,_,_=>.bad
end
section
variable {P:Program} {Y:Tys P} {E:Env} {I:Rn} {O:TS E.T} {d:Option Tmp} {t t2 yt ty e:TypeId} {x y z:Operand} {pos:String} {af:Array Edge} {g:Option (Nat × Bool)}
def K9{op:BinOp}{a b:Bool}{O:AS}(hx:opV O x=some (.v (.bool a)))(hy:opV O y=some (.v (.bool b)))(hop:op=.eql)(h0:look Y.ty t=some .bool):OpV P ⟨d,.binOp op t x y yt,ty,pos,af,g⟩ O (.v (.bool (a==b))):=by
 subst hop;refine aQ rfl fun F X ac hs=>⟨.bool (a==b),?_,.v _⟩
 have h1:=aZ hs (by simp[Op.operands]) hx;have h2:=aZ hs (by simp[Op.operands]) hy;have h3:=run_eql_bool (P:=P) X.w t a b (Y.tyOk _ _ h0);simp only[execOp,h1,h2];refine bd ?_;simp[eqGuard,h3,go_sem]
def K7{op:BinOp}{a b:Bool}{O:AS}(hx:opV O x=some (.v (.bool a)))(hy:opV O y=some (.v (.bool b)))(hop:op=.neq)(h0:look Y.ty t=some .bool):OpV P ⟨d,.binOp op t x y yt,ty,pos,af,g⟩ O (.v (.bool (!(a==b)))):=by
 subst hop;refine aQ rfl fun F X ac hs=>⟨.bool (!(a==b)),?_,.v _⟩
 have h1:=aZ hs (by simp[Op.operands]) hx;have h2:=aZ hs (by simp[Op.operands]) hy;have h4:=run_equal_bool (P:=P) X.w t a b (Y.tyOk _ _ h0);have h3:(binOp .neq t (.bool a) (.bool b)).run P X.w=.ok (.bool (!(a==b))) X.w:=by simp[binOp,h4]
 simp only[execOp,h1,h2];refine bd ?_;simp[eqGuard,h3,go_sem]
def YS{k:IntKind}(h:¬A5 k=true):k=.u8:=by cases k<;> first|rfl|exact absurd rfl h
def GG{q:Option Int}{b:UInt8}(h:q.bind u8C=some b):∃r,q=some r/\((UInt8.toNat b:Nat):Int)=r:=by
 cases q with
 |none=>cases h
 |some r=>
  refine⟨r,rfl,?_⟩;have h':u8C r=some b:=h;unfold u8C at h';split at h'
  ·rename_i h0;cases h';simp;omega
  ·cases h'
def Kl(op:BinOp)(hop:op=.and\/op=.or\/op=.xor)(a b:Int):0<=bits op .u8 a b/\bits op .u8 a b < 256:=by rcases hop with rfl|rfl|rfl<;> exact Vc _
def RM{op:BinOp}{k:IntKind}{a b:Int}(hx:opV (O.to E.toEnc I) x=some (.v (.int k a)))(hy:opV (O.to E.toEnc I) y=some (.v (.int k b))):
  (binI op k a b:PV E.T).ok fun u=>OpV P ⟨d,.binOp op t x y yt,ty,pos,af,g⟩ (O.to E.toEnc I) (u.to E.toEnc I):=by
 have nu:A5 k=true->k≠.u8:=fun h e=>by subst e;cases h
 cases op with
 |add=>simp only[binI,PV.ok,mz];exact fR hx hy rfl
 |sub=>simp only[binI,PV.ok,mz];exact fR hx hy rfl
 |mul=>simp only[binI,PV.ok,mz];exact fR hx hy rfl
 |quo=>
  intro z hz;unfold XC at hz;split at hz
  ·cases hz
  ·rename_i hb;cases hz;rw[mz];exact CJ hx hy rfl hb
 |rem=>
  simp only[binI];split
  ·rename_i hk;intro z hz;unfold UI at hz;split at hz
   ·cases hz
   ·rename_i hb;cases hz;rw[tl _ _ (fun h=>absurd h (nu hk))];exact Ei hx hy rfl hb
  ·rename_i hk;have hk':k=.u8:=YS (by rw[hk];intro h;cases h);subst hk';intro z hz;obtain⟨r,h1,h2⟩:=GG hz;unfold UI at h1;split at h1
   ·cases h1
   ·rename_i hb;cases h1;have:=Ei (P:=P) (d:=d) (t:=t) (yt:=yt) (ty:=ty) (pos:=pos) (af:=af) (g:=g) hx hy rfl hb;rw[<- h2] at this;exact this
 |and=>simp only[binI,PV.ok];rw[tl _ _ (fun h=>by subst h;exact Kl _ (.inl rfl) a b)];exact fR hx hy rfl
 |or=>simp only[binI,PV.ok];rw[tl _ _ (fun h=>by subst h;exact Kl _ (.inr (.inl rfl)) a b)];exact fR hx hy rfl
 |xor=>simp only[binI,PV.ok];rw[tl _ _ (fun h=>by subst h;exact Kl _ (.inr (.inr rfl)) a b)];exact fR hx hy rfl
 |eql=>exact fR hx hy rfl
 |neq=>exact fR hx hy rfl
 |lss=>exact fR hx hy rfl
 |leq=>exact fR hx hy rfl
 |gtr=>exact fR hx hy rfl
 |geq=>exact fR hx hy rfl
 |_=>trivial
def Se{op:BinOp}{a b:List UInt8}(hx:opV (O.to E.toEnc I) x=some (.v (.string (mkB a))))(hy:opV (O.to E.toEnc I) y=some (.v (.string (mkB b)))):
  (binS op a b:PV E.T).ok fun u=>OpV P ⟨d,.binOp op t x y yt,ty,pos,af,g⟩ (O.to E.toEnc I) (u.to E.toEnc I):=by
 cases op with
 |add=>
  intro z hz;unfold TI at hz;split at hz
  ·rename_i h;cases hz;exact Jd hx hy h
  ·cases hz
 |eql=>exact rP hx hy rfl
 |neq=>exact rP hx hy rfl
 |lss=>exact rP hx hy rfl
 |leq=>exact rP hx hy rfl
 |gtr=>exact rP hx hy rfl
 |geq=>exact rP hx hy rfl
 |_=>trivial
end
def ci{α:Type}(l:List α)(i:Int):Option α:=if 0<=i then l[i.toNat]? else none
def mI{α:Type}(l:List α)(i j:Int):Option (List α):=if 0<=i/\i<=j/\j<=l.length then some ((l.take j.toNat).drop i.toNat) else none
def Qe{α:Type}(l:List α)(i j m:Int):Option (List α):=if 0<=i/\i<=j/\j<=m/\m<=l.length then some ((l.take j.toNat).drop i.toNat) else none
def yO{T:Nat->Type}(O:TS T)(q:Option Operand)(z:Int):Option Int:=
 match q with
 |none=>some z
 |some q=>match asI (opT O q) with
  |some (.i64,i)=>some i
  |_=>none
def atomT{T:Nat->Type}:Value->TA T
 |.int .u8 n=>if((UInt8.ofNat n.toNat).toNat:Int)=n then .d .byte (UInt8.ofNat n.toNat) else .raw (.int .u8 n)
 |.int k n=>.d (.int k) n
 |.bool b=>.d .bool b
 |.string s=>.d .str s.data.toList
 |v=>.raw v
def ui(E:Enc)(I:Rn)(v:Value):(atomT v:TA E.T).to E I=.v v:=by
 cases v with
 |int k n=>
  cases k with
  |u8=>
   unfold atomT;simp only;split
   ·rename_i h;show AV.v (.int .u8 ((UInt8.ofNat n.toNat).toNat:Int))=_;rw[h]
   ·rfl
  |_=>rfl
 |_=>rfl
def TA.simple{T:Nat->Type}:TA T->Bool
 |.d (.nam _) _=>false
 |.d (.bits _) _=>false
 |.raw (.agg _)=>false
 |.raw (.tuple _)=>false
 |.clip _ _=>false
 |_=>true
def TV.cs{T:Nat->Type}:TV T->Option (List (TA T))
 |.a x=>match x.simple with|true=>some [x] |false=>none
 |.ag l=>some l
 |_=>none
def spl{α:Type}(cs:List α)(o:Nat)(us:List α):List α:=cs.take o++us++cs.drop (o+us.length)
def vT{T:Nat->Type}(O:TS T):List Operand->Option (List (TV T))
 | [] =>some []
 |x::xs=>match opT O x,vT O xs with
  |some u,some us=>some (u::us)
  |_,_=>none
def za(E:Env)(t:TypeId)(u:TV E.T):TV E.T:=
 match u with
 |.a (.raw (.slice none 0 0))=>match look E.et t,Yx E.nf t with
  |some (.sl ty),false=>.a (.own ty [])
  |_,_=>u
 |u=>u
def eO(E:Env):List TypeId->List (TV E.T)->List (TV E.T)
 |t::ts,u::us=>nrm (za E t u).rd::eO E ts us
 | [],us=>us.map fun u=>nrm u.rd
 |_,[] =>[]
def sR{T:Nat->Type}(pl:List (Nat × Nat)):List (TA T)->List Nat->List (TV T)->Option (List (TA T))
 |cs,[],[] =>some cs
 |cs,i::is,u::us=>match pl[i]?,u.cs with
  |some (off,n),some vs=>match Nat.beq vs.length n && Nat.ble (off+n) cs.length with
   |true=>sR pl (spl cs off vs) is us
   |false=>none
  |_,_=>none
 |_,_,_=>none
def tX(E:Env)(t:Ty):List (TV E.T)->Option (List (Den E.T t))
 | [] =>some []
 |u::us=>match u.cs,tX E t us with
  |some l,some xs=>match pkT E t l with
   |some (x,[])=>some (x::xs)
   |_=>none
  |_,_=>none
def IL{T:Nat->Type}:List (TV T)->Option (List (TA T))
 | [] =>some []
 |.a x::us=>match IL us with
  |some xs=>some (x::xs)
  |none=>none
 |_::_=>none
inductive PR (R:Type) where
 |ok (r:R)
 |pan (v:Value)
inductive XR (T:Nat->Type):Type 1 where
 |bad
 |ret {Z:Type} (o:Option Z) (ids:List Nat) (u:Z->TV T) (h:Z->List (Nat × TB T))
 |may {Z:Type} (o:Option (PR Z)) (ids:List Nat) (u:Z->TV T) (h:Z->List (Nat × TB T))
 |mv {Z:Type} (o:Option (PR Z)) (ids mv:List Nat) (nw:Nat) (u:Z->TV T) (h:Z->List (Nat × TB T))
structure Gam (E:Env) where
 f:List ((_:Nat) × (List (TV E.T)->PV E.T))
 q:List (Nat × List Ty)
 x:List ((_:Nat) × (List (TV E.T)->List (Nat × TB E.T)->XR E.T))
 mu:List Nat
def Gb{E:Env}:List ((_:Nat) × (List (TV E.T)->PV E.T))->Nat->Option (List (TV E.T)->PV E.T)
 | [],_=>none
 | ⟨k,h⟩::r,i=>match Nat.beq i k with|true=>some h|false=>Gb r i
def D0{E:Env}:List ((_:Nat) × (List (TV E.T)->List (Nat × TB E.T)->XR E.T))->Nat->Bool
 | [],_=>false
 | ⟨k,_⟩::r,i=>match Nat.beq i k with|true=>true|false=>D0 r i
def Eo{E:Env}:List ((_:Nat) × (List (TV E.T)->List (Nat × TB E.T)->XR E.T))->Nat->List (TV E.T)->List (Nat × TB E.T)->XR E.T
 | [],_,_,_=>.bad
 | ⟨k,h⟩::r,i,us,hs=>match Nat.beq i k with
   |true=>match h us hs with
    |.bad=>Eo r i us hs
    |x=>x
   |false=>Eo r i us hs
def vR{E:Env}:∀ {G:List ((_:Nat) × (List (TV E.T)->PV E.T))} {f:Nat} {h:List (TV E.T)->PV E.T},Gb G f=some h->⟨f,h⟩∈G
 | [],_,_,h=>by cases h
 | ⟨k,h0⟩::r,f,h,hl=>by
   simp only[Gb] at hl;split at hl
   ·rename_i e;cases hl;rw[ZK e];exact ZP
   ·exact ZM _ (vR hl)
def Yi(a b:Int):Bool:=a==b
def Zb(a b:Bool):Bool:=a==b
def Ur(a b:List UInt8):Bool:=decide (a=b)
def eqA{T:Nat->Type}(t:Ty)(x y:TA T):Option Bool:=
 match t with
 |.int k=>match asD (.int k) x,asD (.int k) y with
  |some a,some b=>some (Yi a b)
  |_,_=>none
 |.byte=>match asD .byte x,asD .byte y with
  |some a,some b=>some (Yi ((UInt8.toNat a:Nat):Int) ((UInt8.toNat b:Nat):Int))
  |_,_=>none
 |.bool=>match asD .bool x,asD .bool y with
  |some a,some b=>some (Zb a b)
  |_,_=>none
 |.str=>match asD .str x,asD .str y with
  |some a,some b=>some (Ur a b)
  |_,_=>none
 |_=>none
def eqT{T:Nat->Type}:List Ty->List (TA T)->List (TA T)->Option Bool
 | [],[],[] =>some true
 |t::ts,x::xs,y::ys=>match eqA t x y,eqT ts xs ys with
  |some p,some q=>some (p && q)
  |_,_=>none
 |_,_,_=>none
def Yo{E:Env}(q:List (Nat × List Ty))(op:BinOp)(t:TypeId)(a b:List (TA E.T)):PV E.T:=
 match look q t with
 |some ts=>match eqT ts a b,op with
  |some r,.eql=>.one (.a (.d .bool r))
  |some r,.neq=>.one (.a (.d .bool (!r)))
  |_,_=>.bad
 |none=>.bad
def In{P:Program}(Y:Tys P)(E:Env)(O:TS E.T)(t t2:TypeId)(x:Operand):PV E.T:=
 match look Y.ty t,look Y.ty t2 with
 |some _,some (.int k)=>match asI (opT O x) with
  |some (_,n)=>.one (mkI k (k.wrap n))
  |none=>.bad
 |some .string,some .string=>match asS (opT O x) with
  |some s=>.one (.a (.d .str s))
  |none=>.bad
 |some (.slice e),some .string=>match look Y.ty e,asL (opT O x) with
  |some (.int .u8),some ⟨.byte,l⟩=>.one (.a (.d .str l))
  |_,_=>.bad
 |some .string,some (.slice e)=>match look Y.ty e,asS (opT O x) with
  |some (.int .u8),some s=>.one (.a (.own .byte s))
  |_,_=>.bad
 |_,_=>.bad
def MT:TypeDesc->Option Ty
 |.int .u8=>none
 |.int k=>some (.int k)
 |.bool=>some .bool
 |.string=>some .str
 |_=>none
def sD{T:Nat->Type}(t:Ty)(v:Value):Option (Den T t):=match t,v with
 |.int k,.int k' n=>match decide (k=k') with
  |true=>some n
  |false=>none
 |.bool,.bool b=>some b
 |.str,.string s=>some s.data.toList
 |_,_=>none
def ifT{T:Nat->Type}:TV T->Option (TC T)
 |.a x=>match x.plain with
  |true=>some (.a x)
  |false=>none
 |.ag l=>some (.ag l)
 |_=>none
def XE:TypeDesc->Bool
 |.interface _=>false
 |_=>true
def V1{P:Program}(Y:Tys P)(E:Env)(G:Gam E)(O:TS E.T)(op:Op)(ty:TypeId):PV E.T:=
 match op with
 |.move (.func f)|.assign (.func f)=>.one (.fn f [])
 |.move x|.assign x=>match opT O x with
  |some u=>.one (za E ty u.rd)
  |none=>.bad
 |.binOp op t x y _=>match opT O x,opT O y with
  |some (.ag a),some (.ag b)=>Yo G.q op t a b
  |_,_=>Qm Y O op t x y
 |.unOp .not _ x=>match opT O x with
  |some (.a (.d .bool b))=>.one (.a (.d .bool (!b)))
  |some (.a .tt)=>.one (.a .ff)
  |some (.a .ff)=>.one (.a .tt)
  |_=>.bad
 |.unOp .neg _ x=>match asI (opT O x) with
  |some (k,n)=>.one (mkI k (k.wrap (0 - n)))
  |none=>.bad
 |.unOp .xor _ x=>match asI (opT O x) with
  |some (k,n)=>.one (mkI k (bits .xor k (if k.signed then -1 else k.max) n))
  |none=>.bad
 |.convert t t2 x=>In Y E O t t2 x
 |.extract x i=>match opT O x with
  |some (.tu us)=>match us[i]? with
   |some (.a u)=>.one (.a u.rd)
   |some (.ag l)=>.one (.ag l)
   |none=>.bad
  |_=>.bad
 |.index t x y=>match look Y.ty t,asS (opT O x),asI (opT O y) with
  |some .string,some s,some (_,i)=>.opt (ci s i) fun b=>.a (.d .byte b)
  |_,_,_=>.bad
 |.slice t x lo hi none=>match look Y.ty t with
  |some .string=>match asS (opT O x) with
   |some s=>match yO O lo 0,yO O hi s.length with
    |some i,some j=>.opt (mI s i j) fun r=>.a (.d .str r)
    |_,_=>.bad
   |none=>.bad
  |some (.slice e)=>match asL (opT O x) with
   |some ⟨ty,l⟩=>match look Y.sz e,yO O lo 0,yO O hi l.length with
    |some (sz,_),some i,some j=>match Nat.beq sz (csz E.toEnc ty) with
     |true=>.opt (mI l i j) fun r=>.a (.d (.sl ty) r)
     |false=>.bad
    |_,_,_=>.bad
   |none=>.bad
  |_=>.bad
 |.slice t x lo (some hi) (some m)=>match look Y.ty t with
  |some (.slice e)=>match asL (opT O x) with
   |some ⟨ty,l⟩=>match look Y.sz e,yO O lo 0,asI (opT O hi),asI (opT O m) with
    |some (sz,_),some i,some (_,j),some (_,m)=>match Nat.beq sz (csz E.toEnc ty) with
     |true=>.opt (Qe l i j m) fun r=>.a (.d (.sl ty) r)
     |false=>.bad
    |_,_,_,_=>.bad
   |none=>.bad
  |_=>.bad
 |.indexAddr t x y=>match look Y.ty t,asL (opT O x),asI (opT O y) with
  |some (.slice e),some ⟨ty,l⟩,some (_,i)=>match look Y.sz e with
   |some (sz,_)=>match Nat.beq sz (csz E.toEnc ty) with
    |true=>.opt (ci l i) fun z=>.el (cL E ty z)
    |false=>.bad
   |none=>.bad
  |_,_,_=>.bad
 |.fieldAddr t x i=>match look Y.ty t with
  |some (.struct fs)=>match fs[i]? with
   |some f=>match look Y.sz f.type with
    |some fsz=>match Nat.ble 1 fsz.1 with
     |true=>match opT O x with
      |some (.el cs)=>match Nat.ble f.offset cs.length with
       |true=>.one (.el (cs.drop f.offset))
       |false=>.bad
      |some (.a (.box k o))=>.one (.a (.box k (o+f.offset)))
      |_=>.bad
     |false=>.bad
    |none=>.bad
   |none=>.bad
  |_=>.bad
 |.load t x=>match opT O x,look Y.ty t with
  |some (.el cs),some (.struct fs)=>match look Y.sz t with
   |some (n,_)=>match Nat.ble n cs.length with
    |true=>.one (.ag (cs.take n))
    |false=>.bad
   |none=>.bad
  |some (.el (c::_)),some dsc=>match kH dsc with
   |true=>.one (.a c.rd)
   |false=>.bad
  |some (.a (.box k o)),some (.struct fs)=>match look O.h k,look Y.sz t with
   |some (.cs cs),some (n,_)=>match Nat.ble (o+n) cs.length with
    |true=>.one (.ag (((cs.drop o).take n).map TA.rd))
    |false=>.bad
   |_,_=>.bad
  |some (.a (.box k o)),some dsc=>match kH dsc,look O.h k with
   |true,some (.cs cs)=>match cs[o]? with
    |some c=>.one (.a c.rd)
    |none=>.bad
   |_,_=>.bad
  |_,_=>.bad
 |.build t ps=>match look Y.ty t,look Y.zr t with
  |some (.struct fs),some zv=>match rJ Y fs.toList,vT O (ps.toList.map (·.2)) with
   |some pl,some us=>match sR pl (zv.cells.toList.map atomT) (ps.toList.map (·.1)) us with
    |some cs=>.one (.ag (cs.map TA.rd))
    |none=>.bad
   |_,_=>.bad
  |_,_=>.bad
 |.buildSlice t len ps=>match look Y.ty t,look E.et t with
  |some (.slice e),some (.sl ty)=>match look Y.sz e,vT O (ps.toList.map (·.2)) with
   |some (sz,_),some us=>match tX E ty us with
    |some xs=>match Nat.beq sz (csz E.toEnc ty) && oG ps.toList 0 && Nat.beq len ps.toList.length && Nat.ble (len * sz) 16777216 with
     |true=>.one (.a (.own ty xs))
     |false=>.bad
    |none=>.bad
   |_,_=>.bad
  |_,_=>.bad
 |.nilCheck x=>match opT O x with
  |some (.a (.box k o))=>.one (.a (.box k o))
  |some (.el cs)=>.one (.el cs)
  |_=>.bad
 |.makeFunc (.func f) first caps=>match first.toList with
  | [] =>match vT O caps.toList with
    |some us=>match IL us with
     |some xs=>.one (.fn f xs)
     |none=>.bad
    |none=>.bad
  |_=>.bad
 |.call { callee:=.builtin .len,args:=xs,argTypes:=ats }=>match xs.toList,ats[0]? with
  | [x],some t=>match look Y.ty t with
    |some .string=>match asS (opT O x) with
     |some s=>.one (.a (.d (.int .i64) (s.length:Int)))
     |none=>.bad
    |some (.slice _)=>match asL (opT O x) with
     |some ⟨_,l⟩=>.one (.a (.d (.int .i64) (l.length:Int)))
     |none=>.bad
    |_=>.bad
  |_,_=>.bad
 |.call { callee:=.builtin .min,args:=xs,argTypes:=_ }=>match xs.toList with
  | [x,y] =>match asI (opT O x),asI (opT O y) with
    |some (.i64,a),some (.i64,b)=>.one (.a (.d (.int .i64) (if b < a then b else a)))
    |_,_=>.bad
  |_=>.bad
 |.call { callee:=.builtin .max,args:=xs,argTypes:=_ }=>match xs.toList with
  | [x,y] =>match asI (opT O x),asI (opT O y) with
    |some (.i64,a),some (.i64,b)=>.one (.a (.d (.int .i64) (if a < b then b else a)))
    |_,_=>.bad
  |_=>.bad
 |.call { callee:=.value (.func f),args:=xs,argTypes:=ats }=>match Gb G.f f,vT O xs.toList with
  |some h,some us=>h (eO E ats.toList us)
  |_,_=>.bad
 |.call { callee:=.value (.tmp s),args:=xs,argTypes:=ats }=>match look O.t s with
  |some (.fn f [])=>match Gb G.f f,vT O xs.toList with
   |some h,some us=>h (eO E ats.toList us)
   |_,_=>.bad
  |_=>.bad
 |.field t x i=>match opT O x,look Y.ty t with
  |some (.ag cs),some (.struct fs)=>match fs[i]? with
   |some f=>match look Y.ty f.type,cs[f.offset]? with
    |some dsc,some c=>match kH dsc with
     |true=>.one (.a c.rd)
     |false=>.bad
    |_,_=>.bad
   |none=>.bad
  |_,_=>.bad
 |.lookup t x y ok=>match look Y.ty t,opT O x,asS (opT O y) with
  |some (.map kt et),some (.a (.mpr k)),some key=>match look Y.ty kt,look Y.zr et,look O.h k with
   |some .string,some zv,some (.smap ty l)=>match sD ty zv,ok with
    |some z,true=>.one (.tu [.a (.d ty ((E0 l key).getD z)),.a (.d .bool (E0 l key).isSome)])
    |some z,false=>.one (.a (.d ty ((E0 l key).getD z)))
    |none,_=>.bad
   |_,_,_=>.bad
  |_,_,_=>.bad
 |.makeInterface t x=>match opT O x,look Y.ty t with
  |some u,some dsc=>match ifT u,XE dsc with
   |some c,true=>.one (.ifc t c)
   |_,_=>.bad
  |_,_=>.bad
 |_=>.bad
def cf(n:Nat)(i:Int):Option Nat:=if 0<=i/\i < n then some i.toNat else none
def DW(c:Nat)(i j:Int):Option (Nat × Nat):=if 0<=i/\i<=j/\j<=c then some (i.toNat,j.toNat) else none
def U3{α:Type}(off n:Nat)(l:List α):Option (List α):=if off=0/\n=l.length then some l else none
def offN(off c i:Nat):Nat:=if c=i then off else off+i
def sz1{P:Program}(Y:Tys P)(e:TypeId):Bool:=match look Y.sz e with
 |some (1,_)=>true
 |_=>false
def VJ{P:Program}(Y:Tys P)(E:Env)(O:TS E.T)(op:Op):PV E.T:=
 match op with
 |.indexAddr t x y=>match opT O x,asI (opT O y),look Y.ty t with
  |some (.a (.bsl k off n _)),some (_,i),some (.slice e)=>match sz1 Y e with
   |true=>.opt (cf n i) fun j=>.a (.box k (off+j))
   |false=>.bad
  |some (.a (.box k off)),some (_,i),some (.array n e)=>match sz1 Y e with
   |true=>.opt (cf n i) fun j=>.a (.box k (off+j))
   |false=>.bad
  |_,_,_=>.bad
 |.load t x=>match opT O x,look Y.ty t with
  |some (.a (.box k o)),some dsc=>match kH dsc,look O.h k with
   |true,some (.row ty l)=>match ty.lone with
    |true=>.opt l[o]? fun z=>.a (.d ty z)
    |false=>.bad
   |_,_=>.bad
  |_,_=>.bad
 |.slice t x lo hi none=>match opT O x,look Y.ty t with
  |some (.a (.bsl k off n c)),some (.slice e)=>match sz1 Y e,yO O lo 0,yO O hi n with
   |true,some i,some j=>.opt (DW c i j) fun p=>.a (.bsl k (offN off c p.1) (p.2 - p.1) (c - p.1))
   |_,_,_=>.bad
  |some (.a (.box k off)),some (.array n e)=>match sz1 Y e,yO O lo 0,yO O hi n with
   |true,some i,some j=>.opt (DW n i j) fun p=>.a (.bsl k (offN off n p.1) (p.2 - p.1) (n - p.1))
   |_,_,_=>.bad
  |_,_=>.bad
 |.convert t t2 x=>match look Y.ty t,look Y.ty t2,opT O x with
  |some (.slice e),some .string,some (.a (.bsl k off n _))=>match look Y.ty e,look O.h k with
   |some (.int .u8),some (.row .byte l)=>.opt (U3 off n l) fun s=>.a (.d .str s)
   |_,_=>.bad
  |_,_,_=>.bad
 |.call { callee:=.builtin .len,args:=xs,argTypes:=ats }=>match xs.toList,ats[0]? with
  | [x],some t=>match look Y.ty t,opT O x with
    |some (.slice _),some (.a (.bsl _ _ n _))=>.one (.a (.d (.int .i64) (n:Int)))
    |_,_=>.bad
  |_,_=>.bad
 |.binOp op t x y _=>match opT O x,opT O y with
  |some (.a (.raw (.slice none 0 0))),some (.a (.raw (.slice none 0 0)))=>match look Y.ty t,op with
   |some (.slice _),.eql=>.one (.a .tt)
   |some (.slice _),.neq=>.one (.a .ff)
   |_,_=>.bad
  |_,_=>.bad
 |_=>.bad
def Id{P:Program}(Y:Tys P)(e:TypeId)(n:Nat):Bool:=match look Y.sz e with
 |some (m,_)=>Nat.beq m n
 |none=>false
def pm{T:Nat->Type}(h:List (Nat × TB T))(t:Ty)(k:Nat):Option (List (Den T t)):=match look h k with
 |some (.vec k' t' l)=>match Nat.beq k' k with
  |true=>j9 (.sl t') (.sl t) l
  |false=>none
 |_=>none
def AE(n:Nat)(p:Option (List Bool))(i:Int):Option Bool:=p.bind fun l=>(cf n i).map fun j=>l.getD j false
def Xd{P:Program}(Y:Tys P)(E:Env)(O:TS E.T)(op:Op):PV E.T:=
 match op with
 |.lookup t x y ok=>match look Y.ty t,opT O x,asI (opT O y) with
  |some (.map kt et),some (.a (.mpr k)),some (.i64,key)=>match look Y.ty kt,look Y.zr et,look O.h k with
   |some (.int .i64),some zv,some (.imap ty l)=>match sD ty zv,ok with
    |some z,true=>.one (.tu [.a (.d ty ((mL l key).getD z)),.a (.d .bool (mL l key).isSome)])
    |some z,false=>.one (.a (.d ty ((mL l key).getD z)))
    |none,_=>.bad
   |_,_,_=>.bad
  |_,_,_=>.bad
 |.nilCheck x=>match opT O x with
  |some (.a (.d (.ptr (.nam i)) p))=>.opt p fun y=>.el (E.unp i y)
  |some (.a (.d (.ptr (.bits n)) p))=>.opt p fun y=>.a (.d (.ptr (.bits n)) (some y))
  |_=>.bad
 |.indexAddr t x y=>match opT O x,asI (opT O y),look Y.ty t with
  |some (.a (.d (.ptr (.bits n)) p)),some (_,i),some (.array m e)=>match sz1 Y e && Nat.beq m n with
   |true=>.opt (AE n p i) fun b=>.el [.d .bool b]
   |false=>.bad
  |some (.a (.vec ty k n)),some (_,i),some (.slice e)=>match Id Y e (csz E.toEnc ty) with
   |true=>.opt (cf n i) fun j=>.a (.pel ty k j 0)
   |false=>.bad
  |some (.a (.vsl ty k off n)),some (_,i),some (.slice e)=>match Id Y e (csz E.toEnc ty) with
   |true=>.opt (cf n i) fun j=>.a (.pel ty k (off+j) 0)
   |false=>.bad
  |_,_,_=>.bad
 |.fieldAddr t x i=>match opT O x,look Y.ty t with
  |some (.a (.pel ty k j o)),some (.struct fs)=>match fs[i]? with
   |some f=>match look Y.sz f.type with
    |some fsz=>match Nat.ble 1 fsz.1 with
     |true=>.one (.a (.pel ty k j (o+f.offset)))
     |false=>.bad
    |none=>.bad
   |none=>.bad
  |_,_=>.bad
 |.load t x=>match opT O x with
  |some (.a (.pel ty k j o))=>match pm O.h ty k,look Y.ty t with
   |some l,some (.struct _)=>match Nat.beq o 0 && Id Y t (csz E.toEnc ty) with
    |true=>.opt l[j]? fun z=>.ag (cL E ty z)
    |false=>.bad
   |some l,some dsc=>match kH dsc && Nat.blt o (csz E.toEnc ty) with
    |true=>.opt l[j]? fun z=>.a ((cL E ty z).getD o (.raw undef)).rd
    |false=>.bad
   |_,_=>.bad
  |_=>.bad
 |.slice t x (some lo) none none=>match opT O x,asI (opT O lo),look Y.ty t with
  |some (.a (.vec ty k n)),some (.i64,i),some (.slice e)=>match Id Y e (csz E.toEnc ty) with
   |true=>.opt (DW n i n) fun p=>.a (.vsl ty k p.1 (n - p.1))
   |false=>.bad
  |_,_,_=>.bad
 |.call { callee:=.builtin .len,args:=xs,argTypes:=ats }=>match xs.toList,ats[0]? with
  | [x],some t=>match look Y.ty t,opT O x with
    |some (.slice _),some (.a (.vec _ _ n))=>.one (.a (.d (.int .i64) (n:Int)))
    |some (.slice _),some (.a (.vsl _ _ _ n))=>.one (.a (.d (.int .i64) (n:Int)))
    |_,_=>.bad
  |_,_=>.bad
 |_=>.bad
def evP{P:Program}(Y:Tys P)(E:Env)(G:Gam E)(O:TS E.T)(op:Op)(ty:TypeId):PV E.T:=
 match Xd Y E O op with
 |.bad=>match VJ Y E O op with
  |.bad=>V1 Y E G O op ty
  |v=>v
 |v=>v
def Le1.trans{a b c:AV}(h:Le1 a b)(k:Le1 b c):Le1 a c:=by
 cases h with
 |refl=>exact k
 |rd o sz l=>cases k<;> exact .rd _ _ _
 |nil o sz=>cases k<;> exact .nil _ _
def LeL.trans{a b c:List AV}(h:LeL a b)(k:LeL b c):LeL a c:=by
 induction h generalizing c with
 |nil=>exact k
 |cons hu _ ih=>cases k with|cons ku kr=>exact .cons (hu.trans ku) (ih kr)
def qO(u:AV):Le1 u u.rd:=by cases u<;> first|exact .refl _|exact .rd _ _ _
section
variable {P:Program} {o:Oper} {O:AS}
def Rm{u u':AV}(h:OpV P o O u)(hl:Le1 u u'):OpV P o O u':=by
 cases hl with
 |refl=>exact h
 |rd ow sz l=>exact fun F X a hs=>(h F X a hs).mono fun x w' ⟨X',h1,h2,h3,h4,h5⟩=>⟨X',h1,h2,h3,h4.own,FreshOk.plain rfl⟩
 |nil ow sz=>
  refine fun F X a hs=>(h F X a hs).mono fun x w' ⟨X',h1,h2,h3,h4,h5⟩=> ?_;have hx:=cE h4;subst hx;refine⟨X',h1,h2,h3,.nl _ _ _ _,fun sz' l hq=> ?_⟩;cases ow with
  |false=>cases hq
  |true=>cases hq;exact⟨.inl ⟨rfl,rfl⟩,fun a n c e=>by cases e⟩
def A0{X:GW}{cs cs':List AV}{v:Value}(h:Rel X (.ag cs) v)(hl:LeL cs cs'):Rel X (.ag cs') v:=by
 cases h with
 |ag us xs hlen hr=>refine .ag cs' xs (by rw[<- hl.length];exact hlen) fun i u' x hu hx=> ?_;obtain⟨u,h1,h2⟩:=hl.get i u' hu;exact h2.rel (hr i u x h1 hx)
def Ls{cs cs':List AV}(h:OpV P o O (.ag cs))(hl:LeL cs cs'):OpV P o O (.ag cs'):=
 fun F X a hs=>(h F X a hs).mono fun x w' ⟨X',h1,h2,h3,h4,h5⟩=>⟨X',h1,h2,h3,A0 h4 hl,FreshOk.plain rfl⟩
inductive LeR:List (List AV)->List (List AV)->Prop
 |nil:LeR [] []
 |cons {r r':List AV} {R R':List (List AV)}:LeL r r'->LeR R R'->LeR (r::R) (r'::R')
def LeR.length{R R':List (List AV)}(h:LeR R R'):R.length=R'.length:=by induction h<;> simp_all
def LeR.get{R R':List (List AV)}(h:LeR R R'):∀ (i:Nat) r',R'[i]? =some r'->∃r,R[i]? =some r/\LeL r r':=by
 induction h with
 |nil=>intro i r' h;simp at h
 |cons hr _ ih=>
  intro i r' h;cases i with
  |zero=>simp at h;subst h;exact⟨_,by simp,hr⟩
  |succ i=>simpa using ih i r' (by simpa using h)
def Ga{X:GW}{ow:Bool}{sz:Nat}{R R':List (List AV)}{v:Value}(h:Rel X (.sl ow sz R) v)(hl:LeR R R'):Rel X (.sl ow sz R') v:=by
 cases h with
 |nl _ _ a c=>cases hl;exact .nl _ _ _ _
 |sl _ _ _ b off cap n c hg hn hc hs hm hr=>
  rw[hl.length];refine .sl ow sz R' b off cap n c hg (by rw[<- hl.length];exact hn) (by rw[<- hl.length];exact hc) (fun i r' hr'=> ?_) (fun i j r' u' hr' hu'=> ?_) (fun i j r' u' hr' hu'=> ?_)
  ·obtain⟨r,h1,h2⟩:=hl.get i r' hr';rw[<- h2.length];exact hs i r h1
  ·obtain⟨r,h1,h2⟩:=hl.get i r' hr';obtain⟨u,k1,k2⟩:=h2.get j u' hu';exact hm i j r u h1 k1
  ·obtain⟨r,h1,h2⟩:=hl.get i r' hr';obtain⟨u,k1,k2⟩:=h2.get j u' hu';exact k2.rel (hr i j r u h1 k1)
def Lg{F:Nat->Prop}{X:GW}{sz:Nat}{R R':List (List AV)}{v:Value}(h:gH F X sz R v)(hl:R.length=R'.length):gH F X sz R' v:=by
 rcases h with ⟨h1,h2⟩| ⟨b,cap,cs,e,fr,h1,h2,h3,h4,h5,h6⟩
 ·left;refine⟨h1,?_⟩;subst h2;exact aal.1 (by rw[<- hl];rfl)
 ·right;rw[hl] at h1 h2 h5;exact⟨b,cap,cs,e,fr,h1,h2,h3,h4,h5,h6⟩
def GR{ow:Bool}{sz:Nat}{R R':List (List AV)}(h:OpV P o O (.sl ow sz R))(hl:LeR R R'):OpV P o O (.sl ow sz R'):=
 fun F X a hs=>(h F X a hs).mono fun x w' ⟨X',h1,h2,h3,h4,h5⟩=>by
  refine⟨X',h1,h2,h3,Ga h4 hl,fun sz' l hq=> ?_⟩;cases ow with
  |false=>cases hq
  |true=>cases hq;obtain⟨k1,k2⟩:=h5 _ _ rfl;exact⟨Lg k1 hl.length,k2⟩
end
def EO{P:Program}{len cap:Nat}{lo:Option Value}{i j m:Int}{k1 k2:IntKind}{w:World}(hlo:Hc lo i 0)(h1:0<=i)(h2:i<=j)(h3:j<=m)(h4:m<=cap):
  (Instr.sliceBounds true len cap lo (some (.int k1 j)) (some (.int k2 m))).run P w=.ok (i.toNat,j.toNat,m.toNat) w:=by
 have hM:∀ (c:BoundsCode),(Instr.sliceBound (.int k2 m) cap c).run P w=.ok m.toNat w:=fun c=>n8 (by omega) h4;have hB:∀ (c:BoundsCode),(Instr.sliceBound (.int k1 j) m.toNat c).run P w=.ok j.toNat w:=fun c=>n8 (by omega) (by omega)
 have hA:∀ (k:IntKind) (c:BoundsCode),(Instr.sliceBound (.int k i) j.toNat c).run P w=.ok i.toNat w:=fun k c=>n8 h1 (by omega);cases lo with
 |none=>simp only[Hc] at hlo;subst hlo;simp[Instr.sliceBounds,hM,hB]
 |some v0=>obtain⟨k0,rfl⟩:=hlo;simp[Instr.sliceBounds,hM,hB,hA]
def EA{P:Program}{T:Tys P}{O:AS}{d:Option Tmp}{t ty e:TypeId}{x hi mx:Operand}{pos:String}{af:Array Edge}{g:Option (Nat × Bool)}{lo:Option Operand}{o:Bool}{sz:Nat}{l:List (List AV)}{k1 k2 k3:IntKind}{i j m:Int}{by_:Nat}(hx:opV O x=some (.sl o sz l))(h0:look T.ty t=some (.slice e))(hsz:look T.sz e=some (sz,by_))
  (hlo:nY O lo k1 i 0) (hhi:opV O hi=some (.v (.int k2 j))) (hmx:opV O mx=some (.v (.int k3 m))) (h1:0<=i) (h2:i<=j) (h3:j<=m) (h4:m<=l.length)  {F:Nat->Prop} {X:GW} (ac:Act) (hs:SimR F X O (.slice t x lo (some hi) (some mx)) ac.tmps):
  ∃a',(execOp ac.eval ⟨d,.slice t x lo (some hi) (some mx),ty,pos,af,g⟩).run P X.w=.ok (.value (.slice a' (j.toNat - i.toNat) (m.toNat - i.toNat))) X.w/\Rel X (.sl false sz ((l.take j.toNat).drop i.toNat)) (.slice a' (j.toNat - i.toNat) (m.toNat - i.toNat)):=by
 have e1:=cO hs (by simp[Op.operands]) hx;have e2:=aZ hs (by cases lo<;> simp[Op.operands]) hhi;have e3:=aZ hs (by cases lo<;> simp[Op.operands]) hmx;have hu:=T.tyOk _ _ h0;obtain⟨inf,hi1,hi2,hi3⟩:=T.szOk _ _ _ hsz;have hls:∀w:World,(sizeOf e).run P w=.ok sz w:=fun w=>by simp[sizeOf,typeInfo,hi1,hi2]
 obtain⟨a0,c0,hform⟩:=gI e1;have hcap:l.length<=c0:=by
  rcases ni e1 with ⟨h,hl⟩| ⟨b,off,cap,n,h,_,_,hc,_⟩
  ·rw[hl];exact aad _
  ·rw[hform] at h;cases h;exact hc
 have hB:=EO (P:=P) (len:=l.length) (cap:=c0) (w:=X.w) (k1:=k2) (k2:=k3) (jJ (q:=lo) (k:=k1) (i:=i) (z:=0) hs (fun p hp=>by subst hp;simp[Op.operands]) hlo) h1 h2 h3 (by omega);refine⟨(if m.toNat=i.toNat then a0 else a0.map (·.add (i.toNat * sz))),?_,?_⟩
 ·simp only[execOp,hform,e2,e3];refine bd ?_;simp only[Instr.sliceAt,Instr.slice,Option.map_some,e2,e3];simp[run_underlying hu,hB,hls]
 ·have hlen:((l.take j.toNat).drop i.toNat).length=j.toNat - i.toNat:=by simp;omega
  rcases ni e1 with ⟨⟨a1,c1,h⟩,hl⟩| ⟨b,off,cap,n,h,hg,hn,hc,c,c1,c2,c3⟩
  ·subst hl;have:j.toNat - i.toNat=0:=by simp at h4;omega
   rw[this];simp only[List.take_nil,List.drop_nil];exact .nl _ _ _ _
  ·rw[hform] at h;cases h;rw[<- hlen];by_cases hci:m.toNat=i.toNat
   ·rw[ZI hci];have hnil:(l.take j.toNat).drop i.toNat=[] :=abH (by omega);rw[hnil];exact .sl _ _ [] b off _ n (fun _ _=>undef) hg (by simp;have:=aad (l.length * sz);omega) (aad _) (by simp) (by simp) (by simp)
   ·rw[ZH hci];simp only[Option.map,e9];have hget:∀ (q:Nat) (r:List AV),((l.take j.toNat).drop i.toNat)[q]? =some r->l[i.toNat+q]? =some r:=by
     intro q r hr;rw[aaq,ZX] at hr;split at hr
     ·exact hr
     ·cases hr
    refine .sl _ _ _ b (off+i.toNat * sz) _ n (fun q p=>c (i.toNat+q) p) hg ?_ (by omega) (fun q r hr=>c1 _ r (hget q r hr)) (fun q p r u hr hu=> ?_) (fun q p r u hr hu=>c3 _ p r u (hget q r hr) hu)
    ·rw[hlen,abM,<- aae,show i.toNat+ (j.toNat - i.toNat)=j.toNat by omega];have:j.toNat * sz<=l.length * sz:=aaa _ (by omega);omega
    ·rw[<- c2 (i.toNat+q) p r u (hget q r hr) hu,aae]
     congr 2;omega
def HL{P:Program}{T:Tys P}{O:AS}{d:Option Tmp}{t ty e:TypeId}{x hi mx:Operand}{pos:String}{af:Array Edge}{g:Option (Nat × Bool)}{lo:Option Operand}{o:Bool}{sz:Nat}{l:List (List AV)}{k1 k2 k3:IntKind}{i j m:Int}{by_:Nat}(hx:opV O x=some (.sl o sz l))(h0:look T.ty t=some (.slice e))(hsz:look T.sz e=some (sz,by_))
  (hlo:nY O lo k1 i 0) (hhi:opV O hi=some (.v (.int k2 j))) (hmx:opV O mx=some (.v (.int k3 m))) (h1:0<=i) (h2:i<=j) (h3:j<=m) (h4:m<=l.length):
  OpV P ⟨d,.slice t x lo (some hi) (some mx),ty,pos,af,g⟩ O (.sl false sz ((l.take j.toNat).drop i.toNat)):=
 aQ rfl fun F X ac hs=>let ⟨a',h⟩:=EA (d:=d) (ty:=ty) (pos:=pos) (af:=af) (g:=g) hx h0 hsz hlo hhi hmx h1 h2 h3 h4 ac hs;⟨_,h⟩
def Tj{P:Program}{O:AS}{d:Option Tmp}{ty:TypeId}{x y:Operand}{pos:String}{af:Array Edge}{g:Option (Nat × Bool)}{ats:Array TypeId}{k k':IntKind}{a b:Int}(hx:opV O x=some (.v (.int k a)))(hy:opV O y=some (.v (.int k' b))):
  OpV P ⟨d,.call { callee:=.builtin .max,args:= #[x,y],argTypes:=ats },ty,pos,af,g⟩ O (.v (.int k (if a < b then b else a))):=by
 refine aQ rfl fun F X ac hs=>⟨_,?_,.v _⟩
 have h1:=aZ hs (by simp[Op.operands,Call.operands]) hx;have h2:=aZ hs (by simp[Op.operands,Call.operands]) hy;simp[execOp,resolve,invoke,builtin,Builtin.max_,Builtin.max2,h1,h2]
def Rw{P:Program}{O:AS}{d:Option Tmp}{t ty:TypeId}{x:Operand}{pos:String}{af:Array Edge}{g:Option (Nat × Bool)}{op:UnOp}{k:IntKind}{a:Int}(hx:opV O x=some (.v (.int k a)))(hop:op=.xor):OpV P ⟨d,.unOp op t x,ty,pos,af,g⟩ O (.v (.int k (bits .xor k (if k.signed then -1 else k.max) a))):=by
 subst hop;refine aQ rfl fun F X ac hs=>⟨_,?_,.v _⟩
 have h1:=aZ hs (by simp[Op.operands]) hx;simp only[execOp,h1];refine bd ?_;rfl
def HD{α:Type}{l r:List α}{i j m:Int}(h:Qe l i j m=some r):0<=i/\i<=j/\j<=m/\m<=l.length/\r=(l.take j.toNat).drop i.toNat:=by
 unfold Qe at h;split at h
 ·rename_i h0;cases h;exact⟨h0.1,h0.2.1,h0.2.2.1,h0.2.2.2,rfl⟩
 ·cases h
section
variable {P:Program} {Y:Tys P} {E:Env} {I:Rn} {O:TS E.T} {d:Option Tmp} {t t2 yt ty e:TypeId} {x y z:Operand} {pos:String} {af:Array Edge} {g:Option (Nat × Bool)}
theorem je:∀ {xs:List Operand} {us:List (TV E.T)},vT O xs=some us->tQ (O.to E.toEnc I) xs=some (us.map (TV.to E.toEnc I))
 | [],us,h=>by cases h;rfl
 |x::xs,us,h=>by
  simp only[vT] at h;split at h
  ·rename_i u us' h1 h2;cases h;simp only[tQ,aF h1,je h2,List.map_cons]
  ·cases h
def vy(t:TypeId)(u:TV E.T):Le1 (u.to E.toEnc I) ((za E t u).to E.toEnc I):=by
 unfold za;split
 ·split
  ·exact .nil _ _
  ·exact .refl _
 ·exact .refl _
def Es(t:TypeId)(u:TV E.T):Le1 (u.to E.toEnc I) ((nrm (za E t u).rd).to E.toEnc I):=by rw[o6,TV.rd_to];exact(vy t u).trans (qO _)
theorem IV(u:AV):de (some u.rd)=none:=eq u
def iq:∀ (ts:List TypeId) (us:List (TV E.T)),us.length=(eO E ts us).length->LeL (us.map (TV.to E.toEnc I)) ((eO E ts us).map (TV.to E.toEnc I))
 | [],us,_=>by
   simp only[eO,List.map_map]
   induction us with
   |nil=>exact .nil
   |cons u us ih=>exact .cons (show Le1 _ ((nrm (TV.rd u)).to E.toEnc I) by rw[o6,TV.rd_to];exact qO _) (ih (by simp[eO]))
 |t::ts,[],_=>.nil
 |t::ts,u::us,h=>.cons (Es t u) (iq ts us (by simpa[eO] using h))
def gJ:∀ (ts:List TypeId) (us:List (TV E.T)),us.length=(eO E ts us).length
 | [],us=>by simp[eO]
 |t::ts,[] =>rfl
 |t::ts,u::us=>by simp only[eO,List.length_cons];rw[gJ ts us]
def fI:∀ (ts:List TypeId) (us:List (TV E.T)),((eO E ts us).map (TV.to E.toEnc I)).all (fun u=>(de (some u)).isNone)=true
 | [],us=>by simp only[eO,List.map_map,List.all_map,List.all_eq_true];intro u _;simp only[Function.comp,o6,TV.rd_to,IV];rfl
 |t::ts,[] =>rfl
 |t::ts,u::us=>by simp only[eO,List.map_cons,List.all_cons,o6,TV.rd_to,IV,Bool.and_eq_true];exact⟨rfl,fI ts us⟩
def U7{u:TV E.T}{l:List (TA E.T)}(h:u.cs=some l):(u.to E.toEnc I).cells=l.map (TA.to E.toEnc I)/\(u.to E.toEnc I).okc=true:=by
 unfold TV.cs at h;split at h
 ·rename_i x;split at h
  ·rename_i hs;cases h;cases x with
   |d t x=>
    cases t with
    |nam i=>cases hs
    |bits n=>cases hs
    |ptr t=>cases x<;> exact⟨rfl,rfl⟩
    |_=>exact⟨rfl,rfl⟩
   |raw v=>cases v<;> first|exact⟨rfl,rfl⟩|cases hs
   |vec t i n=>obtain⟨a,m,c,e⟩:=TA.vec_form E.toEnc I t i n;show((TA.vec t i n:TA E.T).to E.toEnc I).cells=[(TA.vec t i n:TA E.T).to E.toEnc I] /\((TA.vec t i n:TA E.T).to E.toEnc I).okc=true;rw[e];exact⟨rfl,rfl⟩
   |vsl t i off n=>obtain⟨a,m,c,e⟩:=TA.vsl_form E.toEnc I t i off n;show((TA.vsl t i off n:TA E.T).to E.toEnc I).cells=[(TA.vsl t i off n:TA E.T).to E.toEnc I] /\((TA.vsl t i off n:TA E.T).to E.toEnc I).okc=true;rw[e];exact⟨rfl,rfl⟩
   |_=>exact⟨rfl,rfl⟩
  ·cases h
 ·cases h;exact⟨rfl,rfl⟩
 ·cases h
def rC(cs us:List (TA E.T))(o:Nat):(spl cs o us).map (TA.to E.toEnc I)=cF (cs.map (TA.to E.toEnc I)) o (us.map (TA.to E.toEnc I)):=by simp[spl,cF]
def Bz{pl:List (Nat × Nat)}:∀ {is:List Nat} {us:List (TV E.T)} {cs cs':List (TA E.T)},sR pl cs is us=some cs'->oE Y pl (cs.map (TA.to E.toEnc I)) is (us.map (TV.to E.toEnc I))=some (cs'.map (TA.to E.toEnc I))
 | [],[],cs,cs',h=>by simp only[sR,Option.some.injEq] at h;subst h;rfl
 | [],_::_,cs,cs',h=>by simp[sR] at h
 |_::_,[],cs,cs',h=>by simp[sR] at h
 |i::is,u::us,cs,cs',h=>by
  simp only[sR] at h;split at h
  ·rename_i off n vs hpl hvs;obtain⟨h1,h2⟩:=U7 (I:=I) hvs;split at h
   ·rename_i hc;simp only[List.map_cons,oE,hpl,h1,h2,List.length_map,Bool.true_and,hc];rw[<- rC];exact Bz h
   ·cases h
  ·cases h
def ju(l:List (TA E.T)):LeL (l.map (TA.to E.toEnc I)) (l.map fun a=>(a.rd.to E.toEnc I)):=by
 induction l with
 |nil=>exact .nil
 |cons a l ih=>exact .cons (show Le1 _ ((TA.rd a).to E.toEnc I) by rw[TA.rd_to];exact qO _) ih
def s9{ty:Ty}:∀ {us:List (TV E.T)} {xs:List (Den E.T ty)},tX E ty us=some xs->LeR ((us.map (TV.to E.toEnc I)).map AV.cells) (xs.map (cells E.toEnc ty))/\(us.map (TV.to E.toEnc I)).all (fun u=>u.okc && Nat.beq u.cells.length (csz E.toEnc ty))=true
 | [],xs,h=>by cases h;exact⟨.nil,rfl⟩
 |u::us,xs,h=>by
  simp only[tX] at h;split at h
  ·rename_i l xs' h1 h2;split at h
   ·rename_i x hx;cases h;obtain⟨k1,k2⟩:=U7 (I:=I) h1;obtain⟨m1,m2⟩:=s9 h2;have hp:=Io E I hx;simp only[List.map_nil,List.append_nil] at hp;have hle:=(ju (I:=I) l).trans hp;refine⟨?_,?_⟩
    ·simp only[List.map_cons];exact .cons (by rw[k1];exact hle) m1
    ·simp only[List.map_cons,List.all_cons,k1,k2,Bool.true_and,Bool.and_eq_true];refine⟨?_,m2⟩;rw[hle.length,eH];exact aaL _
   ·cases h
  ·cases h
theorem GX:∀ {us:List (TV E.T)} {xs:List (TA E.T)},IL us=some xs->us.map (TV.to E.toEnc I)=xs.map (TA.to E.toEnc I)
 | [],xs,h=>by cases h;rfl
 |.a x::us,xs,h=>by
  simp only[IL] at h;split at h
  ·rename_i xs' h2;cases h;simp only[List.map_cons,GX h2];rfl
  ·cases h
 |.ag _::_,_,h=>by cases h
 |.el _::_,_,h=>by cases h
 |.tu _::_,_,h=>by cases h
 |.fn _ _::_,_,h=>by cases h
 |.ifc _ _::_,_,h=>by cases h
def fN:∀ {cs:List AV},(∀u∈cs,u.isMp=false)->fU cs=false
 | [],_=>rfl
 | [u],h=>by
   have:=h u ZP;cases u with
   |mp l=>cases this
   |_=>rfl
 |u::u'::r,_=>by cases u<;> rfl
def s0(cs:List (TA E.T)):fU (cs.map (TA.to E.toEnc I))=false:=fN fun u hu=>by obtain⟨c,_,rfl⟩:=ZW.1 hu;exact TA.to_notMp E.toEnc I c
def lL{q:Option Operand}{i z:Int}(h:yO O q z=some i):nY (O.to E.toEnc I) q .i64 i z:=by
 unfold yO at h;cases q with
 |none=>simp only[Option.some.injEq] at h;exact h.symm
 |some q=>
  simp only at h;split at h
  ·rename_i j hj;cases h;exact dO hj
  ·cases h
def BM{α:Type}{l:List α}{i:Int}{z:α}(h:ci l i=some z):0<=i/\i < l.length/\l[i.toNat]? =some z:=by
 unfold ci at h;split at h
 ·rename_i h0;have:=(ZD.1 h).1;exact⟨h0,by omega,h⟩
 ·cases h
def Bo{α:Type}{l r:List α}{i j:Int}(h:mI l i j=some r):0<=i/\i<=j/\j<=l.length/\r=(l.take j.toNat).drop i.toNat:=by
 unfold mI at h;split at h
 ·rename_i h0;cases h;exact⟨h0.1,h0.2.1,h0.2.2,rfl⟩
 ·cases h
def jL{a b:Nat}(h:Nat.beq a b=true):a=b:=ZK h
def LH:(In Y E O t t2 x).ok fun u=>OpV P ⟨d,.convert t t2 x,ty,pos,af,g⟩ (O.to E.toEnc I) (u.to E.toEnc I):=by
 unfold In;split
 ·rename_i d0 k h0 h1;split
  ·rename_i k0 n hn;simp only[PV.ok,mz];exact DZ (T:=Y) (dO hn) h0 h1
  ·trivial
 ·rename_i h0 h1;split
  ·rename_i s hs;exact C3 (T:=Y) (ne hs) h0 h1
  ·trivial
 ·rename_i e h0 h1;split
  ·rename_i l he hl;obtain⟨o,ho⟩:=pK (I:=I) hl;exact Ac (T:=Y) (o:=o) (L:=l) ho h0 he h1
  ·trivial
 ·rename_i e h0 h1;split
  ·rename_i s he hs;exact Aw (T:=Y) (s:=mkB s) (ne hs) h0 h1 he
  ·trivial
 ·trivial
def M4{op:BinOp}:(Qm Y O op t x y).ok fun u=>OpV P ⟨d,.binOp op t x y yt,ty,pos,af,g⟩ (O.to E.toEnc I) (u.to E.toEnc I):=by
 have nu:∀k,A5 k=true->k≠.u8:=fun k h e=>by subst e;cases h
 unfold Qm;split
 ·split
  ·rename_i k a k' b hx hy;intro z hz;unfold Y1 at hz;split at hz
   ·rename_i hb;cases hz;rw[mz];exact Kb (dO hx) (dO hy) rfl hb
   ·cases hz
  ·trivial
 ·split
  ·rename_i k a k' b hx hy;split
   ·rename_i hk;intro z hz;unfold SJ at hz;split at hz
    ·rename_i hb;cases hz;rw[tl _ _ (fun h=>absurd h (nu k hk))];exact C4 (dO hx) (dO hy) rfl hb
    ·cases hz
   ·rename_i hk;have hk8:k=.u8:=YS (by rw[hk];intro h;cases h);subst hk8;intro z hz;obtain⟨r,h1,h2⟩:=GG hz;unfold SJ at h1;split at h1
    ·rename_i hb;cases h1;have:=C4 (P:=P) (d:=d) (t:=t) (yt:=yt) (ty:=ty) (pos:=pos) (af:=af) (g:=g) (dO (I:=I) hx) (dO (I:=I) hy) rfl hb;rw[<- h2] at this;exact this
    ·cases h1
  ·trivial
 ·split
  ·rename_i k a k' b hx hy;split
   ·rename_i e;subst e;exact RM (dO hx) (dO hy)
   ·trivial
  ·split
   ·rename_i a b hx hy;exact Se (ne hx) (ne hy)
   ·split
    ·rename_i a b hx hy h0 _ _;exact K9 (Y:=Y) (DJ hx) (DJ hy) rfl h0
    ·rename_i a b hx hy h0 _ _;exact K7 (Y:=Y) (DJ hx) (DJ hy) rfl h0
    ·trivial
end
def tyB:Option TypeDesc->Ty->Bool
 |some (.int k),.int k'=>k==k' && A5 k
 |some (.int .u8),.byte=>true
 |some .bool,.bool=>true
 |some .string,.str=>true
 |_,_=>false
def xj{P:Program}(Y:Tys P):List Field->Nat->List Ty->Bool
 | [],_,[] =>true
 |f::fs,k,t::ts=>f.name != "_" && Nat.beq f.offset k && tyB (look Y.ty f.type) t && xj Y fs (k+1) ts
 |_,_,_=>false
structure EqOk (P:Program) (Y:Tys P) (t:TypeId) (ts:List Ty):Prop where
 ht:P.underlying t=some (.struct (P.fieldsOf t))
 hp:P.stoodInHeld t=false
 hg:P.eqGuardType P.depth t=false
 hf:xj Y (P.fieldsOf t).toList 0 ts=true
def kL{E:Enc}{I:Rn}{t:Ty}{x:TA E.T}{a:Den E.T t}{X:GW}{v:Value}(h:asD t x=some a)(hr:Rel X (x.to E I) v):Rel X (one E t a) v:=by have h1:=hr.rd;rw[<- TA.rd_to] at h1;exact(y8 E I h).rel h1
def SS{P:Program}(d:Nat)(ft:TypeId)(a b:List UInt8)(w:World)(hu:P.underlying ft=some .string):(Op.equalIn (d+1) ft (.string (mkB a)) (.string (mkB b))).run P w=.ok (Ur a b) w:=by
 have:=run_equalIn_string (P:=P) w d ft (mkB a) (mkB b) hu;rw[vg,vg,qL,qL] at this;have e:(a==b)=Ur a b:=by unfold Ur;by_cases e:a=b<;> simp[e]
 rw[e] at this;exact this
def S7{P:Program}{Y:Tys P}{E:Enc}{I:Rn}{t:Ty}{ft:TypeId}{x y:TA E.T}{p:Bool}{X:GW}{v v':Value}(d:Nat)(w:World)(ht:tyB (look Y.ty ft) t=true)(h:eqA t x y=some p)(hx:Rel X (x.to E I) v)(hy:Rel X (y.to E I) v'):(Op.equalIn (d+1) ft v v').run P w=.ok p w/\kH ((look Y.ty ft).getD .bool)=true:=by
 cases hft:look Y.ty ft with
 |none=>rw[hft] at ht;cases t<;> cases ht
 |some ds=>
  rw[hft] at ht;have hu:=Y.tyOk _ _ hft;cases t with
  |int k=>
   cases ds with
   |int k'=>
    simp only[eqA] at h;split at h
    ·rename_i a b ha hb;cases h;obtain rfl:=cE (kL ha hx);obtain rfl:=cE (kL hb hy);exact⟨run_equalIn_int w d ft k k' a b hu,rfl⟩
    ·cases h
   |_=>cases ht
  |byte=>
   cases ds with
   |int k'=>
    simp only[eqA] at h;split at h
    ·rename_i a b ha hb;cases h;obtain rfl:=cE (kL ha hx);obtain rfl:=cE (kL hb hy);exact⟨run_equalIn_int w d ft .u8 k' _ _ hu,rfl⟩
    ·cases h
   |_=>cases ht
  |bool=>
   cases ds with
   |bool=>
    simp only[eqA] at h;split at h
    ·rename_i a b ha hb;cases h;obtain rfl:=cE (kL ha hx);obtain rfl:=cE (kL hb hy);exact⟨run_equalIn_bool' w d ft a b hu,rfl⟩
    ·cases h
   |_=>cases ht
  |str=>
   cases ds with
   |string=>
    simp only[eqA] at h;split at h
    ·rename_i a b ha hb;cases h;obtain rfl:=cE (kL ha hx);obtain rfl:=cE (kL hb hy);exact⟨SS d ft a b w hu,rfl⟩
    ·cases h
   |_=>cases ht
  |_=>cases ds<;> cases ht
theorem vK{P:Program}{t:TypeId}{ds:TypeDesc}{cs:Array Value}{o:Nat}{v:Value}{w:World}(hu:P.underlying t=some ds)(h1:kH ds=true)(hv:cs[o]? =some v):(part t cs o).run P w=.ok v w:=by cases ds<;> simp[kH] at h1<;> simp[part,isAgg,run_underlying hu,hv]
def IE{P:Program}{Y:Tys P}{E:Enc}{I:Rn}{X:GW}{xs ys:Array Value}(d:Nat)(w:World):∀ (fs:List Field) (k:Nat) (ts:List Ty) (a b:List (TA E.T)) (r:Bool),xj Y fs k ts=true->eqT ts a b=some r->(∀ (i:Nat) u v,a[i]? =some u->xs[k+i]? =some v->Rel X (u.to E I) v)->(∀ (i:Nat) u v,b[i]? =some u->ys[k+i]? =some v->Rel X (u.to E I) v)->k+a.length<=xs.size->k+b.length<=ys.size->
  (Op.eqFields (d+1) xs ys fs).run P w=.ok r w
 | [],k,ts,a,b,r,hf,h,hx,hy,h1,h2=>by
   cases ts with
   |nil=>cases a with
    |nil=>cases b with
     |nil=>cases h;simp[Op.eqFields]
     |cons _ _=>cases h
    |cons _ _=>cases h
   |cons _ _=>cases hf
 |f::fs,k,ts,a,b,r,hf,h,hx,hy,h1,h2=>by
  cases ts with
  |nil=>cases hf
  |cons t ts=>
   cases a with
   |nil=>cases h
   |cons u a=>
    cases b with
    |nil=>cases h
    |cons u' b=>
     simp only[xj,Bool.and_eq_true] at hf;obtain⟨⟨⟨f1,f2⟩,f3⟩,f4⟩:=hf;simp only[eqT] at h;split at h
     ·rename_i p q hp hq;cases h;have hk1:k < xs.size:=by simp at h1;omega
      have hk2:k < ys.size:=by simp at h2;omega
      have e1:xs[k]? =some xs[k] :=ZV hk1;have e2:ys[k]? =some ys[k] :=ZV hk2;have r1:=hx 0 u xs[k] rfl e1;have r2:=hy 0 u' ys[k] rfl e2;have key:=fun w=>S7 (P:=P) (Y:=Y) d w f3 hp r1 r2;cases hft:look Y.ty f.type with
      |none=>rw[hft] at f3;cases t<;> cases f3
      |some ds=>
       have ho:kH ds=true:=by have:=(key w).2;rw[hft] at this;exact this
       have hu:=Y.tyOk _ _ hft;have hoff:=jL f2;have hn:f.name≠ "_" :=by simpa using f1
       have ih:=IE (P:=P) (Y:=Y) (E:=E) (I:=I) (X:=X) (xs:=xs) (ys:=ys) d w fs (k+1) ts a b q f4 hq (fun i v x hv hx'=>hx (i+1) v x (by simpa using hv) (by rw[<- hx'];congr 1;omega)) (fun i v x hv hx'=>hy (i+1) v x (by simpa using hv) (by rw[<- hx'];congr 1;omega)) (by simp at h1;omega) (by simp at h2;omega)
       have p1:=fun w=>vK (P:=P) (w:=w) hu ho e1;have p2:=fun w=>vK (P:=P) (w:=w) hu ho e2;simp only[Op.eqFields,hn,ne_eq,not_false_eq_true,if_true,Sem.run_bind,hoff,p1,p2,Result.andThen_ok,(key w).1];cases p with
       |true=>simp[ih]
       |false=>simp
     ·cases h
def Kn{P:Program}{Y:Tys P}{E:Enc}{I:Rn}{O:AS}{dd:Option Tmp}{t yt ty:TypeId}{x y:Operand}{pos:String}{af:Array Edge}{g:Option (Nat × Bool)}{ts:List Ty}{a b:List (TA E.T)}{r:Bool}(hq:EqOk P Y t ts)(hx:opV O x=some (.ag (a.map (TA.to E I))))(hy:opV O y=some (.ag (b.map (TA.to E I))))(h:eqT ts a b=some r):
  OpV P ⟨dd,.binOp .neq t x y yt,ty,pos,af,g⟩ O (.v (.bool (!r)))/\OpV P ⟨dd,.binOp .eql t x y yt,ty,pos,af,g⟩ O (.v (.bool r)):=by
 have key:∀ {X:GW} {v v':Value} (w:World),Rel X (.ag (a.map (TA.to E I))) v->Rel X (.ag (b.map (TA.to E I))) v'->∃xs ys,v=.agg xs/\v'=.agg ys/\(Op.equalIn 10000 t (.agg xs) (.agg ys)).run P w=.ok r w:=by
  intro X v v' w h1 h2;cases h1 with
  |ag _ xs hl hr=>
   cases h2 with
   |ag _ ys hl' hr'=>refine⟨xs,ys,rfl,rfl,?_⟩;rw[run_equalIn_agg w 9999 t xs ys hq.ht hq.hp];refine IE (Y:=Y) (E:=E) (I:=I) (X:=X) 9998 w _ 0 ts a b r hq.hf h (fun i u v hu hv=>hr i _ v (by simp[hu]) (by simpa using hv)) (fun i u v hu hv=>hr' i _ v (by simp[hu]) (by simpa using hv)) (by simp at hl;omega) (by simp at hl';omega)
 constructor
 ·refine aQ rfl fun F X ac hs=>⟨_,?_,.v _⟩
  obtain⟨xs,ys,e1,e2,e3⟩:=key X.w (cO hs (by simp[Op.operands]) hx) (cO hs (by simp[Op.operands]) hy);simp only[execOp,e1,e2];refine bd ?_;simp[run_eqGuard_agg,hq.hg,run_neq_struct,e3]
 ·refine aQ rfl fun F X ac hs=>⟨_,?_,.v _⟩
  obtain⟨xs,ys,e1,e2,e3⟩:=key X.w (cO hs (by simp[Op.operands]) hx) (cO hs (by simp[Op.operands]) hy);simp only[execOp,e1,e2];refine bd ?_;simp[run_eqGuard_agg,hq.hg,run_eql_struct,e3]
def XR.ok{E:Env}(P:Program)(f:FuncId)(us:List (TV E.T))(hs:List (Nat × TB E.T)):XR E.T->Prop
 |.bad=>True
 |.ret o ids u h=>∀z,o=some z->(h z).map (·.1)=ids/\∀I,Inj I hs->aI P f (us.map (TV.to E.toEnc I)) (hTo E.toEnc I (dv hs ids)) fun out H=>out=.ret ((u z).to E.toEnc I)/\H=hTo E.toEnc I (h z)
 |.may o ids u h=>∀p,o=some p->(∀z,p=.ok z->(h z).map (·.1)=ids)/\∀I,Inj I hs->aI P f (us.map (TV.to E.toEnc I)) (hTo E.toEnc I (dv hs ids)) fun out H=>match p with
  |.ok z=>out=.ret ((u z).to E.toEnc I)/\H=hTo E.toEnc I (h z)
  |.pan v=>out=.pan v
 |.mv o ids mvs _ u h=>∀p,o=some p->∀I,Inj I hs->aI P f (us.map (TV.to E.toEnc I)) (hTo E.toEnc I (dv hs ids)) fun out H=>match p with
  |.ok z=>∃ρ':Rn,(∀i∈ids,i ∉ mvs->ρ'.k i=I.k i)/\out=.ret ((u z).to E.toEnc ρ')/\H=hTo E.toEnc ρ' (h z)/\Inj ρ' (h z)
  |.pan v=>out=.pan v
def XOk(P:Program)(E:Env)(f:FuncId)(hd:List (TV E.T)->List (Nat × TB E.T)->XR E.T):Prop:=∀us hs,(hd us hs).ok P f us hs
structure GOk (P:Program) (Y:Tys P) (E:Env) (G:Gam E):Prop where
 f:∀p∈G.f,∀us,(p.2 us).ok fun u=>∀I,aI P p.1 (us.map (TV.to E.toEnc I)) [] (fun out H=>out=.ret (u.to E.toEnc I)/\H=[])
 q:∀p∈G.q,EqOk P Y p.1 p.2
 x:∀p∈G.x,XOk P E p.1 p.2
def GOk.nil{P:Program}{Y:Tys P}{E:Env}{q:List (Nat × List Ty)}{mu:List Nat}(hq:∀p∈q,EqOk P Y p.1 p.2):GOk P Y E ⟨[],q,[],mu⟩:=⟨(fun p hp=>by cases hp),hq,(fun p hp=>by cases hp)⟩
theorem GOk.cons{P:Program}{Y:Tys P}{E:Env}{G:List ((_:Nat) × (List (TV E.T)->PV E.T))}{q:List (Nat × List Ty)}{x:List ((_:Nat) × (List (TV E.T)->List (Nat × TB E.T)->XR E.T))}{f:Nat}{h:List (TV E.T)->PV E.T}(hf:∀us,(h us).ok fun u=>∀I,aI P f (us.map (TV.to E.toEnc I)) [] (fun out H=>out=.ret (u.to E.toEnc I)/\H=[])){mu:List Nat}(hG:GOk P Y E ⟨G,q,x,mu⟩):GOk P Y E ⟨⟨f,h⟩::G,q,x,mu⟩:=⟨fun p hp=>by
 rcases ZY.1 hp with rfl|hp
 ·exact hf
 ·exact hG.f p hp,hG.q,hG.x⟩
def GOk.consx{P:Program}{Y:Tys P}{E:Env}{G:List ((_:Nat) × (List (TV E.T)->PV E.T))}{q:List (Nat × List Ty)}{x:List ((_:Nat) × (List (TV E.T)->List (Nat × TB E.T)->XR E.T))}{f:Nat}{h:List (TV E.T)->List (Nat × TB E.T)->XR E.T}(hf:XOk P E f h){mu:List Nat}(hG:GOk P Y E ⟨G,q,x,mu⟩):GOk P Y E ⟨G,q,⟨f,h⟩::x,mu⟩:=⟨hG.f,hG.q,fun p hp=>by
 rcases ZY.1 hp with rfl|hp
 ·exact hf
 ·exact hG.x p hp⟩
def rq{P:Program}{E:Env}:∀ {l:List ((_:Nat) × (List (TV E.T)->List (Nat × TB E.T)->XR E.T))},(∀p∈l,XOk P E p.1 p.2)->∀f us hs,(Eo l f us hs).ok P f us hs
 | [],_,_,_,_=>trivial
 | ⟨k,h⟩::r,hl,f,us,hs=>by
   simp only[Eo];have ih:=rq (fun p hp=>hl p (ZM _ hp)) f us hs;split
   ·rename_i e;have e':=ZK e;subst e';have h1:=hl _ ZP us hs;split
    ·exact ih
    ·exact h1
   ·exact ih
section
variable {P:Program} {Y:Tys P} {E:Env} {G:Gam E} {I:Rn} {O:TS E.T} {d:Option Tmp} {t t2 yt ty e:TypeId} {x y z:Operand} {pos:String} {af:Array Edge} {g:Option (Nat × Bool)}
def kM(hi:Inj I O.h){k:Nat}{cs:List (TA E.T)}(h:look O.h k=some (.cs cs)):look (O.to E.toEnc I).h (I k)=some (cs.map (TA.to E.toEnc I)):=dz E.toEnc hi h rfl
def Ii(hi:Inj I O.h){k o:Nat}{cs:List (TA E.T)}{c:TA E.T}{dsc:TypeDesc}(hx:opT O x=some (.a (.box k o)))(h0:look Y.ty t=some dsc)(h1:kH dsc=true)(hb:look O.h k=some (.cs cs))(hc:cs[o]? =some c):
  OpV P ⟨d,.load t x,ty,pos,af,g⟩ (O.to E.toEnc I) ((TV.a c.rd).to E.toEnc I):=by
 have hx':=aF (I:=I) hx;simp only[TV.to,TA.rd_to];exact lI (T:=Y) hx' (kM hi hb) (by simp[hc]) h0 h1 (TA.to_notMp _ _ _)
def I8{O:AS}{o:Oper}{f:FuncId}(h:OpV P o O (.v (.func (.func f) #[] #[]))):OpV P o O (.fn f []):=fun F X a hs=>(h F X a hs).mono fun x w' ⟨X',h1,h2,h3,h4,h5⟩=>by have:=cE h4;subst this;exact⟨X',h1,h2,h3,.fn f [] #[] rfl (fun i u x hu hx=>by simp at hu),FreshOk.plain rfl⟩
def KV{P:Program}{T:Tys P}{O:AS}{d:Option Tmp}{t ty:TypeId}{x:Operand}{pos:String}{af:Array Edge}{g:Option (Nat × Bool)}{fs:Array Field}{f:Field}{i:Nat}{cs:List AV}{dsc:TypeDesc}{c:AV}(hx:opV O x=some (.ag cs))(h0:look T.ty t=some (.struct fs))(hf:fs[i]? =some f)(h1:look T.ty f.type=some dsc)(ho:kH dsc=true)(hc:cs[f.offset]? =some c):OpV P ⟨d,.field t x i,ty,pos,af,g⟩ O c.rd:=by
 refine aQ (eq c) fun F X ac hs=> ?_;have e1:=cO hs (by simp[Op.operands]) hx;have hu:=T.tyOk _ _ h0;have hu1:=T.tyOk _ _ h1;generalize hv:ac.eval x=v at e1;cases e1 with
 |ag _ xs hl hr=>
  have hlt:f.offset < xs.size:=by rw[<- hl];exact(ZD.1 hc).1
  have hxs:xs[f.offset]? =some xs[f.offset] :=ZV hlt;refine⟨xs[f.offset],?_,(hr _ _ _ hc hxs).rd⟩;simp only[execOp,hv];refine bd ?_;simp[Instr.field,run_underlying hu,hf,asAgg,vK hu1 ho hxs]
def jX{E:Enc}{t:Ty}{v:Value}{z:Den E.T t}(h:sD t v=some z):cst v=one E t z/\(cst v).isSl=false:=by
 unfold sD at h;split at h
 ·rename_i k k' n;split at h
  ·rename_i hk;have:=aaV hk;subst this;cases h;exact⟨rfl,rfl⟩
  ·cases h
 ·cases h;exact⟨rfl,rfl⟩
 ·rename_i s;cases h;refine⟨?_,rfl⟩;show AV.v (.string s)=AV.v (.string (mkB s.data.toList));rw[show s.data.toList=fP s from rfl,G3]
 ·cases h
def SE(hi:Inj I O.h)(hG:GOk P Y E G)(op:Op):(V1 Y E G O op ty).ok fun u=>OpV P ⟨d,op,ty,pos,af,g⟩ (O.to E.toEnc I) (u.to E.toEnc I):=by
 unfold V1;split
 ·rename_i f;exact I8 (kU (u:=.v (.func (.func f) #[] #[])) rfl (.inl rfl))
 ·rename_i f;exact I8 (kU (u:=.v (.func (.func f) #[] #[])) rfl (.inr rfl))
 ·split
  ·rename_i u hu;refine Rm (u:=(u.to E.toEnc I).rd) (kU (aF hu) (.inl rfl)) ?_;rw[<- TV.rd_to];exact vy _ _
  ·trivial
 ·split
  ·rename_i u hu;refine Rm (u:=(u.to E.toEnc I).rd) (kU (aF hu) (.inr rfl)) ?_;rw[<- TV.rd_to];exact vy _ _
  ·trivial
 ·rename_i op t x y yt;split
  ·rename_i a b hx hy;unfold Yo;split
   ·rename_i ts hts;have hq:=hG.q _ (db hts);split
    ·rename_i r hr;exact(Kn hq (aF (I:=I) hx) (aF (I:=I) hy) hr).2
    ·rename_i r hr;exact(Kn hq (aF (I:=I) hx) (aF (I:=I) hy) hr).1
    ·trivial
   ·trivial
  ·exact M4
 ·split
  ·rename_i b hb;exact xM (aF hb) rfl
  ·rename_i hb;exact xM (b:=true) (aF hb) rfl
  ·rename_i hb;exact xM (b:=false) (aF hb) rfl
  ·trivial
 ·split
  ·rename_i k n hn;simp only[PV.ok,mz];exact Sk (dO hn) rfl
  ·trivial
 ·split
  ·rename_i k n hn;simp only[PV.ok];rw[tl _ _ (fun h=>by subst h;exact Kl _ (.inr (.inr rfl)) _ _)];exact Rw (dO hn) rfl
  ·trivial
 ·exact LH
 ·split
  ·rename_i us hu;split
   ·rename_i u hq;simp only[PV.ok,TV.to,TA.rd_to];exact pV (aF (I:=I) hu) (u:=u.to E.toEnc I) (by simp only[List.getElem?_map,hq];rfl)
   ·rename_i l hq;exact pV (aF (I:=I) hu) (u:=.ag (l.map (TA.to E.toEnc I))) (by simp only[List.getElem?_map,hq];rfl)
   ·trivial
  ·trivial
 ·split
  ·rename_i s k i h0 hs hk;intro b hb;obtain⟨h1,h2,h3⟩:=BM hb;have:=sG (P:=P) (T:=Y) (d:=d) (ty:=ty) (pos:=pos) (af:=af) (g:=g) (ne (I:=I) hs) (dO hk) h0 h1 h2;have e:(fP (mkB s)).getD i.toNat 0=b:=by rw[qL,Z5,h3];rfl
   rw[e] at this;exact this
  ·trivial
 ·split
  ·rename_i h0;split
   ·rename_i s hs;split
    ·rename_i i j hl hh;intro r hr;obtain⟨h1,h2,h3,rfl⟩:=Bo hr;exact sh (T:=Y) (k1:=.i64) (k2:=.i64) (ne hs) h0 (lL hl) (lL hh) h1 h2 h3
    ·trivial
   ·trivial
  ·rename_i e h0;split
   ·rename_i ty' l hs;split
    ·rename_i sz by_ i j hsz hl hh;split
     ·rename_i hb;intro r hr;obtain⟨h1,h2,h3,rfl⟩:=Bo hr;obtain⟨o,ho⟩:=pK (I:=I) hs;have hsz':=jL hb;subst hsz';have:=tJ (P:=P) (T:=Y) (k1:=.i64) (k2:=.i64) (d:=d) (ty:=ty) (pos:=pos) (af:=af) (g:=g) ho h0 hsz (lL hl) (by have:=lL (I:=I) hh;simpa using this) h1 h2 (by simpa using h3);rw[<- abu,<- abp] at this;exact this
     ·trivial
    ·trivial
   ·trivial
  ·trivial
 ·split
  ·rename_i e h0;split
   ·rename_i ty' l hs;split
    ·rename_i sz by_ i k2 j k3 m hsz hl hh hm;split
     ·rename_i hb;intro r hr;obtain⟨h1,h2,h3,h4,rfl⟩:=HD hr;obtain⟨o,ho⟩:=pK (I:=I) hs;have hsz':=jL hb;subst hsz';have:=HL (P:=P) (T:=Y) (k1:=.i64) (d:=d) (ty:=ty) (pos:=pos) (af:=af) (g:=g) ho h0 hsz (lL hl) (dO hh) (dO hm) h1 h2 h3 (by simpa using h4);rw[<- abu,<- abp] at this;exact this
     ·trivial
    ·trivial
   ·trivial
  ·trivial
 ·split
  ·rename_i e ty' l k i h0 hs hk;split
   ·rename_i sz by_ hsz;split
    ·rename_i hb;intro z hz;obtain⟨h1,h2,h3⟩:=BM hz;obtain⟨o,ho⟩:=pK (I:=I) hs;have hsz':=jL hb;subst hsz';have:=Ah (P:=P) (T:=Y) (d:=d) (ty:=ty) (pos:=pos) (af:=af) (g:=g) ho (dO hk) h0 hsz h1 (by simpa using h2);have e:(l.map (cells E.toEnc ty')).getD i.toNat [] =(cL E ty' z).map (TA.to E.toEnc I):=by rw[tP,Z5,aao,h3];rfl
     simp only[e] at this;exact this
    ·trivial
   ·trivial
  ·trivial
 ·split
  ·rename_i fs h0;split
   ·rename_i f hf;split
    ·rename_i fsz hz;split
     ·rename_i hp;split
      ·rename_i cs hx;split
       ·rename_i hl;have:=D6 (P:=P) (T:=Y) (d:=d) (ty:=ty) (pos:=pos) (af:=af) (g:=g) (cs:=cs.map (TA.to E.toEnc I)) (aF (I:=I) hx) h0 hf hz hp (by simpa using hl);rw[<- abp] at this;exact this
       ·trivial
      ·rename_i k o hx;exact sB (T:=Y) (aF hx) h0 hf hz hp
      ·trivial
     ·trivial
    ·trivial
   ·trivial
  ·trivial
 ·split
  ·rename_i cs fs hx h0;split
   ·rename_i n by_ hz;split
    ·rename_i hl;have:=CF (P:=P) (T:=Y) (d:=d) (ty:=ty) (pos:=pos) (af:=af) (g:=g) (cs:=cs.map (TA.to E.toEnc I)) (aF (I:=I) hx) h0 hz (by simpa using hl);rw[<- abu] at this;exact this
    ·trivial
   ·trivial
  ·rename_i c cs dsc hn hx h0;split
   ·rename_i h1;have:=G6 (P:=P) (T:=Y) (d:=d) (ty:=ty) (pos:=pos) (af:=af) (g:=g) (aF (I:=I) hx) h0 h1;simp only[PV.ok,TV.to,TA.rd_to];exact this
   ·trivial
  ·rename_i k o fs hx h0;split
   ·rename_i cs n by_ hb hz;split
    ·rename_i hl
     have:=sK (P:=P) (T:=Y) (dd:=d) (ty:=ty) (pos:=pos) (af:=af) (g:=g) (aF (I:=I) hx) (kM hi hb) h0 hz (by simpa using hl) (s0 cs);have e:List.map AV.rd (((cs.map (TA.to E.toEnc I)).drop o).take n)=(((cs.drop o).take n).map TA.rd).map (TA.to E.toEnc I):=by rw[<- abp,<- abu,aaY,aaY];apply aai;intro c _;exact(TA.rd_to _ _ c).symm
     rw[e] at this;exact this
    ·trivial
   ·trivial
  ·rename_i k o dsc hn hx h0;split
   ·rename_i cs h1 hb;split
    ·rename_i c hc;exact Ii hi hx h0 h1 hb hc
    ·trivial
   ·trivial
  ·trivial
 ·split
  ·rename_i fs zv h0 hz;split
   ·rename_i pl us hp hx;split
    ·rename_i cs hb;have hb':=Bz (Y:=Y) (I:=I) hb;have e:(zv.cells.toList.map atomT).map (TA.to E.toEnc I)=zv.cells.toList.map AV.v:=by rw[aaY];apply aai;intro c _;exact ui _ _ c
     rw[e] at hb';have:=KB (P:=P) (T:=Y) (d:=d) (ty:=ty) (pos:=pos) (af:=af) (g:=g) h0 hz hp (je hx) hb';refine Ls this ?_;have:=ju (I:=I) cs;simp only[TV.to,List.map_map];exact this
    ·trivial
   ·trivial
  ·trivial
 ·split
  ·rename_i e ty' h0 het;split
   ·rename_i sz by_ us hz hx;split
    ·rename_i xs hp;split
     ·rename_i hc;simp only[Bool.and_eq_true] at hc;have hsz:=jL hc.1.1.1;subst hsz;obtain⟨m1,m2⟩:=s9 (I:=I) hp;exact GR (wU (T:=Y) h0 hz hc.1.1.2 hc.1.2 (je hx) m2 hc.2) m1
     ·trivial
    ·trivial
   ·trivial
  ·trivial
 ·split
  ·rename_i k o hx;exact Jv (aF hx)
  ·rename_i cs hx;exact oW (aF hx)
  ·trivial
 ·rename_i f first caps
  split
  ·rename_i hf;split
   ·rename_i us hx;split
    ·rename_i xs hxs;have:first= #[] :=Array.eq_empty_of_size_eq_zero (by have:=aas List.length hf;simpa using this)
     subst this;have hx':=je (I:=I) hx;rw[GX hxs] at hx';exact yZ hx'
    ·trivial
   ·trivial
  ·trivial
 ·rename_i xs ats;split
  ·rename_i x t hxs ha;have hxs':xs= #[x] :=by cases xs;simp at hxs;subst hxs;rfl
   subst hxs';split
   ·rename_i h0;split
    ·rename_i s hs;exact GM (T:=Y) (ne hs) ha h0
    ·trivial
   ·rename_i e h0;split
    ·rename_i ty' l hs;obtain⟨o,ho⟩:=pK (I:=I) hs;have:=Ia (P:=P) (T:=Y) (d:=d) (ty:=ty) (pos:=pos) (af:=af) (g:=g) ho ha h0;simp only[List.length_map] at this;exact this
    ·trivial
   ·trivial
  ·trivial
 ·rename_i xs ats;split
  ·rename_i x y hxs;have hxs':xs= #[x,y] :=by cases xs;simp at hxs;subst hxs;rfl
   subst hxs';split
   ·rename_i a b ha hb;exact Uy (dO ha) (dO hb)
   ·trivial
  ·trivial
 ·rename_i xs ats;split
  ·rename_i x y hxs;have hxs':xs= #[x,y] :=by cases xs;simp at hxs;subst hxs;rfl
   subst hxs';split
   ·rename_i a b ha hb;exact Tj (dO ha) (dO hb)
   ·trivial
  ·trivial
 ·rename_i f xs ats;split
  ·rename_i h us hf hx;refine(hG.f _ (vR hf) (eO E ats.toList us)).mono fun u hu=> ?_;exact FF (hu I) (je hx) (iq _ _ (gJ _ _)) (fI _ _)
  ·trivial
 ·rename_i s xs ats;split
  ·rename_i f hs;split
   ·rename_i h us hf hx;refine(hG.f _ (vR hf) (eO E ats.toList us)).mono fun u hu=> ?_;exact Gc (by simp only[TS.to,cg,hs];rfl) (hu I) (je hx) (iq _ _ (gJ _ _)) (fI _ _)
   ·trivial
  ·trivial
 ·rename_i t x i;split
  ·rename_i cs fs hx h0;split
   ·rename_i f hf;split
    ·rename_i dsc c h1 hc;split
     ·rename_i ho;have h2:=KV (P:=P) (T:=Y) (d:=d) (ty:=ty) (pos:=pos) (af:=af) (g:=g) (aF (I:=I) hx) h0 hf h1 ho (c:=c.to E.toEnc I) (by simp[hc]);rw[<- TA.rd_to] at h2;exact h2
     ·trivial
    ·trivial
   ·trivial
  ·trivial
 ·rename_i t x y ok;split
  ·rename_i kt et k key h0 hx hy;split
   ·rename_i zv ty' l hk hz hb;have hb':look (O.to E.toEnc I).h (I k)=some [smap (l.map fun p=>(p.1,one E.toEnc ty' p.2))] :=dz E.toEnc hi hb rfl;split
    ·rename_i z hzm;have h1:=De (P:=P) (T:=Y) (d:=d) (ty:=ty) (pos:=pos) (af:=af) (g:=g) (aF (I:=I) hx) hb' (ne hy) h0 hk hz;rw[zO] at h1;refine DP h1 ?_;cases hm:E0 l key with
     |none=>show AV.tu [cst zv,_] =AV.tu [one E.toEnc ty' z,_];rw[(jX (E:=E.toEnc) hzm).1];rfl
     |some x=>show AV.tu [(one E.toEnc ty' x).rd,_] =AV.tu [one E.toEnc ty' x,_];rw[sX];rfl
    ·rename_i z hzm;have h1:=Ai (P:=P) (T:=Y) (d:=d) (ty:=ty) (pos:=pos) (af:=af) (g:=g) (aF (I:=I) hx) hb' (ne hy) h0 hk hz (jX (E:=E.toEnc) hzm).2;rw[zO] at h1;refine DP h1 ?_;cases hm:E0 l key with
     |none=>exact(jX (E:=E.toEnc) hzm).1
     |some x=>exact sX _ _ _
    ·trivial
   ·trivial
  ·trivial
 ·rename_i t x;split
  ·rename_i u dsc hx h0;split
   ·rename_i c hc hn;have hv:=QS (P:=P) (T:=Y) (d:=d) (ty:=ty) (pos:=pos) (af:=af) (g:=g) (aF (I:=I) hx) h0 (by cases dsc<;> first|rfl|cases hn);have e:(TV.ifc t c:TV E.T).to E.toEnc I=.ifc t (u.to E.toEnc I):=by
     unfold ifT at hc;split at hc
     ·split at hc
      ·cases hc;rfl
      ·cases hc
     ·cases hc;rfl
     ·cases hc
    show OpV P _ _ ((TV.ifc t c:TV E.T).to E.toEnc I);rw[e];exact hv
   ·trivial
  ·trivial
 ·trivial
def jv{ty:Ty}(h:ty.lone=true)(l:List (Den E.T ty)):(TB.row ty l:TB E.T).to E.toEnc I=l.map (one E.toEnc ty):=by
 show(l.map (cells E.toEnc ty)).flatten=_
 induction l with
 |nil=>rfl
 |cons x l ih=>rw[aap,aag,ih,oS E.toEnc h];rfl
def uI(hi:Inj I O.h){k:Nat}{ty:Ty}{l:List (Den E.T ty)}(hl:ty.lone=true)(h:look O.h k=some (.row ty l)):look (O.to E.toEnc I).h (I k)=some (l.map (one E.toEnc ty)):=by have:=dz E.toEnc hi h rfl;rw[jv hl] at this;exact this
def n6(ty:Ty)(z:Den E.T ty):(one E.toEnc ty z).isMp=false:=TA.to_notMp E.toEnc Rn.zero (.d ty z)
def pP{e:TypeId}(h:sz1 Y e=true):∃by_,look Y.sz e=some (1,by_):=by
 unfold sz1 at h;split at h
 ·rename_i b hb;exact⟨b,hb⟩
 ·cases h
def nE{n:Nat}{i:Int}{j:Nat}(h:cf n i=some j):0<=i/\i < n/\(j:Int)=i/\j < n:=by
 unfold cf at h;split at h
 ·rename_i hc;cases h;omega
 ·cases h
def vD{c:Nat}{i j:Int}{p:Nat × Nat}(h:DW c i j=some p):i=(p.1:Int)/\j=(p.2:Int)/\p.1<=p.2/\p.2<=c:=by
 unfold DW at h;split at h
 ·rename_i hc;cases h;simp only;omega
 ·cases h
def As{O:AS}{dd:Option Tmp}{k o n:Nat}{i:Int}{ki:IntKind}{by_:Nat}(hx:opV O x=some (.v (.pointer (some ⟨k,o,none⟩))))(hy:opV O y=some (.v (.int ki i)))(ht:look Y.ty t=some (.array n e))(hz:look Y.sz e=some (1,by_))(h0:0<=i)(h1:i < n):
  OpV P ⟨dd,.indexAddr t x y,ty,pos,af,g⟩ O (.v (.pointer (some ⟨k,o+i.toNat,none⟩))):=by
 refine aQ rfl fun F X a hs=> ?_;obtain⟨it,hi1,hi2,hi3,_⟩:=Y.szOk _ _ _ hz;have e1:=aZ hs (by simp[Op.operands]) hx;have e2:=aZ hs (by simp[Op.operands]) hy;refine⟨_,?_,.v _⟩;simp only[execOp,e1,e2];have hu:=Y.tyOk _ _ ht;refine bd ?_;simp[Instr.indexAt,asIntOf,run_underlying hu,sizeOf,typeInfo,hi1,hi2,h0,h1,e9,Instr.sureAddr]
def An{O:AS}{dd:Option Tmp}{lo hi:Option Operand}{k o n c:Nat}{i j:Nat}{by_:Nat}(hx:opV O x=some (.v (.slice (some ⟨k,o,none⟩) n c)))(ht:look Y.ty t=some (.slice e))(hz:look Y.sz e=some (1,by_))(hl:nY O lo .i64 (i:Int) 0)(hh:nY O hi .i64 (j:Int) (n:Int))(h1:i<=j)(h2:j<=c):
  OpV P ⟨dd,.slice t x lo hi none,ty,pos,af,g⟩ O (.v (.slice (some ⟨k,offN o c i,none⟩) (j - i) (c - i))):=by
 refine aQ rfl fun F X a hs=> ?_;obtain⟨it,hi1,hi2,hi3,_⟩:=Y.szOk _ _ _ hz;have e1:=aZ hs (by simp[Op.operands]) hx;have hlo:=jJ (q:=lo) hs (fun p hp=>by subst hp;simp[Op.operands]) hl;have hhi:=jJ (q:=hi) hs (fun p hp=>by subst hp;simp[Op.operands]) hh;refine⟨_,?_,.v _⟩;have hu:=Y.tyOk _ _ ht
 have hb:=kz (P:=P) (isS:=true) (w:=X.w) hlo hhi (by omega) (by omega) (cap:=c) (by omega);simp only[execOp,e1];refine bd ?_;simp only[Option.map_none,Instr.sliceAt,Sem.run_bind,run_underlying hu,Result.andThen_ok];simp only[Instr.slice,Sem.run_bind,run_underlying hu,Result.andThen_ok,hb];by_cases hci:c=i
 ·simp[sizeOf,typeInfo,hi1,hi2,offN,hci]
 ·simp[sizeOf,typeInfo,hi1,hi2,offN,hci,e9]
def Au{O:AS}{dd:Option Tmp}{lo hi:Option Operand}{k o n:Nat}{i j:Nat}{by_:Nat}(hx:opV O x=some (.v (.pointer (some ⟨k,o,none⟩))))(ht:look Y.ty t=some (.array n e))(hz:look Y.sz e=some (1,by_))(hl:nY O lo .i64 (i:Int) 0)(hh:nY O hi .i64 (j:Int) (n:Int))(h1:i<=j)(h2:j<=n):
  OpV P ⟨dd,.slice t x lo hi none,ty,pos,af,g⟩ O (.v (.slice (some ⟨k,offN o n i,none⟩) (j - i) (n - i))):=by
 refine aQ rfl fun F X a hs=> ?_;obtain⟨it,hi1,hi2,hi3,_⟩:=Y.szOk _ _ _ hz;have e1:=aZ hs (by simp[Op.operands]) hx;have hlo:=jJ (q:=lo) hs (fun p hp=>by subst hp;simp[Op.operands]) hl;have hhi:=jJ (q:=hi) hs (fun p hp=>by subst hp;simp[Op.operands]) hh;refine⟨_,?_,.v _⟩;have hu:=Y.tyOk _ _ ht
 have hb:=kz (P:=P) (isS:=false) (w:=X.w) hlo hhi (by omega) (by omega) (cap:=n) (by omega);simp only[execOp,e1];refine bd ?_;simp only[Option.map_none,Instr.sliceAt,Sem.run_bind,run_underlying hu,Result.andThen_ok,Instr.sureAddr,Sem.run_pure,hb];by_cases hci:n=i
 ·simp[sizeOf,typeInfo,hi1,hi2,offN,hci]
 ·simp[sizeOf,typeInfo,hi1,hi2,offN,hci,e9]
def yX{O:AS}{dd:Option Tmp}{op:BinOp}(hx:opV O x=some (.v (.slice none 0 0)))(hy:opV O y=some (.v (.slice none 0 0)))(ht:look Y.ty t=some (.slice e))(neg:Bool)(hop:(op=.eql/\neg=false)\/(op=.neq/\neg=true)):OpV P ⟨dd,.binOp op t x y yt,ty,pos,af,g⟩ O (.v (.bool (true != neg))):=by
 refine aQ rfl fun F X a hs=>⟨_,?_,.v _⟩
 have e1:=aZ hs (by simp[Op.operands]) hx;have h2:=aZ hs (by simp[Op.operands]) hy;have ht:=Y.tyOk _ _ ht;simp only[execOp,e1,h2];refine bd ?_;have q:=Lib.run_eql_slice_nil X.w t e none 0 0 0 0 ht;rcases hop with ⟨rfl,rfl⟩| ⟨rfl,rfl⟩
 ·simp[eqGuard,q,go_sem]
 ·have q':(Op.equal t (.slice none 0 0) (.slice none 0 0)).run P X.w=.ok true X.w:=by
   simp[Op.equal,Op.maxDepth,Lib.run_equalIn_slice_nil X.w 9999 t e none 0 0 0 0 ht]
  simp[eqGuard,binOp,go_sem,q']
def Us(hi:Inj I O.h)(op:Op):(VJ Y E O op).ok fun u=>OpV P ⟨d,op,ty,pos,af,g⟩ (O.to E.toEnc I) (u.to E.toEnc I):=by
 unfold VJ;split
 ·split
  ·rename_i k off n c ki i e hx hy ht;split
   ·rename_i hs;obtain⟨by_,hz⟩:=pP hs;intro j hj;obtain⟨h1,h2,h3,h4⟩:=nE hj;have:=nh (P:=P) (T:=Y) (dd:=d) (ty:=ty) (pos:=pos) (af:=af) (g:=g) (i:=j) (aF (I:=I) hx) (by rw[h3];exact dO hy) ht hz h4;rw[abB] at this;exact this
   ·trivial
  ·rename_i k off ki i n e hx hy ht;split
   ·rename_i hs;obtain⟨by_,hz⟩:=pP hs;intro j hj;obtain⟨h1,h2,h3,h4⟩:=nE hj;have:=As (P:=P) (Y:=Y) (dd:=d) (ty:=ty) (pos:=pos) (af:=af) (g:=g) (aF (I:=I) hx) (dO hy) ht hz h1 h2;rw[show i.toNat=j by omega] at this;exact this
   ·trivial
  ·trivial
 ·split
  ·rename_i k o dsc hx ht;split
   ·rename_i ty' l h1 hb;split
    ·rename_i hl;intro z hz;have:=lI (P:=P) (T:=Y) (d:=d) (ty:=ty) (pos:=pos) (af:=af) (g:=g) (aF (I:=I) hx) (uI hi hl hb) (u:=one E.toEnc ty' z) (by simp[hz]) ht h1 (n6 ty' z);rw[sX] at this;exact this
    ·trivial
   ·trivial
  ·trivial
 ·split
  ·rename_i k off n c e hx ht;split
   ·rename_i i j hs hl hh;obtain⟨by_,hz⟩:=pP hs;intro p hp;obtain⟨h1,h2,h3,h4⟩:=vD hp;subst h1 h2;exact An (P:=P) (Y:=Y) (aF (I:=I) hx) ht hz (lL hl) (lL hh) h3 h4
   ·trivial
  ·rename_i k off n e hx ht;split
   ·rename_i i j hs hl hh;obtain⟨by_,hz⟩:=pP hs;intro p hp;obtain⟨h1,h2,h3,h4⟩:=vD hp;subst h1 h2;exact Au (P:=P) (Y:=Y) (aF (I:=I) hx) ht hz (lL hl) (lL hh) h3 h4
   ·trivial
  ·trivial
 ·split
  ·rename_i e k off n c ht ht2 hx;split
   ·rename_i l he hb;intro s hs;unfold U3 at hs;split at hs
    ·rename_i hn;cases hs;obtain⟨hn0,hn⟩:=hn;subst hn0 hn;have hb':=uI (ty:=.byte) hi rfl hb;exact Gs (P:=P) (T:=Y) (L:=l) (aF (I:=I) hx) hb' ht he ht2
    ·cases hs
   ·trivial
  ·trivial
 ·rename_i xs ats;split
  ·rename_i x t hxs ha;have hxs':xs= #[x] :=by cases xs;simp at hxs;subst hxs;rfl
   subst hxs';split
   ·rename_i e k off n c ht hx;exact kW (T:=Y) (aF (I:=I) hx) ha ht
   ·trivial
  ·trivial
 ·split
  ·rename_i hx hy;split
   ·rename_i e ht;exact yX (aF (I:=I) hx) (aF (I:=I) hy) ht false (.inl ⟨rfl,rfl⟩)
   ·rename_i e ht;exact yX (aF (I:=I) hx) (aF (I:=I) hy) ht true (.inr ⟨rfl,rfl⟩)
   ·trivial
  ·trivial
 ·trivial
theorem Uw(b:Bk)(sz off:Nat){n:Nat}(h:0 < n):pc b sz off n=.slice (some ⟨b.b,off * sz,none⟩) n (n+b.sp.length / sz):=by
 unfold pc;have h1:Nat.beq (off+n) 0=false:=by
  cases hb:Nat.beq (off+n) 0 with
  |false=>rfl
  |true=>have:=ZK hb;omega
 rw[h1,abz,ZH (by decide),ZH (fun e=>by generalize b.sp.length / sz=q at e;omega)]
theorem Ux(b:Bk)(sz:Nat){n:Nat}(h:0 < n):vecV b sz n=.slice (some ⟨b.b,0,none⟩) n (n+b.sp.length / sz):=by unfold vecV;rw[ZH];intro e;rw[ZT] at e;have:=ZK e.2;omega
def u6{e:TypeId}{n:Nat}(h:Id Y e n=true):∃by_,look Y.sz e=some (n,by_):=by
 unfold Id at h;split at h
 ·rename_i m b hb;rw[ZK h] at hb;exact⟨b,hb⟩
 ·cases h
def iB{t:Ty}{k:Nat}{l:List (Den E.T t)}(h:pm O.h t k=some l):look O.h k=some (.vec k t l):=by
 unfold pm at h;split at h
 ·rename_i k' t' l' hb;split at h
  ·rename_i e;obtain⟨e2,rfl⟩:=ev h;cases e2;rw[ZK e] at hb;exact hb
  ·cases h
 ·cases h
def qo(hi:Inj I O.h){t:Ty}{k:Nat}{l:List (Den E.T t)}(h:pm O.h t k=some l)(hl:l≠[]):look (O.to E.toEnc I).h (I k)=some ((l.map (cells E.toEnc t)).flatten++ (I.k k).sp.map AV.v):=
 dz E.toEnc hi (iB h) (by cases l<;> first|exact absurd rfl hl|simp[bi])
def Ck{t:Ty}(sp:List AV):∀ {l:List (Den E.T t)} {j o:Nat} {z:Den E.T t},l[j]? =some z->o < csz E.toEnc t->((l.map (cells E.toEnc t)).flatten++sp)[j * csz E.toEnc t+o]? =(cells E.toEnc t z)[o]?
 | [],_,_,_,h,_=>by simp at h
 |a::l,0,o,z,h,ho=>by simp only[List.getElem?_cons_zero,Option.some.injEq] at h;subst h;rw[aap,aag,abg,Z6,aac,ZO (by rw[eH];exact ho)]
 |a::l,j+1,o,z,h,ho=>by
  rw[aap,aag,aac,ZJ (by rw[eH,aae];omega),eH,<- Ck (l:=l) (j:=j) sp (by simpa using h) ho]
  congr 1
  rw[aae];omega
def vm{t:Ty}(sp:List AV):∀ {l:List (Den E.T t)} {j:Nat} {z:Den E.T t},l[j]? =some z->(((l.map (cells E.toEnc t)).flatten++sp).drop (j * csz E.toEnc t)).take (csz E.toEnc t)=cells E.toEnc t z/\j * csz E.toEnc t+csz E.toEnc t<=((l.map (cells E.toEnc t)).flatten++sp).length
 | [],_,_,h=>by simp at h
 |a::l,0,z,h=>by simp only[List.getElem?_cons_zero,Option.some.injEq] at h;subst h;rw[aap,aag,abg,abl,aac];have:=eH E.toEnc t a;refine⟨?_,by rw[ZR];omega⟩;rw[<- this,List.take_left]
 |a::l,j+1,z,h=>by obtain⟨h1,h2⟩:=vm (l:=l) (j:=j) (z:=z) sp (by simpa using h);rw[aap,aag,aac];have:=eH E.toEnc t a;refine⟨?_,by rw[ZR,aae];omega⟩;rw[aae,abT,abO,<- List.drop_drop,<- this,List.drop_left,this,h1]
def jx{t:Ty}{sp:List Value}{l:List (Den E.T t)}:∀u∈((l.map (cells E.toEnc t)).flatten++sp.map AV.v),u.isMp=false:=fun u hu=>by
 rcases aaf.1 hu with hu|hu
 ·obtain⟨r,hr,hu⟩:=abe.1 hu;obtain⟨z,_,rfl⟩:=ZW.1 hr;have h1:=(jg E.toEnc t z u hu).1;cases u<;> first|rfl|cases h1
 ·obtain⟨v,_,rfl⟩:=ZW.1 hu;rfl
def L2(t:Ty)(z:Den E.T t):(cL E t z).length=csz E.toEnc t:=by have:=aas List.length (tP E Rn.zero t z);rw[Z3,eH] at this;exact this
def QI{t:Ty}{z:Den E.T t}{o:Nat}(h:o < csz E.toEnc t)(d:TA E.T):(cells E.toEnc t z)[o]? =some (((cL E t z).getD o d).to E.toEnc I):=by have hl:=L2 t z;rw[<- tP E I,aao,Z5,ZE (by omega)];rfl
def sx{O:AS}{dd:Option Tmp}{lo:Operand}{a:Option Addr}{n c i sz by_:Nat}(hx:opV O x=some (.v (.slice a n c)))(ht:look Y.ty t=some (.slice e))(hz:look Y.sz e=some (sz,by_))(hl:opV O lo=some (.v (.int .i64 (i:Int))))(h1:i<=n)(h2:n<=c):
  OpV P ⟨dd,.slice t x (some lo) none none,ty,pos,af,g⟩ O (.v (.slice (if c=i then a else a.map (·.add (i * sz))) (n - i) (c - i))):=by
 refine aQ rfl fun F X ac hs=> ?_;obtain⟨it,hi1,hi2,hi3,_⟩:=Y.szOk _ _ _ hz;have e1:=aZ hs (by simp[Op.operands]) hx;have hlo:=jJ (q:=some lo) (i:=(i:Int)) (z:=0) hs (fun p hp=>by cases hp;simp[Op.operands]) hl;refine⟨_,?_,.v _⟩;have hu:=Y.tyOk _ _ ht
 have hb:=kz (P:=P) (isS:=true) (w:=X.w) (hi:=none) (j:=(n:Int)) hlo rfl (by omega) (by omega) (cap:=c) (by omega);simp only[execOp,e1];refine bd ?_;simp only[Option.map_none,Option.map_some,Instr.sliceAt,Sem.run_bind,run_underlying hu,Result.andThen_ok] at hb ⊢
 simp only[Instr.slice,Sem.run_bind,run_underlying hu,Result.andThen_ok,hb];simp[sizeOf,typeInfo,hi1,hi2]
def tU{O:AS}{dd:Option Tmp}{hi:Operand}{a:Option Addr}{n c j sz by_:Nat}(hx:opV O x=some (.v (.slice a n c)))(ht:look Y.ty t=some (.slice e))(hz:look Y.sz e=some (sz,by_))(hl:opV O hi=some (.v (.int .i64 (j:Int))))(h1:j<=c):
  OpV P ⟨dd,.slice t x none (some hi) none,ty,pos,af,g⟩ O (.v (.slice (if c=0 then a else a.map (·.add (0 * sz))) (j - 0) (c - 0))):=by
 refine aQ rfl fun F X ac hs=> ?_;obtain⟨it,hi1,hi2,hi3,_⟩:=Y.szOk _ _ _ hz;have e1:=aZ hs (by simp[Op.operands]) hx;have hhi:=jJ (q:=some hi) (i:=(j:Int)) (z:=(n:Int)) hs (fun p hp=>by cases hp;simp[Op.operands]) hl;refine⟨_,?_,.v _⟩;have hu:=Y.tyOk _ _ ht
 have hb:=kz (P:=P) (isS:=true) (w:=X.w) (lo:=none) (i:=0) (len:=n) rfl hhi (by omega) (by omega) (cap:=c) (by omega);simp only[execOp,e1];refine bd ?_;simp only[Option.map_none,Option.map_some,Instr.sliceAt,Sem.run_bind,run_underlying hu,Result.andThen_ok] at hb ⊢
 simp only[Instr.slice,Sem.run_bind,run_underlying hu,Result.andThen_ok,hb];simp[sizeOf,typeInfo,hi1,hi2]
def DT{O:AS}{dd:Option Tmp}{n:Nat}{i:Int}{ki:IntKind}{by_:Nat}{cs:List AV}{c:AV}(hx:opV O x=some (.el cs))(hy:opV O y=some (.v (.int ki i)))(ht:look Y.ty t=some (.array n e))(hz:look Y.sz e=some (1,by_))(h0:0<=i)(h1:i < n)(hc:cs[i.toNat]? =some c):
  OpV P ⟨dd,.indexAddr t x y,ty,pos,af,g⟩ O (.el [c]):=by
 refine aQ rfl fun F X a hs=> ?_;obtain⟨it,hi1,hi2,hi3,_⟩:=Y.szOk _ _ _ hz;have e1:=cO hs (by simp[Op.operands]) hx;have e2:=aZ hs (by simp[Op.operands]) hy;simp only[execOp,e2];generalize a.eval x=v at e1;cases e1 with
 |el _ b off n' c' hg hn hm hr=>
  have hlt:i.toNat < cs.length:=by
   rcases Nat.lt_or_ge i.toNat cs.length with h|h
   ·exact h
   ·rw[abi h] at hc;cases hc
  have hu:=Y.tyOk _ _ ht;refine⟨.pointer (some ⟨b,off+i.toNat,none⟩),?_,.el [c] b (off+i.toNat) n' (fun j=>c' (i.toNat+j)) hg (by simp;omega) (fun j u hj=> ?_) (fun j u hj=> ?_)⟩
  ·refine bd ?_;simp[Instr.indexAt,asIntOf,run_underlying hu,sizeOf,typeInfo,hi1,hi2,h0,h1,e9,Instr.sureAddr]
  ·cases j with
   |zero=>simp at hj;subst hj;exact hm _ c hc
   |succ j=>simp at hj
  ·cases j with
   |zero=>simp at hj;subst hj;exact hr _ c hc
   |succ j=>simp at hj
def LN{n:Nat}{p:Option (List Bool)}{i:Int}{b:Bool}(h:AE n p i=some b):∃l,p=some l/\0<=i/\i < n/\b=l.getD i.toNat false:=by
 unfold AE at h;cases p with
 |none=>cases h
 |some l=>simp only[Option.bind_some,Option.map_eq_some_iff] at h;obtain⟨j,hj,rfl⟩:=h;obtain⟨h1,h2,h3,h4⟩:=nE hj;exact⟨l,rfl,h1,h2,by congr 1;omega⟩
def Tn(hi:Inj I O.h)(op:Op):(Xd Y E O op).ok fun u=>OpV P ⟨d,op,ty,pos,af,g⟩ (O.to E.toEnc I) (u.to E.toEnc I):=by
 unfold Xd;split
 ·rename_i t x y ok;split
  ·rename_i kt et k key h0 hx hy;split
   ·rename_i zv ty' l hk hz hb;have hb':look (O.to E.toEnc I).h (I k)=some [imap (l.map fun p=>(p.1,one E.toEnc ty' p.2))] :=dz E.toEnc hi hb rfl;split
    ·rename_i z hzm;have h1:=Ct (P:=P) (T:=Y) (d:=d) (ty:=ty) (pos:=pos) (af:=af) (g:=g) (aF (I:=I) hx) hb' (dO hy) h0 hk hz;rw[yl] at h1;refine DP h1 ?_;cases hm:mL l key with
     |none=>show AV.tu [cst zv,_] =AV.tu [one E.toEnc ty' z,_];rw[(jX (E:=E.toEnc) hzm).1];rfl
     |some x=>show AV.tu [(one E.toEnc ty' x).rd,_] =AV.tu [one E.toEnc ty' x,_];rw[sX];rfl
    ·rename_i z hzm;have h1:=zY (P:=P) (T:=Y) (d:=d) (ty:=ty) (pos:=pos) (af:=af) (g:=g) (aF (I:=I) hx) hb' (dO hy) h0 hk hz (jX (E:=E.toEnc) hzm).2;rw[yl] at h1;refine DP h1 ?_;cases hm:mL l key with
     |none=>exact(jX (E:=E.toEnc) hzm).1
     |some x=>exact sX _ _ _
    ·trivial
   ·trivial
  ·trivial
 ·split
  ·rename_i i p hx;intro y hy;subst hy;have hx':=aF (I:=I) hx;have h2:=oW (P:=P) (d:=d) (ty:=ty) (pos:=pos) (af:=af) (g:=g) hx';have:(TV.el (E.unp i y):TV E.T).to E.toEnc I=.el (E.enc i y):=aas AV.el (E.unp_to i y I);rw[this];exact h2
  ·rename_i n p hx;intro y hy;subst hy;have hx':=aF (I:=I) hx;exact oW hx'
  ·trivial
 ·split
  ·rename_i n p ki i m e hx hy ht;split
   ·rename_i hs
    rw[ZT] at hs;obtain⟨by_,hz⟩:=pP hs.1;have hm:=ZK hs.2;subst hm;intro b hb;obtain⟨l,rfl,h1,h2,rfl⟩:=LN hb;have hx':=aF (I:=I) hx;refine DT (cs:=cells E.toEnc (.bits m) l) hx' (dO hy) ht hz h1 h2 ?_;show((List.range m).map fun j=>AV.v (.bool (List.getD l j false)))[i.toNat]? =_;rw[aao,List.getElem?_range (by omega)];rfl
   ·trivial
  ·rename_i ty' k n ki i e hx hy ht;split
   ·rename_i hs;obtain⟨by_,hz⟩:=u6 hs;intro j hj;obtain⟨h1,h2,h3,h4⟩:=nE hj;have hx':=aF (I:=I) hx;simp only[TV.to,TA.to,Ux _ _ (show 0 < n by omega)] at hx';have:=nh (P:=P) (T:=Y) (dd:=d) (ty:=ty) (pos:=pos) (af:=af) (g:=g) (i:=j) hx' (by rw[h3];exact dO hy) ht hz h4;rw[Z6] at this;exact this
   ·trivial
  ·rename_i ty' k off n ki i e hx hy ht;split
   ·rename_i hs;obtain⟨by_,hz⟩:=u6 hs;intro j hj;obtain⟨h1,h2,h3,h4⟩:=nE hj;have hx':=aF (I:=I) hx;simp only[TV.to,TA.to,Uw _ _ off (show 0 < n by omega)] at hx';have:=nh (P:=P) (T:=Y) (dd:=d) (ty:=ty) (pos:=pos) (af:=af) (g:=g) (i:=j) hx' (by rw[h3];exact dO hy) ht hz h4;rw[<- aae] at this;exact this
   ·trivial
  ·trivial
 ·split
  ·rename_i ty' k j o fs hx ht;split
   ·rename_i f hf;split
    ·rename_i fsz hz;split
     ·rename_i hp;have:=sB (P:=P) (T:=Y) (d:=d) (ty:=ty) (pos:=pos) (af:=af) (g:=g) (aF (I:=I) hx) ht hf hz hp;rw[abM] at this;exact this
     ·trivial
    ·trivial
   ·trivial
  ·trivial
 ·split
  ·rename_i ty' k j o hx;split
   ·rename_i l fs hv ht;split
    ·rename_i hc;rw[ZT] at hc;have ho:=ZK hc.1;subst ho;obtain⟨by_,hz⟩:=u6 hc.2;intro z hz';have hl:l≠[] :=fun e=>by rw[e] at hz';simp at hz'
     obtain⟨q1,q2⟩:=vm ((I.k k).sp.map AV.v) hz';have:=sK (P:=P) (T:=Y) (dd:=d) (ty:=ty) (pos:=pos) (af:=af) (g:=g) (aF (I:=I) hx) (qo hi hv hl) ht hz (aaS q2) (fN jx);rw[aa6,q1] at this;have e2:(cells E.toEnc ty' z).map AV.rd=cells E.toEnc ty' z:=by
      conv=>rhs;rw[<- List.map_id (cells E.toEnc ty' z)]
      exact aai fun u hu=>(jg E.toEnc ty' z u hu).2
     rw[e2,<- tP E I] at this;exact this
    ·trivial
   ·rename_i l dsc hns hv ht;split
    ·rename_i hc;rw[ZT] at hc;have ho:o < csz E.toEnc ty':=ZS hc.2;intro z hz';have hl:l≠[] :=fun e=>by rw[e] at hz';simp at hz'
     have hg:=Ck ((I.k k).sp.map AV.v) hz' ho;rw[QI (I:=I) ho (.raw undef)] at hg;have:=lI (P:=P) (T:=Y) (d:=d) (ty:=ty) (pos:=pos) (af:=af) (g:=g) (aF (I:=I) hx) (qo hi hv hl) hg ht hc.1 (TA.to_notMp _ _ _);rw[<- TA.rd_to] at this;exact this
    ·trivial
   ·trivial
  ·trivial
 ·rename_i t x lo;split
  ·rename_i ty' k n i e hx hy ht;split
   ·rename_i hs;obtain⟨by_,hz⟩:=u6 hs;intro p hp;obtain⟨h1,h2,h3,h4⟩:=vD hp;have hx':=aF (I:=I) hx;have hy':opV (O.to E.toEnc I) lo=some (.v (.int .i64 (p.1:Int))):=by rw[<- h1];exact dO hy
    by_cases hn:((I.k k).nil && Nat.beq n 0)=true
    ·have hn':=hn;rw[ZT] at hn';have n0:=ZK hn'.2;have hv:vecV (I.k k) (csz E.toEnc ty') n=.slice (nS (I.k k).sp) 0 0:=by unfold vecV;rw[if_pos hn]
     simp only[TV.to,TA.to,hv] at hx';have p0:p.1=0:=by omega
     have:=sx (P:=P) (Y:=Y) (dd:=d) (ty:=ty) (pos:=pos) (af:=af) (g:=g) (i:=p.1) hx' ht hz hy' (by omega) (by omega);have e:pc (I.k k) (csz E.toEnc ty') p.1 (n - p.1)=.slice (nS (I.k k).sp) 0 0:=by unfold pc;rw[ZI];rw[p0,n0];rw[n0] at hn;exact hn
     simp only[TV.to,TA.to,e];simpa[p0] using this
    ·have hv:vecV (I.k k) (csz E.toEnc ty') n=.slice (some ⟨I k,0,none⟩) n (n+ (I.k k).sp.length / csz E.toEnc ty'):=by unfold vecV;rw[if_neg hn];rfl
     simp only[TV.to,TA.to,hv] at hx';have hq:n<=n+ (I.k k).sp.length / csz E.toEnc ty':=abf _ _;have:=sx (P:=P) (Y:=Y) (dd:=d) (ty:=ty) (pos:=pos) (af:=af) (g:=g) (i:=p.1) hx' ht hz hy' (by omega) hq
     have e:pc (I.k k) (csz E.toEnc ty') p.1 (n - p.1)=.slice (if n+ (I.k k).sp.length / csz E.toEnc ty'=p.1 then some ⟨I k,0,none⟩ else some ⟨I k,p.1 * csz E.toEnc ty',none⟩) (n - p.1) (n+ (I.k k).sp.length / csz E.toEnc ty' - p.1):=by
      unfold pc;rw[ZH (by rw[show p.1+ (n - p.1)=n by omega];exact hn)];have e2:n - p.1+ (I.k k).sp.length / csz E.toEnc ty'=n+ (I.k k).sp.length / csz E.toEnc ty' - p.1:=by generalize (I.k k).sp.length / csz E.toEnc ty'=q;omega
      rw[e2];generalize (I.k k).sp.length / csz E.toEnc ty'=q;by_cases hc:n+q=p.1
      ·rw[ZI (by omega),ZI hc];rfl
      ·rw[ZH (by omega),ZH hc];rfl
     simp only[TV.to,TA.to,e];simp only[Option.map_some,e9,Nat.zero_add] at this;exact this
   ·trivial
  ·trivial
 ·rename_i xs ats;split
  ·rename_i x t hxs ha;have hxs':xs= #[x] :=by cases xs;simp at hxs;subst hxs;rfl
   subst hxs';split
   ·rename_i e ty' k n ht hx;have hx':=aF (I:=I) hx;by_cases hn:((I.k k).nil && Nat.beq n 0)=true
    ·have hn':=hn;rw[ZT] at hn';have n0:=ZK hn'.2;have hv:vecV (I.k k) (csz E.toEnc ty') n=.slice (nS (I.k k).sp) 0 0:=by unfold vecV;rw[if_pos hn]
     simp only[TV.to,TA.to,hv] at hx';subst n0;exact kW (T:=Y) hx' ha ht
    ·have hv:vecV (I.k k) (csz E.toEnc ty') n=.slice (some ⟨I k,0,none⟩) n (n+ (I.k k).sp.length / csz E.toEnc ty'):=by unfold vecV;rw[if_neg hn];rfl
     simp only[TV.to,TA.to,hv] at hx';exact kW (T:=Y) hx' ha ht
   ·rename_i e ty' k off n ht hx;have hx':=aF (I:=I) hx;by_cases hn:((I.k k).nil && Nat.beq (off+n) 0)=true
    ·have hn':=hn;rw[ZT] at hn';have n0:=ZK hn'.2;have hv:pc (I.k k) (csz E.toEnc ty') off n=.slice (nS (I.k k).sp) 0 0:=by unfold pc;rw[if_pos hn]
     simp only[TV.to,TA.to,hv] at hx';obtain rfl:n=0:=by omega
     exact kW (T:=Y) hx' ha ht
    ·have hv:pc (I.k k) (csz E.toEnc ty') off n=.slice (some ⟨(I.k k).b,if n+ (I.k k).sp.length / csz E.toEnc ty'=0 then 0 else off * csz E.toEnc ty',none⟩) n (n+ (I.k k).sp.length / csz E.toEnc ty'):=by unfold pc;rw[if_neg hn]
     simp only[TV.to,TA.to,hv] at hx';exact kW (T:=Y) hx' ha ht
   ·trivial
  ·trivial
 ·trivial
def HY(hi:Inj I O.h)(hG:GOk P Y E G)(op:Op):(evP Y E G O op ty).ok fun u=>OpV P ⟨d,op,ty,pos,af,g⟩ (O.to E.toEnc I) (u.to E.toEnc I):=by
 have h:=Us (Y:=Y) (E:=E) (d:=d) (ty:=ty) (pos:=pos) (af:=af) (g:=g) hi op;have h2:=Tn (Y:=Y) (E:=E) (d:=d) (ty:=ty) (pos:=pos) (af:=af) (g:=g) hi op;unfold evP;split
 ·split
  ·exact SE hi hG op
  ·exact h
 ·exact h2
end
section
variable {P:Program} {T:Tys P} {O:AS} {t u ty e:TypeId} {x y:Operand} {pos:String} {af:Array Edge} {g:Option (Nat × Bool)}
def KC{k off n c:Nat}{cs:List AV}{zv:Value}(hx:opV O x=some (.v (.slice (some ⟨k,off,none⟩) n c)))(hb:look O.h k=some cs)(hmp:fU cs=false)(ht:look T.ty t=some (.slice e))(hz:look T.zr e=some zv)(hl:off+n * zv.cells.size<=cs.length)(hone:∀v∈(Builtin.zeroCells zv.cells n).toList,v.oneCell'=true)
  {R:AS->Prop} (hR:R (O.setc k (cF cs off ((Builtin.zeroCells zv.cells n).toList.map .v)))):dM P ⟨none,.call { callee:=.builtin .clear,args:= #[x],argTypes:= #[t] },ty,pos,af,g⟩ O R:=by
 intro F X a hs;have e1:=cE (cC hs hx);obtain⟨i,hi1,hi2⟩:=T.zrOk _ _ hz;obtain⟨b1,b2,arr,el,fr,b3,b4,b5,b6⟩:=(hs.box k cs hb).cells hmp;have hzs:(Builtin.zeroCells zv.cells n).size=n * zv.cells.size:=by simp[Builtin.zeroCells]
 have hst:=run_storeCells_cells (P:=P) k off (Builtin.zeroCells zv.cells n).toList 0 X.w (fun j hj=>by
  rw[aaW,hzs] at hj;have:off+j < arr.size:=by rw[b4];omega
  simp[World.cell?,b3,this]) (fun j hj=>b5 _) hone
 simp only[Nat.add_zero] at hst;obtain⟨s1,s2⟩:=SimE.setc (cs:=cs) (us:=(Builtin.zeroCells zv.cells n).toList.map .v) (vs:=(Builtin.zeroCells zv.cells n).toList) hs hb (by rw[Z3,aaW,hzs];exact hl) (by simp) (fun j u v hu hv=>by
  rw[aao,hv] at hu;cases hu;exact .v _) (fun j sz' l v ho=>by
  rw[aao] at ho;cases hq:(Builtin.zeroCells zv.cells n).toList[j]? with
  |none=>rw[hq] at ho;cases ho
  |some u0=>rw[hq] at ho;cases ho) (fun j j' p q ho=>by
  rw[aao] at ho;cases hq:(Builtin.zeroCells zv.cells n).toList[j]? with
  |none=>rw[hq] at ho;cases ho
  |some u0=>rw[hq] at ho;cases ho) hmp
 have hrun:(Builtin.clear_ #[t] ty #[.slice (some ⟨k,off,none⟩) n c]).run P X.w=.ok (.tuple #[]) (X.w.setCells k off (Builtin.zeroCells zv.cells n).toList):=by
  cases n with
  |zero=>
   have:(Builtin.zeroCells zv.cells 0).toList=[] :=by simp[Builtin.zeroCells]
   rw[this];simp[Builtin.clear_,run_underlying (T.tyOk _ _ ht),World.setCells]
  |succ m=>simp[Builtin.clear_,run_underlying (T.tyOk _ _ ht),zeroValue,typeInfo,hi1,hi2,hst]
 refine cX (x:=.tuple #[]) (w':=X.w.setCells k off (Builtin.zeroCells zv.cells n).toList) (by simp[execOp,resolve,invoke,builtin,e1,hrun]) ⟨_,_,rfl,hR,?_,s2⟩;exact s1
end
inductive Tree (L:Type):Type 1 where
 |leaf (x:L)
 |cond (b:Bool) (t f:Tree L)
 |bnd {α:Type} (o:Option α) (k:α->Tree L)
 |sm {α:Type} (x:PR α) (k:α->Tree L) (p:Value->Tree L)
 |nl {α:Type} (l:List α) (t f:Tree L)
 |fail
def Tree.holds{L:Type}(K:L->Prop):Tree L->Prop
 |.leaf x=>K x
 |.cond b t f=>(b=true->t.holds K)/\(b=false->f.holds K)
 |.bnd o k=>∃z,o=some z/\(k z).holds K
 |.sm x k p=>(∀z,x=.ok z->(k z).holds K)/\∀v,x=.pan v->(p v).holds K
 |.nl l t f=>(l=[] ->t.holds K)/\f.holds K
 |.fail=>False
def Tree.bind{L M:Type}(f:L->Tree M):Tree L->Tree M
 |.leaf x=>f x
 |.cond b s t=>.cond b (s.bind f) (t.bind f)
 |.bnd o k=>.bnd o fun z=>(k z).bind f
 |.sm x k p=>.sm x (fun z=>(k z).bind f) fun v=>(p v).bind f
 |.nl l s t=>.nl l (s.bind f) (t.bind f)
 |.fail=>.fail
def bM{L M:Type}{f:L->Tree M}{K:M->Prop}:∀ {t:Tree L},(t.bind f).holds K->t.holds fun x=>(f x).holds K
 |.leaf x,h=>h
 |.cond b s t,h=>⟨fun e=>bM (h.1 e),fun e=>bM (h.2 e)⟩
 |.bnd o k,⟨z,h1,h2⟩=>⟨z,h1,bM h2⟩
 |.sm x k p,h=>⟨fun z e=>bM (h.1 z e),fun v e=>bM (h.2 v e)⟩
 |.nl l s t,h=>⟨fun e=>bM (h.1 e),bM h.2⟩
 |.fail,h=>h
def Tree.holds.mono{L:Type}{K K':L->Prop}(hk:∀x,K x->K' x):∀ {t:Tree L},t.holds K->t.holds K'
 |.leaf x,h=>hk x h
 |.cond b s t,h=>⟨fun e=>(h.1 e).mono hk,fun e=>(h.2 e).mono hk⟩
 |.bnd o k,⟨z,h1,h2⟩=>⟨z,h1,h2.mono hk⟩
 |.sm x k p,h=>⟨fun z e=>(h.1 z e).mono hk,fun v e=>(h.2 v e).mono hk⟩
 |.nl l s t,h=>⟨fun e=>(h.1 e).mono hk,h.2.mono hk⟩
 |.fail,h=>h
def LeV(u u':AV):Prop:=Le1 u u'\/((∀X v,Rel X u v->Rel X u' v)/\de (some u')=none)
def LeV.rel{u u':AV}(h:LeV u u'){X:GW}{v:Value}(hr:Rel X u v):Rel X u' v:=by
 rcases h with h|h
 ·exact h.rel hr
 ·exact h.1 X v hr
def SimE.le3{F:Nat->Prop}{X:GW}{O σ':AS}{tm:Array Value}(h:SimE F X O tm)(hn:σ'.n=O.n)(ht:∀t u',look σ'.t t=some u'->∃u,look O.t t=some u/\LeV u u')(hh:∀k cs',look σ'.h k=some cs'->∃cs,look O.h k=some cs/\LeL cs cs')(he:∀p∈σ'.e,p∈O.e):SimE F X σ' tm:=by
 have heq:kQ σ'.e tm X.w:=fun p hp=>h.eqm p (he p hp);refine⟨h.toSim.reown hn (fun t u hu=> ?_) (fun k cs hk=> ?_) heq.look id (fun r sz l ho=> ?_) (fun _ _ hne _ _=>hne),heq⟩
 ·obtain⟨u0,h1,h2⟩:=ht t u hu;exact h2.rel (h.slot t u0 h1)
 ·obtain⟨cs0,h1,h2⟩:=hh k cs hk;rcases h.box k cs0 h1 with ⟨_,b1,b2,arr,e,fr,b3,b4,b5,b6⟩| ⟨l,rfl,hmk⟩
  case inr=>
   cases h2 with
   |cons hu hr=>cases hr;cases hu;exact .inr ⟨l,rfl,hmk⟩
  refine ef.box ⟨b1,b2,arr,e,fr,b3,by rw[b4];exact h2.length,b5,fun o u x hu hx=> ?_⟩;obtain⟨u0,k1,k2⟩:=h2.get o u hu;exact k2.rel (b6 o u0 x k1 hx)
 ·cases r with
  |s t=>
   simp only[AS.own] at ho;cases hlk:look σ'.t t with
   |none=>rw[hlk] at ho;cases ho
   |some u=>
    rw[hlk] at ho;obtain⟨u0,h1,h2⟩:=ht t u hlk;rcases h2 with h2|h2
    ·rcases h2.own ho with h3| ⟨h3,h4⟩
     ·right;simp only[id,AS.own];rw[h1];exact⟨h3,trivial⟩
     ·left;subst h3;have:=h.slot t _ h1;refine⟨?_,h4⟩;simp only[rootV];generalize tm.getD t undef=y at this;cases this;rfl
    ·rw[h2.2] at ho;cases ho
  |c k o=>
   simp only[AS.own] at ho;cases hlk:look σ'.h k with
   |none=>rw[hlk] at ho;cases ho
   |some cs=>
    rw[hlk] at ho;simp only at ho;obtain⟨cs0,h1,h2⟩:=hh k cs hlk;cases hc:cs[o]? with
    |none=>rw[hc] at ho;cases ho
    |some u=>
     rw[hc] at ho;obtain⟨u0,k1,k2⟩:=h2.get o u hc;rcases k2.own ho with h3| ⟨h3,h4⟩
     ·right;simp only[id,AS.own];rw[h1];simp only;rw[k1];exact⟨h3,trivial⟩
     ·left;subst h3;obtain⟨b1,b2,arr,e,fr,b3,b4,b5,b6⟩:=(h.box k cs0 h1).at k1 rfl;have hlt:=(ZD.1 k1).1;have hx:arr[o]? =some arr[o] :=ZV (by omega);have:=b6 o _ _ k1 hx;refine⟨?_,h4⟩;simp only[rootV,World.cell?,b3];rw[hx];generalize arr[o] =y at this;cases this;rfl
def SimE.retell{F:Nat->Prop}{X:GW}{O σ':AS}{tm:Array Value}(h:SimE F X O tm)(hn:σ'.n=O.n)(ht:∀t u',look σ'.t t=some u'->(∃u,look O.t t=some u/\LeV u u')\/(Rel X u' (tm.getD t undef)/\de (some u')=none))(hh:∀k cs',look σ'.h k=some cs'->(∃cs,look O.h k=some cs/\LeL cs cs')\/(eN F X k cs'/\io cs'))(he:∀p∈σ'.e,p∈O.e):SimE F X σ' tm:=by
 have heq:kQ σ'.e tm X.w:=fun p hp=>h.eqm p (he p hp);have hbox:∀k cs cs0,look O.h k=some cs0->LeL cs0 cs->eN F X k cs:=fun k cs cs0 h1 h2=>by
  rcases h.box k cs0 h1 with ⟨_,b1,b2,arr,e,fr,b3,b4,b5,b6⟩| ⟨l,rfl,hmk⟩
  case inr=>
   cases h2 with
   |cons hu hr=>cases hr;cases hu;exact .inr ⟨l,rfl,hmk⟩
  refine ef.box ⟨b1,b2,arr,e,fr,b3,by rw[b4];exact h2.length,b5,fun o u x hu hx=> ?_⟩;obtain⟨u0,k1,k2⟩:=h2.get o u hu;exact k2.rel (b6 o u0 x k1 hx)
 refine⟨h.toSim.reown hn (fun t u hu=> ?_) (fun k cs hk=> ?_) heq.look id (fun r sz l ho=> ?_) (fun _ _ hne _ _=>hne),heq⟩
 ·rcases ht t u hu with ⟨u0,h1,h2⟩| ⟨h1,_⟩
  ·exact h2.rel (h.slot t u0 h1)
  ·exact h1
 ·rcases hh k cs hk with ⟨cs0,h1,h2⟩| ⟨h1,_⟩
  ·exact hbox k cs cs0 h1 h2
  ·exact h1
 ·cases r with
  |s t=>
   simp only[AS.own] at ho;cases hlk:look σ'.t t with
   |none=>rw[hlk] at ho;cases ho
   |some u=>
    rw[hlk] at ho;rcases ht t u hlk with ⟨u0,h1,h2⟩| ⟨_,h2⟩
    ·rcases h2 with h2|h2
     ·rcases h2.own ho with h3| ⟨h3,h4⟩
      ·right;simp only[id,AS.own];rw[h1];exact⟨h3,trivial⟩
      ·left;subst h3;have:=h.slot t _ h1;refine⟨?_,h4⟩;simp only[rootV];generalize tm.getD t undef=y at this;cases this;rfl
     ·rw[h2.2] at ho;cases ho
    ·rw[h2] at ho;cases ho
  |c k o=>
   simp only[AS.own] at ho;cases hlk:look σ'.h k with
   |none=>rw[hlk] at ho;cases ho
   |some cs=>
    rw[hlk] at ho;simp only at ho;cases hc:cs[o]? with
    |none=>rw[hc] at ho;cases ho
    |some u=>
     rw[hc] at ho;rcases hh k cs hlk with ⟨cs0,h1,h2⟩| ⟨_,h2⟩
     ·obtain⟨u0,k1,k2⟩:=h2.get o u hc;rcases k2.own ho with h3| ⟨h3,h4⟩
      ·right;simp only[id,AS.own];rw[h1];simp only;rw[k1];exact⟨h3,trivial⟩
      ·left;subst h3;obtain⟨b1,b2,arr,e,fr,b3,b4,b5,b6⟩:=(h.box k cs0 h1).at k1 rfl;have hlt:=(ZD.1 k1).1;have hx:arr[o]? =some arr[o] :=ZV (by omega);have:=b6 o _ _ k1 hx;refine⟨?_,h4⟩;simp only[rootV,World.cell?,b3];rw[hx];generalize arr[o] =y at this;cases this;rfl
     ·rw[h2 u (ZQ hc)] at ho;cases ho
def SimE.rebox{F:Nat->Prop}{X:GW}{O σ':AS}{tm:Array Value}(h:SimE F X O tm)(hn:σ'.n=O.n)(ht:∀t u',look σ'.t t=some u'->∃u,look O.t t=some u/\LeV u u')(hh:∀k cs',look σ'.h k=some cs'->(∃cs,look O.h k=some cs/\LeL cs cs')\/(eN F X k cs'/\io cs'))(he:∀p∈σ'.e,p∈O.e):SimE F X σ' tm:=
 h.retell hn (fun t u' hu=>.inl (ht t u' hu)) hh he
def SimE.le2{F:Nat->Prop}{X:GW}{O σ':AS}{tm:Array Value}(h:SimE F X O tm)(hn:σ'.n=O.n)(ht:∀t u',look σ'.t t=some u'->∃u,look O.t t=some u/\Le1 u u')(hh:∀k cs',look σ'.h k=some cs'->∃cs,look O.h k=some cs/\LeL cs cs')(he:∀p∈σ'.e,p∈O.e):SimE F X σ' tm:=
 h.le3 hn (fun t u' hu=>let ⟨u,h1,h2⟩:=ht t u' hu;⟨u,h1,.inl h2⟩) hh he
def aI.args{P:Program}{f:FuncId}{us us':List AV}{H:List (Nat × List AV)}{post:AOut->List (Nat × List AV)->Prop}(hl:us.length=us'.length)(hr:∀ (i:Nat) u u',us[i]? =some u->us'[i]? =some u'->LeV u u')(h:aI P f us' H post):aI P f us H post:=by
 refine⟨h.1,fun F X vs hs=>h.2 F X vs ?_⟩;refine hs.le3 hl.symm (fun t u' hu=> ?_) (fun k cs' hk=>⟨cs',hk,LeL.refl _⟩) (fun p hp=>hp);obtain⟨_,h2⟩:=dy us' 0 t u' hu;have hlt:=(ZD.1 h2).1;have hlt':t < us.length:=by omega
 have e:us[t]? =some us[t] :=ZE hlt';refine⟨us[t],?_,hr t _ _ e h2⟩;have key:∀ (us:List AV) (k t:Nat) (u:AV),us[t]? =some u->look (slotsOf k us) (k+t)=some u:=by
  intro us
  induction us with
  |nil=>intro k t u h;simp at h
  |cons a us ih=>
   intro k t u h;simp only[slotsOf,ae];cases t with
   |zero=>simp at h;subst h;simp
   |succ t=>rw[ZH (by omega),show k+ (t+1)=(k+1)+t by omega];exact ih (k+1) t u (by simpa using h)
 simpa using key us 0 t _ e
section
variable {E:Env} {I:Rn}
def TS.rootT{T:Nat->Type}(O:TS T)(s:Nat):Option Root:=match look O.t s with
 |some (.a (.own _ _))=>some (.s s)
 |some (.a (.d (.sl _) _))=>look O.e s
 |_=>none
def tY{O:TS E.T}{s:Nat}{r:Root}(h:O.rootT s=some r):jZ (O.to E.toEnc I) s=some (r.to I):=by
 unfold TS.rootT at h;unfold jZ;split at h
 ·rename_i t l hl;cases h;simp only[TS.to,cg,hl];rfl
 ·rename_i t l hl;simp only[TS.to,cg,hl,FR,h];rfl
 ·cases h
def Ig{O:TS E.T}{s:Nat}(h:O.rootT s=none){u:TV E.T}(hu:look O.t s=some u):jZ (O.to E.toEnc I) s=none\/∃v,u=.a (.raw v):=by
 unfold TS.rootT at h;unfold jZ;rw[hu] at h;simp only[TS.to,cg,hu,FR];cases u with
 |a x=>
  cases x with
  |d t x=>
   cases t with
   |sl t=>left;show Option.map (Root.to I) (look O.e s)=none;rw[show look O.e s=none from h];rfl
   |ptr t=>left;cases x<;> rfl
   |_=>left;rfl
  |own t l=>cases h
  |raw v=>right;exact⟨v,rfl⟩
  |_=>left;rfl
 |_=>left;rfl
def TS.mvT{T:Nat->Type}(O:TS T)(d s:Nat)(u:TV T):TS T:=match O.rootT s with
 |some r=>match r.in d with
  |true=>O.put d u.rd
  |false=>(O.put d u.rd).alias d r
 |none=>O.put d u.rd
def Mx{O:TS E.T}{d s:Nat}{u:TV E.T}(hu:look O.t s=some u)(hr:∀v,u≠.a (.raw v)):(O.to E.toEnc I).mv d s (u.to E.toEnc I)=(O.mvT d s u).to E.toEnc I:=by
 unfold AS.mv TS.mvT;cases h:O.rootT s with
 |none=>
  rcases Ig (I:=I) h hu with h1| ⟨v,h1⟩
  ·rw[h1];simp only[cI,TV.rd_to]
  ·exact absurd h1 (hr v)
 |some r=>
  rw[tY h];simp only[Em];cases r.in d
  ·simp only[ER,cI,TV.rd_to]
  ·simp only[cI,TV.rd_to]
def Vm{T:Nat->Type}(O:TS T)(d s:Nat)(u:TV T):(O.mvT d s u).h=O.h:=by
 unfold TS.mvT;split
 ·split<;> rfl
 ·rfl
def mC(d:Nat):List (Nat × Root)->Option Nat
 | [] =>none
 | (x,.s t)::r=>match Nat.beq t d,Nat.beq x d with|true,false=>some x|_,_=>mC d r
 | (_,.c _ _)::r=>mC d r
def qV(d:Nat):∀ (e:List (Nat × Root)),j8 d (eTo I e)=mC d e
 | [] =>rfl
 | (x,.s t)::r=>by
   have:=qV d r;show(match Nat.beq t d,Nat.beq x d with|true,false=>some x|_,_=>j8 d (eTo I r))=(match Nat.beq t d,Nat.beq x d with|true,false=>some x|_,_=>mC d r)
   rw[this]
 | (x,.c k o)::r=>qV d r
def TS.freeT{T:Nat->Type}(O:TS T)(d:Nat):TS T:=match mC d O.e with
 |some x=>O.hand x d
 |none=>O
def sF{O:AS}{x:Nat}{r:Root}(h:O.own r=none):O.hand x r=O:=by unfold AS.hand;rw[h]
def QY(O:TS E.T)(x t:Nat)(hr:∀v,look O.t t≠some (.a (.raw v))):(O.hand x t).to E.toEnc I=(O.to E.toEnc I).hand x (.s t):=by
 by_cases h:∃ty l,look O.t t=some (.a (.own ty l))
 ·obtain⟨ty,l,hl⟩:=h;exact Kq O hl
 ·have h1:O.hand x t=O:=by
   unfold TS.hand;split
   ·rename_i ty l hl;exact absurd ⟨ty,l,hl⟩ h
   ·rfl
  rw[h1,sF];simp only[AS.own,TS.to,cg];cases hl:look O.t t with
  |none=>rfl
  |some u=>
   cases u with
   |a x=>
    cases x with
    |d t x=>exact vi _ _ _
    |own t l=>exact absurd ⟨t,l,hl⟩ h
    |raw v=>exact absurd hl (hr v)
    |_=>rfl
   |_=>rfl
def UJ{T:Nat->Type}(O:TS T)(d:Nat):(O.freeT d).h=O.h:=by
 unfold TS.freeT;split
 ·unfold TS.hand;split<;> rfl
 ·rfl
def MP{O:AS}{x t:Nat}{v:Value}(h:look O.t t=some (.v v)):O.hand x (.s t)=O:=sF (by simp only[AS.own,h];rfl)
def GQ(O:TS E.T)(d:Nat):(O.freeT d).to E.toEnc I=(O.to E.toEnc I).free d:=by
 unfold TS.freeT AS.free;have:j8 d (O.to E.toEnc I).e=mC d O.e:=qV d O.e;rw[this];cases hx:mC d O.e with
 |some x=>
  simp only;by_cases hr:∃v,look O.t d=some (.a (.raw v))
  ·obtain⟨v,hv⟩:=hr;have h1:O.hand x d=O:=by unfold TS.hand;rw[hv]
   rw[h1];exact(MP (v:=v) (by simp only[TS.to,cg,hv];rfl)).symm
  ·exact QY O x d fun v hv=>hr ⟨v,hv⟩
 |none=>rfl
def kn(e:List (Nat × Root)):List (Nat × Root):=e.filter fun p=>match p.2 with|.s _=>true|.c _ _=>false
def gZ(e:List (Nat × Root)):(eTo I e).filter (fun p=>match p.2 with|.s _=>true|.c _ _=>false)=eTo I (kn e):=by
 unfold eTo kn;rw[List.filter_map]
 congr 1
 apply abA;intro p _;obtain⟨a,b⟩:=p;cases b<;> rfl
def TS.dropC{T:Nat->Type}(O:TS T):TS T:={ n:=O.n,t:=O.t,h:=O.h,e:=kn O.e }
def uz(O:TS E.T):O.dropC.to E.toEnc I=(O.to E.toEnc I).dropC:=aas (AS.mk _ _ _) (gZ O.e).symm
def TS.setc{T:Nat->Type}(O:TS T)(k:Nat)(cs:List (TA T)):TS T:={ n:=O.n,t:=O.t,h:=(k,.cs cs)::O.h,e:=kn O.e }
def xd(O:TS E.T)(k:Nat)(cs:List (TA E.T)):(O.setc k cs).to E.toEnc I=(O.to E.toEnc I).setc (I k) (cs.map (TA.to E.toEnc I)):=aas (AS.mk _ _ _) (gZ O.e).symm
def j5{T:Nat->Type}{h:List (Nat × TB T)}{k:Nat}{b b':TB T}(hi:Inj I h)(hb:look h k=some b)(hl:bi I b=bi I b'):Inj I ((k,b')::h):=hi.sub fun p hp=>by
 rcases ZY.1 hp with rfl|hp
 ·exact⟨_,db hb,rfl,hl⟩
 ·exact⟨p,hp,rfl,rfl⟩
def TA.noId{T:Nat->Type}(d:Nat):TA T->Bool
 |.box i _=> !Nat.beq i d
 |.mpr i=> !Nat.beq i d
 |.fnb _ l=>l.all fun i=> !Nat.beq i d
 |.bsl i _ _ _=> !Nat.beq i d
 |.vec _ i _=> !Nat.beq i d
 |.pel _ i _ _=> !Nat.beq i d
 |.vsl _ i _ _=> !Nat.beq i d
 |_=>true
def TC.noId{T:Nat->Type}(d:Nat):TC T->Bool
 |.a x=>x.noId d
 |.ag l=>l.all (TA.noId d)
def TV.noId{T:Nat->Type}(d:Nat):TV T->Bool
 |.a x=>x.noId d
 |.ag l=>l.all (TA.noId d)
 |.el l=>l.all (TA.noId d)
 |.tu l=>l.all (TC.noId d)
 |.fn _ l=>l.all (TA.noId d)
 |.ifc _ x=>x.noId d
def TB.noId{T:Nat->Type}(d:Nat):TB T->Bool
 |.cs l=>l.all (TA.noId d)
 |.smap _ _=>true
 |.imap _ _=>true
 |.row _ _=>true
 |.vec i _ _=> !Nat.beq i d
def Root.noId(d:Nat):Root->Bool
 |.s _=>true
 |.c k _=> !Nat.beq k d
def TS.noId{T:Nat->Type}(d:Nat)(O:TS T):Bool:=O.t.all (fun p=>p.2.noId d) && O.h.all (fun p=> !Nat.beq p.1 d && p.2.noId d) && O.e.all fun p=>p.2.noId d
def dG(I:Rn)(d:Nat)(x:Bk):Rn:=⟨fun i=>if i=d then x else I.k i⟩
abbrev upd(I:Rn)(d k:Nat):Rn:=dG I d ⟨k,false,[]⟩
theorem ua{d:Nat}{x:Bk}{i:Nat}(h:(!Nat.beq i d)=true):(dG I d x).k i=I.k i:=by unfold dG;simp only;rw[ZH];rintro rfl;rw[aaL] at h;cases h
theorem kJ{d:Nat}{x:Bk}{i:Nat}(h:(!Nat.beq i d)=true):dG I d x i=I i:=by unfold Rn.b;rw[ua h]
theorem m0(I:Rn)(d:Nat)(x:Bk):(dG I d x).k d=x:=by unfold dG;exact if_pos rfl
theorem jM(I:Rn)(d:Nat)(x:Bk):dG I d x d=x.b:=by unfold Rn.b;rw[m0]
def TA.updB_to{d:Nat}{y:Bk}{x:TA E.T}(h:x.noId d=true):x.to E.toEnc (dG I d y)=x.to E.toEnc I:=by
 cases x with
 |box i o=>simp only[TA.to,kJ (I:=I) (x:=y) h]
 |mpr i=>simp only[TA.to,kJ (I:=I) (x:=y) h]
 |bsl i off n c=>simp only[TA.to,kJ (I:=I) (x:=y) h]
 |vec t i n=>simp only[TA.to,ua (I:=I) (x:=y) h]
 |pel t i j o=>simp only[TA.to,kJ (I:=I) (x:=y) h]
 |vsl t i off n=>simp only[TA.to,ua (I:=I) (x:=y) h]
 |fnb f l=>simp only[TA.to];rw[aai fun i hi=>by rw[kJ (I:=I) (x:=y) (ZL.1 h i hi)]]
 |_=>rfl
def kw{d:Nat}{y:Bk}{l:List (TA E.T)}(h:l.all (TA.noId d)=true):l.map (TA.to E.toEnc (dG I d y))=l.map (TA.to E.toEnc I):=
 aai fun x hx=>TA.updB_to (ZL.1 h x hx)
def TC.updB_to{d:Nat}{y:Bk}{x:TC E.T}(h:x.noId d=true):x.to E.toEnc (dG I d y)=x.to E.toEnc I:=by
 cases x with
 |a x=>exact TA.updB_to h
 |ag l=>simp only[TC.to];rw[kw h]
def TV.updB_to{d:Nat}{y:Bk}{x:TV E.T}(h:x.noId d=true):x.to E.toEnc (dG I d y)=x.to E.toEnc I:=by
 cases x with
 |a x=>exact TA.updB_to h
 |ag l=>simp only[TV.to];rw[kw h]
 |el l=>simp only[TV.to];rw[kw h]
 |tu l=>simp only[TV.to];rw[aai fun x hx=>TC.updB_to (ZL.1 h x hx)]
 |fn f l=>simp only[TV.to];rw[kw h]
 |ifc t x=>simp only[TV.to];rw[TC.updB_to h]
def TB.updB_to{d:Nat}{y:Bk}{x:TB E.T}(h:x.noId d=true):x.to E.toEnc (dG I d y)=x.to E.toEnc I:=by
 cases x with
 |cs l=>exact kw h
 |smap t l=>rfl
 |imap t l=>rfl
 |row t l=>rfl
 |vec i t l=>simp only[TB.to,ua (I:=I) (x:=y) h]
def tj{d:Nat}{y:Bk}{x:TB E.T}(h:x.noId d=true):bi (dG I d y) x=bi I x:=by
 cases x with
 |vec i t l=>simp only[bi,ua (I:=I) (x:=y) h]
 |_=>rfl
def Fk{d:Nat}{y:Bk}:∀ {h:List (Nat × TB E.T)},(h.all fun p=> !Nat.beq p.1 d && p.2.noId d)=true->hTo E.toEnc (dG I d y) h=hTo E.toEnc I h
 | [],_=>rfl
 | (k,b)::r,h=>by
   simp only[List.all_cons,Bool.and_eq_true] at h;obtain⟨⟨h1,h2⟩,h3⟩:=h;have ih:=Fk (y:=y) (h:=r) (by simpa only[Bool.and_eq_true] using h3);cases hb:bi I b with
   |true=>rw[dS _ _ hb,dS _ _ (by rw[tj h2];exact hb),ih,TB.updB_to h2,kJ h1]
   |false=>rw[fo _ _ hb,fo _ _ (by rw[tj h2];exact hb),ih]
def TS.updB_to{d:Nat}{y:Bk}{O:TS E.T}(h:O.noId d=true):O.to E.toEnc (dG I d y)=O.to E.toEnc I:=by
 unfold TS.noId at h;simp only[Bool.and_eq_true] at h;obtain⟨⟨h1,h2⟩,h3⟩:=h;unfold TS.to
 congr 1
 ·exact aai fun p hp=>by rw[TV.updB_to (ZL.1 h1 p hp)]
 ·exact Fk h2
 ·exact aai fun p hp=>by
   have:=ZL.1 h3 p hp;obtain⟨a,b⟩:=p;cases b with
   |s t=>rfl
   |c k o=>simp only[Root.to,kJ (I:=I) this]
def TS.boxT{T:Nat->Type}(O:TS T)(d:Nat)(cs:List (TA T)):TS T:={ n:=O.n,t:=O.t,h:=(d,.cs cs)::O.h,e:=O.e }
def TS.boxM{T:Nat->Type}(O:TS T)(d:Nat)(t:Ty)(l:List (List UInt8 × Den T t)):TS T:={ n:=O.n,t:=O.t,h:=(d,.smap t l)::O.h,e:=O.e }
def TS.boxR{T:Nat->Type}(O:TS T)(d:Nat)(t:Ty)(l:List (Den T t)):TS T:={ n:=O.n,t:=O.t,h:=(d,.row t l)::O.h,e:=O.e }
def TS.setr{T:Nat->Type}(O:TS T)(k:Nat)(t:Ty)(l:List (Den T t)):TS T:={ n:=O.n,t:=O.t,h:=(k,.row t l)::O.h,e:=kn O.e }
def TS.setm{T:Nat->Type}(O:TS T)(k:Nat)(t:Ty)(l:List (List UInt8 × Den T t)):TS T:={ n:=O.n,t:=O.t,h:=(k,.smap t l)::O.h,e:=kn O.e }
def TS.boxI{T:Nat->Type}(O:TS T)(d:Nat)(t:Ty)(l:List (Int × Den T t)):TS T:={ n:=O.n,t:=O.t,h:=(d,.imap t l)::O.h,e:=O.e }
def TS.seti{T:Nat->Type}(O:TS T)(k:Nat)(t:Ty)(l:List (Int × Den T t)):TS T:={ n:=O.n,t:=O.t,h:=(k,.imap t l)::O.h,e:=kn O.e }
def Si(O:TS E.T)(k:Nat)(t:Ty)(l:List (Int × Den E.T t)):(O.seti k t l).to E.toEnc I=(O.to E.toEnc I).setc (I k) [imap (l.map fun p=>(p.1,one E.toEnc t p.2))] :=aas (AS.mk _ _ _) (gZ O.e).symm
def TU(O:TS E.T)(k:Nat)(t:Ty)(l:List (List UInt8 × Den E.T t)):(O.setm k t l).to E.toEnc I=(O.to E.toEnc I).setc (I k) [smap (l.map fun p=>(p.1,one E.toEnc t p.2))] :=aas (AS.mk _ _ _) (gZ O.e).symm
def Jq(O:TS E.T)(k:Nat)(t:Ty)(l:List (Den E.T t)):(O.setr k t l).to E.toEnc I=(O.to E.toEnc I).setc (I k) ((TB.row t l:TB E.T).to E.toEnc I):=aas (AS.mk _ _ _) (gZ O.e).symm
def ik{O:TS E.T}{d:Nat}{x:Bk}{b:TB E.T}(hi:Inj I O.h)(hn:O.noId d=true)(hk:bi (dG I d x) b=true->gy x.b (O.to E.toEnc I).h):Inj (dG I d x) ((d,b)::O.h):=by
 unfold TS.noId at hn;simp only[Bool.and_eq_true] at hn;have h2:=ZL.1 hn.1.2;have hne:∀p∈O.h,dG I d x p.1=I p.1/\bi (dG I d x) p.2=bi I p.2/\p.1≠d:=fun p hp=>by have:=h2 p hp;simp only[Bool.and_eq_true] at this;exact⟨kJ this.1,tj this.2,fun e=>by rw[e,aaL] at this;cases this.1⟩
 have hfr:bi (dG I d x) b=true->∀p∈O.h,bi I p.2=true->I p.1≠x.b:=fun hb p hp hl=>hk hb (I p.1,p.2.to E.toEnc I) (xg hp hl);intro p hp q hq;rcases ZY.1 hp with rfl|hp
 ·rcases ZY.1 hq with rfl|hq
  ·exact⟨fun _ _ _=>rfl,fun _=>rfl⟩
  ·obtain⟨e1,e2,e3⟩:=hne q hq;refine⟨fun l1 l2 e=> ?_,fun e=>absurd e.symm e3⟩;rw[e2] at l2;simp only[jM] at e;rw[e1] at e;exact absurd e.symm (hfr l1 q hq l2)
 ·obtain⟨e1,e2,e3⟩:=hne p hp;rcases ZY.1 hq with rfl|hq
  ·refine⟨fun l1 l2 e=> ?_,fun e=>absurd e e3⟩;rw[e2] at l1;simp only[jM] at e;rw[e1] at e;exact absurd e (hfr l2 p hp l1)
  ·obtain⟨f1,f2,f3⟩:=hne q hq;rw[e1,f1,e2,f2];exact hi p hp q hq
def Fe{O:TS E.T}{d k:Nat}{cs:List (TA E.T)}(hi:Inj I O.h)(hn:O.noId d=true)(hk:gy k (O.to E.toEnc I).h):Inj (upd I d k) (O.boxT d cs).h:=ik hi hn fun _=>hk
def TS.newB{T:Nat->Type}(O:TS T)(d:Nat)(b:TB T):TS T:={ n:=O.n,t:=O.t,h:=(d,b)::O.h,e:=O.e }
def oZ{O:TS E.T}{d:Nat}{x:Bk}{b:TB E.T}(hn:O.noId d=true)(hl:bi (dG I d x) b=true):(O.newB d b).to E.toEnc (dG I d x)=(O.to E.toEnc I).box x.b (b.to E.toEnc (dG I d x)):=by
 have h1:=TS.updB_to (I:=I) (y:=x) hn;unfold TS.to at h1;injection h1 with _ h2 h3 h4
 unfold TS.to TS.newB AS.box;simp only[dS _ _ hl,jM,h2,h3,h4]
def wi{T:Nat->Type}:List Ty->List Value->List (TA T)
 |.sl t::ts,.slice none 0 0::vs=>.own t [] ::wi ts vs
 |_::ts,v::vs=>atomT v::wi ts vs
 | [],vs=>vs.map atomT
 |_::_,[] =>[]
def yQ:∀ (ts:List Ty) (vs:List Value),LeL (vs.map AV.v) ((wi ts vs).map (TA.to E.toEnc I))
 | [],vs=>by
   simp only[wi,List.map_map]
   induction vs with
   |nil=>exact .nil
   |cons v vs ih=>exact .cons (by show Le1 (AV.v v) ((atomT v).to E.toEnc I);rw[ui];exact .refl _) ih
 |t::ts,[] =>by cases t<;> exact .nil
 |t::ts,v::vs=>by
  unfold wi;split
  ·rename_i h1 h2;cases h1;cases h2;exact .cons (.nil _ _) (yQ _ _)
  ·rename_i h1 h2;cases h1;cases h2;exact .cons (by rw[ui];exact .refl _) (yQ _ _)
  ·rename_i h2;cases h2
  ·rename_i h2;cases h2
end
def wM{T:Nat->Type}:List Ty->List (TA T)->List (TA T)
 |.sl t::ts,.raw (.slice none 0 0)::vs=>.own t [] ::wM ts vs
 |_::ts,v::vs=>v::wM ts vs
 | [],vs=>vs
 |_::_,[] =>[]
def w7{E:Env}{I:Rn}:∀ (ts:List Ty) (vs:List (TA E.T)),LeL (vs.map (TA.to E.toEnc I)) ((wM ts vs).map (TA.to E.toEnc I))
 | [],vs=>by unfold wM;exact LeL.refl _
 |t::ts,[] =>by cases t<;> exact .nil
 |t::ts,v::vs=>by
  unfold wM;split
  ·rename_i h1 h2;cases h1;cases h2;exact .cons (.nil _ _) (w7 _ _)
  ·rename_i h1 h2;cases h1;cases h2;exact .cons (.refl _) (w7 _ _)
  ·rename_i h2;cases h2
  ·rename_i h2;cases h2
def TA.ids{T:Nat->Type}(p:Nat->Bool):TA T->Bool
 |.box i _=>p i
 |.mpr i=>p i
 |.fnb _ l=>l.all p
 |.bsl i _ _ _=>p i
 |.vec _ i _=>p i
 |.pel _ i _ _=>p i
 |.vsl _ i _ _=>p i
 |_=>true
def TC.ids{T:Nat->Type}(p:Nat->Bool):TC T->Bool
 |.a x=>x.ids p
 |.ag l=>l.all (TA.ids p)
def TV.ids{T:Nat->Type}(p:Nat->Bool):TV T->Bool
 |.a x=>x.ids p
 |.ag l=>l.all (TA.ids p)
 |.el l=>l.all (TA.ids p)
 |.tu l=>l.all (TC.ids p)
 |.fn _ l=>l.all (TA.ids p)
 |.ifc _ x=>x.ids p
def TB.ids{T:Nat->Type}(p:Nat->Bool):TB T->Bool
 |.cs l=>l.all (TA.ids p)
 |.smap _ _=>true
 |.imap _ _=>true
 |.row _ _=>true
 |.vec i _ _=>p i
def sO{T:Nat->Type}(p:Nat->Bool)(h:List (Nat × TB T)):Bool:=h.all fun q=>p q.1 && q.2.ids p
section
variable {E:Env} {I ρ':Rn} {p:Nat->Bool}
def TA.ids_to(hp:∀i,p i=true->ρ'.k i=I.k i){x:TA E.T}(h:x.ids p=true):x.to E.toEnc ρ'=x.to E.toEnc I:=by
 have hb:∀i,p i=true->ρ' i=I i:=fun i hi=>by unfold Rn.b;rw[hp i hi]
 cases x with
 |box i o=>simp only[TA.to,hb i h]
 |mpr i=>simp only[TA.to,hb i h]
 |bsl i off n c=>simp only[TA.to,hb i h]
 |vec t i n=>simp only[TA.to,hp i h]
 |pel t i j o=>simp only[TA.to,hb i h]
 |vsl t i off n=>simp only[TA.to,hp i h]
 |fnb f l=>simp only[TA.to];rw[aai fun i hi=>by rw[hb i (ZL.1 h i hi)]]
 |_=>rfl
def nL(hp:∀i,p i=true->ρ'.k i=I.k i){l:List (TA E.T)}(h:l.all (TA.ids p)=true):l.map (TA.to E.toEnc ρ')=l.map (TA.to E.toEnc I):=
 aai fun x hx=>TA.ids_to hp (ZL.1 h x hx)
def TC.ids_to(hp:∀i,p i=true->ρ'.k i=I.k i){x:TC E.T}(h:x.ids p=true):x.to E.toEnc ρ'=x.to E.toEnc I:=by
 cases x with
 |a x=>exact TA.ids_to hp h
 |ag l=>simp only[TC.to];rw[nL hp h]
def TV.ids_to(hp:∀i,p i=true->ρ'.k i=I.k i){x:TV E.T}(h:x.ids p=true):x.to E.toEnc ρ'=x.to E.toEnc I:=by
 cases x with
 |a x=>exact TA.ids_to hp h
 |ag l=>simp only[TV.to];rw[nL hp h]
 |el l=>simp only[TV.to];rw[nL hp h]
 |tu l=>simp only[TV.to];rw[aai fun x hx=>TC.ids_to hp (ZL.1 h x hx)]
 |fn f l=>simp only[TV.to];rw[nL hp h]
 |ifc t x=>simp only[TV.to];rw[TC.ids_to hp h]
def TB.ids_to(hp:∀i,p i=true->ρ'.k i=I.k i){x:TB E.T}(h:x.ids p=true):x.to E.toEnc ρ'=x.to E.toEnc I:=by
 cases x with
 |cs l=>exact nL hp h
 |smap t l=>rfl
 |imap t l=>rfl
 |row t l=>rfl
 |vec i t l=>simp only[TB.to,hp i h]
theorem vF(hp:∀i,p i=true->ρ'.k i=I.k i){x:TB E.T}(h:x.ids p=true):bi ρ' x=bi I x:=by
 cases x with
 |vec i t l=>simp only[bi,hp i h]
 |_=>rfl
def Cu(hp:∀i,p i=true->ρ'.k i=I.k i):∀ {h:List (Nat × TB E.T)},sO p h=true->hTo E.toEnc ρ' h=hTo E.toEnc I h
 | [],_=>rfl
 | (k,b)::r,hh=>by
   simp only[sO,List.all_cons,Bool.and_eq_true] at hh;obtain⟨⟨h1,h2⟩,h3⟩:=hh;have ih:=Cu hp (h:=r) (by simp only[sO,Bool.and_eq_true];exact h3);have hb:ρ' k=I k:=by unfold Rn.b;rw[hp k h1]
   cases hl:bi I b with
   |true=>rw[dS _ _ hl,dS _ _ (by rw[vF hp h2];exact hl),ih,TB.ids_to hp h2,hb]
   |false=>rw[fo _ _ hl,fo _ _ (by rw[vF hp h2];exact hl),ih]
end
def TA.ren{T:Nat->Type}(m:Nat->Nat):TA T->TA T
 |.box i o=>.box (m i) o
 |.mpr i=>.mpr (m i)
 |.fnb f l=>.fnb f (l.map m)
 |.bsl i o n c=>.bsl (m i) o n c
 |.vec t i n=>.vec t (m i) n
 |.pel t i j o=>.pel t (m i) j o
 |.vsl t i o n=>.vsl t (m i) o n
 |x=>x
def TC.ren{T:Nat->Type}(m:Nat->Nat):TC T->TC T
 |.a x=>.a (x.ren m)
 |.ag l=>.ag (l.map (TA.ren m))
def TV.ren{T:Nat->Type}(m:Nat->Nat):TV T->TV T
 |.a x=>.a (x.ren m)
 |.ag l=>.ag (l.map (TA.ren m))
 |.el l=>.el (l.map (TA.ren m))
 |.tu l=>.tu (l.map (TC.ren m))
 |.fn f l=>.fn f (l.map (TA.ren m))
 |.ifc t x=>.ifc t (x.ren m)
def TB.ren{T:Nat->Type}(m:Nat->Nat):TB T->TB T
 |.cs l=>.cs (l.map (TA.ren m))
 |.vec i t l=>.vec (m i) t l
 |b=>b
def px{T:Nat->Type}(m:Nat->Nat):List (Nat × TB T)->List (Nat × TB T)
 | [] =>[]
 | (k,b)::r=>(m k,b.ren m)::px m r
section
variable {E:Env} {I ρ':Rn} {p:Nat->Bool} {m:Nat->Nat}
def TA.ren_to(hp:∀i,p i=true->ρ'.k (m i)=I.k i){x:TA E.T}(h:x.ids p=true):(x.ren m).to E.toEnc ρ'=x.to E.toEnc I:=by
 have hb:∀i,p i=true->ρ' (m i)=I i:=fun i hi=>by unfold Rn.b;rw[hp i hi]
 cases x with
 |box i o=>simp only[TA.ren,TA.to,hb i h]
 |mpr i=>simp only[TA.ren,TA.to,hb i h]
 |bsl i off n c=>simp only[TA.ren,TA.to,hb i h]
 |vec t i n=>simp only[TA.ren,TA.to,hp i h]
 |pel t i j o=>simp only[TA.ren,TA.to,hb i h]
 |vsl t i off n=>simp only[TA.ren,TA.to,hp i h]
 |fnb f l=>simp only[TA.ren,TA.to,List.map_map];rw[aai fun i hi=>by simp only[Function.comp];rw[hb i (ZL.1 h i hi)]]
 |_=>rfl
def oh(hp:∀i,p i=true->ρ'.k (m i)=I.k i){l:List (TA E.T)}(h:l.all (TA.ids p)=true):(l.map (TA.ren m)).map (TA.to E.toEnc ρ')=l.map (TA.to E.toEnc I):=by rw[aaY];exact aai fun x hx=>TA.ren_to hp (ZL.1 h x hx)
def TC.ren_to(hp:∀i,p i=true->ρ'.k (m i)=I.k i){x:TC E.T}(h:x.ids p=true):(x.ren m).to E.toEnc ρ'=x.to E.toEnc I:=by
 cases x with
 |a x=>exact TA.ren_to hp h
 |ag l=>simp only[TC.ren,TC.to];rw[oh hp h]
def TV.ren_to(hp:∀i,p i=true->ρ'.k (m i)=I.k i){x:TV E.T}(h:x.ids p=true):(x.ren m).to E.toEnc ρ'=x.to E.toEnc I:=by
 cases x with
 |a x=>exact TA.ren_to hp h
 |ag l=>simp only[TV.ren,TV.to];rw[oh hp h]
 |el l=>simp only[TV.ren,TV.to];rw[oh hp h]
 |tu l=>simp only[TV.ren,TV.to,List.map_map];rw[aai fun x hx=>by simp only[Function.comp];exact TC.ren_to hp (ZL.1 h x hx)]
 |fn f l=>simp only[TV.ren,TV.to];rw[oh hp h]
 |ifc t x=>simp only[TV.ren,TV.to];rw[TC.ren_to hp h]
def TB.ren_to(hp:∀i,p i=true->ρ'.k (m i)=I.k i){x:TB E.T}(h:x.ids p=true):(x.ren m).to E.toEnc ρ'=x.to E.toEnc I:=by
 cases x with
 |cs l=>exact oh hp h
 |smap t l=>rfl
 |imap t l=>rfl
 |row t l=>rfl
 |vec i t l=>simp only[TB.ren,TB.to,hp i h]
def ry(hp:∀i,p i=true->ρ'.k (m i)=I.k i){x:TB E.T}(h:x.ids p=true):bi ρ' (x.ren m)=bi I x:=by
 cases x with
 |vec i t l=>simp only[TB.ren,bi,hp i h]
 |_=>rfl
def ut(hp:∀i,p i=true->ρ'.k (m i)=I.k i):∀ {h:List (Nat × TB E.T)},sO p h=true->hTo E.toEnc ρ' (px m h)=hTo E.toEnc I h
 | [],_=>rfl
 | (k,b)::r,hh=>by
   simp only[sO,List.all_cons,Bool.and_eq_true] at hh;obtain⟨⟨h1,h2⟩,h3⟩:=hh;have ih:=ut hp (h:=r) (by simp only[sO,Bool.and_eq_true];exact h3);have hb:ρ' (m k)=I k:=by unfold Rn.b;rw[hp k h1]
   simp only[px];cases hl:bi I b with
   |true=>rw[dS _ _ hl,dS _ _ (by rw[ry hp h2];exact hl),ih,TB.ren_to hp h2,hb]
   |false=>rw[fo _ _ hl,fo _ _ (by rw[ry hp h2];exact hl),ih]
def uu:∀ {h:List (Nat × TB E.T)} {q:Nat × TB E.T},q∈px m h->∃q0∈h,q=(m q0.1,q0.2.ren m)
 | [],_,h=>by cases h
 | (k,b)::r,q,h=>by
   simp only[px] at h;rcases ZY.1 h with rfl|h
   ·exact⟨_,ZP,rfl⟩
   ·obtain⟨q0,h1,h2⟩:=uu h;exact⟨q0,ZM _ h1,h2⟩
def u4(hp:∀i,p i=true->ρ'.k (m i)=I.k i)(hm:∀i j,p i=true->p j=true->m i=m j->i=j){h:List (Nat × TB E.T)}(hh:sO p h=true)(hi:Inj I h):Inj ρ' (px m h):=by
 have hb:∀i,p i=true->ρ' (m i)=I i:=fun i hi=>by unfold Rn.b;rw[hp i hi]
 intro x hx y hy;obtain⟨x0,h1,rfl⟩:=uu hx;obtain⟨y0,h2,rfl⟩:=uu hy;have ix:=ZL.1 hh x0 h1;have iy:=ZL.1 hh y0 h2;simp only[Bool.and_eq_true] at ix iy;simp only;rw[ry hp ix.2,ry hp iy.2,hb _ ix.1,hb _ iy.1];obtain⟨k1,k2⟩:=hi x0 h1 y0 h2;exact⟨fun l1 l2 e=>by rw[k1 l1 l2 e],fun e=>k2 (hm _ _ ix.1 iy.1 e)⟩
end
def Inj.one{T:Nat->Type}{I:Rn}{k:Nat}{b:TB T}:Inj I [(k,b)] :=fun p hp q hq=>by rw[aaJ.1 hp,aaJ.1 hq];exact⟨fun _ _ _=>rfl,fun _=>rfl⟩
def Inj.two{T:Nat->Type}{I:Rn}{k k':Nat}{b b':TB T}(hk:k≠k')(h:I k≠I k'):Inj I [(k,b),(k',b')] :=fun p hp q hq=>by
 simp only[List.mem_cons,List.not_mem_nil,or_false] at hp hq;rcases hp with rfl|rfl<;> rcases hq with rfl|rfl
 ·exact⟨fun _ _ _=>rfl,fun _=>rfl⟩
 ·exact⟨fun _ _ e=>absurd e h,fun e=>absurd e hk⟩
 ·exact⟨fun _ _ e=>absurd e.symm h,fun e=>absurd e.symm hk⟩
 ·exact⟨fun _ _ _=>rfl,fun _=>rfl⟩
def TB.nv{T:Nat->Type}:TB T->Bool
 |.vec _ _ _=>false
 |_=>true
def nvH{T:Nat->Type}(h:List (Nat × TB T)):Bool:=h.all fun p=>p.2.nv
def zN{T:Nat->Type}{I:Rn}{b:TB T}(h:b.nv=true):bi I b=true:=by
 cases b with
 |vec i t l=>cases h
 |_=>rfl
def VU{T:Nat->Type}(h:List (Nat × TB T))(k:Nat):Bool:=match look h k with
 |some b=>b.nv
 |none=>false
def KZ{T:Nat->Type}{h:List (Nat × TB T)}{k:Nat}(e:VU h k=true):∃b,look h k=some b/\b.nv=true:=by
 unfold VU at e;split at e
 ·rename_i b hb;exact⟨b,hb,e⟩
 ·cases e
def DV{T:Nat->Type}{h:List (Nat × TB T)}(hh:nvH h=true){p:Nat × TB T}(hp:p∈h)(I:Rn):bi I p.2=true:=zN (ZL.1 hh p hp)
def big(i:Nat):Bool:=Nat.ble 100000 i && Nat.ble i 199999
def Agr(I ρ':Rn):Prop:=∀i,big i=true->ρ'.k i=I.k i
theorem Agr.refl(I:Rn):Agr I I:=fun _ _=>rfl
def Agr.trans{I ρ' ρ'':Rn}(h:Agr I ρ')(h':Agr ρ' ρ''):Agr I ρ'':=fun i hi=>(h' i hi).trans (h i hi)
def Agr.updB{I:Rn}{d:Nat}{x:Bk}(h:Nat.ble d 99999=true):Agr I (dG I d x):=fun i hi=>by
 have h1:=ZS h;have h2:100000<=i:=by unfold big at hi;rw[ZT] at hi;exact ZS hi.1
 unfold Go.Proofs.Ytlhjbhgkhpbnfaa.dG;simp only;rw[ZH (by omega)]
def iJ{E:Env}{I:Rn}{L:List (Nat × TB E.T)}{k:Nat}{cs:List AV}(hi:Inj I L)(h:look (hTo E.toEnc I L) k=some cs):∃i b,I i=k/\look L i=some b/\b.to E.toEnc I=cs/\bi I b=true:=by obtain⟨i,b,h1,h2,h3,h4,h5⟩:=oM h;exact⟨i,b,h2,h5 hi,h3.symm,h4⟩
def jA:List Nat->Nat->Bool
 | [],_=>false
 |k::r,i=>match Nat.beq i k with|true=>true|false=>jA r i
theorem eb:∀ {l:List Nat} {i:Nat},jA l i=true ↔ i∈l
 | [],i=>⟨fun h=>(by cases h),fun h=>(by cases h)⟩
 |k::r,i=>by
  simp only[jA,List.mem_cons];split
  ·rename_i e;exact⟨fun _=>.inl (ZK e),fun _=>rfl⟩
  ·rename_i e;rw[eb (l:=r)];exact⟨.inr,fun h=>h.resolve_left fun e2=>by subst e2;rw[aaL] at e;cases e⟩
def dropHH{T:Nat->Type}(ids:List Nat):List (Nat × TB T)->List (Nat × TB T)
 | [] =>[]
 | (k,b)::r=>match jA ids k with
   |true=>dropHH ids r
   |false=>(k,b)::dropHH ids r
def kT{T:Nat->Type}{h:List (Nat × TB T)}:∀ {ids:List Nat} {i:Nat} {b:TB T},look (dv h ids) i=some b->look h i=some b/\i∈ids
 | [],_,_,e=>by cases e
 |k::ks,i,b,e=>by
  simp only[dv] at e;split at e
  ·rename_i b' hb;rw[ae] at e;split at e
   ·rename_i e2;subst e2;cases e;exact⟨hb,ZP⟩
   ·exact⟨(kT e).1,ZM _ (kT e).2⟩
  ·exact⟨(kT e).1,ZM _ (kT e).2⟩
def js{T:Nat->Type}{ids:List Nat}:∀ {h:List (Nat × TB T)} {i:Nat} {b:TB T},look (dropHH ids h) i=some b->look h i=some b/\i ∉ ids
 | [],_,_,e=>by cases e
 | (k,b')::r,i,b,e=>by
   simp only[dropHH] at e;split at e
   ·rename_i hk;obtain⟨h1,h2⟩:=js (h:=r) e;refine⟨?_,h2⟩;rw[ae,ZH]
    ·exact h1
    ·rintro rfl;exact h2 (eb.1 hk)
   ·rename_i hk;rw[ae] at e ⊢;split at e
    ·rename_i e2;subst e2;exact⟨by rw[ZI rfl];exact e,fun hm=>by rw[eb.2 hm] at hk;cases hk⟩
    ·rename_i e2;rw[ZH e2];exact js e
def tF{T:Nat->Type}{ids:List Nat}:∀ {h:List (Nat × TB T)} {p:Nat × TB T},p∈dropHH ids h->p.1 ∉ ids
 | [],_,hp=>by cases hp
 | (k,b)::r,p,hp=>by
   simp only[dropHH] at hp;split at hp
   ·exact tF hp
   ·rename_i hk;rcases ZY.1 hp with rfl|hp
    ·intro hc;rw[eb.2 hc] at hk;cases hk
    ·exact tF hp
def pM{α:Type}:∀ {l:List (Nat × α)} {k:Nat} {c:α},(k,c)∈l->∃c',look l k=some c'
 | [],_,_,h=>by cases h
 | (k0,c0)::l,k,c,h=>by
   by_cases e2:k=k0
   ·exact⟨c0,by rw[ae,ZI e2]⟩
   ·rcases ZY.1 h with h|h
    ·cases h;exact absurd rfl e2
    ·obtain⟨c',h'⟩:=pM h;exact⟨c',by rw[ae,ZH e2];exact h'⟩
def ge{T:Nat->Type}{ids:List Nat}:∀ {h:List (Nat × TB T)},∀p∈dropHH ids h,p∈h
 | [],p,hp=>by cases hp
 | (k,b)::r,p,hp=>by
   simp only[dropHH] at hp;split at hp
   ·exact ZM _ (ge p hp)
   ·rcases ZY.1 hp with rfl|hp
    ·exact ZP
    ·exact ZM _ (ge p hp)
def qX(nw i:Nat):Bool:=Nat.ble 300000 i && Nat.blt i (300000+nw)
def n5(d nw i:Nat):Bool:=Nat.ble (400000+16 * d) i && Nat.blt i (400000+16 * d+nw)
def nmN(nw d i:Nat):Nat:=match qX nw i with
 |true=>400000+16 * d+ (i - 300000)
 |false=>i
def mvP(ids:List Nat)(nw i:Nat):Bool:=jA ids i || qX nw i
def mvQ(mv:List Nat)(nw d i:Nat):Bool:= !jA mv i && !n5 d nw i
def DY(ids mv:List Nat)(nw d:Nat):Bool:=(ids.all fun i=> !qX nw i && !n5 d nw i) && (mv.all fun i=>jA ids i && !big i)
def wx{T:Nat->Type}(q:TV T->Bool):List Nat->List (Nat × TV T)->List (Nat × TV T)
 |_,[] =>[]
 |seen,(k,u)::r=>match jA seen k with
  |true=>wx q seen r
  |false=>match q u with
   |true=>(k,u)::wx q (k::seen) r
   |false=>wx q (k::seen) r
def td{T:Nat->Type}{q:TV T->Bool}:∀ {t:List (Nat × TV T)} {seen:List Nat} {k:Nat} {u:TV T},look (wx q seen t) k=some u->look t k=some u/\q u=true/\k ∉ seen
 | [],_,_,_,h=>by cases h
 | (k0,u0)::r,seen,k,u,h=>by
   simp only[wx] at h;cases hm:jA seen k0 with
   |true=>
    rw[hm] at h;obtain⟨h1,h2,h3⟩:=td h;refine⟨?_,h2,h3⟩;rw[ae,ZH]
    ·exact h1
    ·rintro rfl;exact h3 (eb.1 hm)
   |false=>
    rw[hm] at h;have hns:k0 ∉ seen:=fun hc=>by rw[eb.2 hc] at hm;cases hm
    have rest:look (wx q (k0::seen) r) k=some u->look ((k0,u0)::r) k=some u/\q u=true/\k ∉ seen:=fun h=>by obtain⟨h1,h2,h3⟩:=td h;have hne:k≠k0:=fun e=>h3 (by rw[e];exact ZP);exact⟨by rw[ae,ZH hne];exact h1,h2,fun hc=>h3 (ZM _ hc)⟩
    cases hq:q u0 with
    |true=>
     rw[hq] at h;simp only at h;rw[ae] at h;split at h
     ·rename_i e;subst e;cases h;exact⟨by rw[ae,ZI rfl],hq,hns⟩
     ·exact rest h
    |false=>rw[hq] at h;exact rest h
def TS.giveM{T:Nat->Type}(O:TS T)(ids mv:List Nat)(nw d:Nat)(h':List (Nat × TB T)):TS T:={ n:=O.n,t:=wx (fun u=>u.ids (mvQ mv nw d)) [] O.t,h:=h'++dropHH ids O.h,e:=kn O.e }
def mvR(I ρ':Rn)(mv:List Nat)(nw d:Nat):Rn:=⟨fun i=>match jA mv i with
 |true=>ρ'.k i
 |false=>match n5 d nw i with
  |true=>ρ'.k (300000+ (i - (400000+16 * d)))
  |false=>I.k i⟩
def nH{nw i:Nat}:qX nw i=true ↔ 300000<=i/\i < 300000+nw:=by unfold qX;rw[ZT];exact⟨fun h=>⟨ZS h.1,ZS h.2⟩,fun h=>⟨aaS h.1,aaS h.2⟩⟩
def rf{d nw i:Nat}:n5 d nw i=true ↔ 400000+16 * d<=i/\i < 400000+16 * d+nw:=by unfold n5;rw[ZT];exact⟨fun h=>⟨ZS h.1,ZS h.2⟩,fun h=>⟨aaS h.1,aaS h.2⟩⟩
section
variable {I ρ':Rn} {ids mv:List Nat} {nw d:Nat}
theorem zu(h:DY ids mv nw d=true){i:Nat}(hi:i∈ids):qX nw i=false/\n5 d nw i=false:=by unfold DY at h;rw[ZT] at h;have:=ZL.1 h.1 i hi;simpa using this
def I2(h:DY ids mv nw d=true){i:Nat}(hi:i∈mv):i∈ids/\big i=false:=by unfold DY at h;rw[ZT] at h;have:=ZL.1 h.2 i hi;rw[ZT] at this;exact⟨eb.1 this.1,by simpa using this.2⟩
def zt(h:DY ids mv nw d=true)(hρ:∀i∈ids,i ∉ mv->ρ'.k i=I.k i):∀i,mvP ids nw i=true->(mvR I ρ' mv nw d).k (nmN nw d i)=ρ'.k i:=by
 intro i hi;unfold mvP at hi;rw[abS] at hi;cases hn:qX nw i with
 |true=>
  have hr:=nH.1 hn;have e:nmN nw d i=400000+16 * d+ (i - 300000):=by unfold nmN;rw[hn]
  have hf:n5 d nw (nmN nw d i)=true:=rf.2 (by rw[e];omega);have hm:jA mv (nmN nw d i)=false:=by
   cases hm:jA mv (nmN nw d i) with
   |false=>rfl
   |true=>have:=(zu h (I2 h (eb.1 hm)).1).2;rw[hf] at this;cases this
  unfold mvR;simp only[hm,hf];rw[e]
  congr 1;omega
 |false=>
  have hid:i∈ids:=eb.1 (hi.resolve_right (by rw[hn];decide));have e:nmN nw d i=i:=by unfold nmN;rw[hn]
  rw[e];unfold mvR;simp only;cases hm:jA mv i with
  |true=>rfl
  |false=>simp only[(zu h hid).2];exact(hρ i hid fun hc=>by rw[eb.2 hc] at hm;cases hm).symm
def RJ(h:DY ids mv nw d=true):∀i j,mvP ids nw i=true->mvP ids nw j=true->nmN nw d i=nmN nw d j->i=j:=by
 have key:∀i,mvP ids nw i=true->(qX nw i=true/\nmN nw d i=400000+16 * d+ (i - 300000)/\n5 d nw (nmN nw d i)=true)\/(qX nw i=false/\nmN nw d i=i/\n5 d nw i=false):=fun i hi=>by
  unfold mvP at hi;rw[abS] at hi;cases hn:qX nw i with
  |true=>
   have hr:=nH.1 hn;have e:nmN nw d i=400000+16 * d+ (i - 300000):=by unfold nmN;rw[hn]
   exact .inl ⟨rfl,e,rf.2 (by rw[e];omega)⟩
  |false=>exact .inr ⟨rfl,by unfold nmN;rw[hn],(zu h (eb.1 (hi.resolve_right (by rw[hn];decide)))).2⟩
 intro i j hi hj e;rcases key i hi with ⟨a1,a2,a3⟩| ⟨a1,a2,a3⟩<;> rcases key j hj with ⟨b1,b2,b3⟩| ⟨b1,b2,b3⟩
 ·have:=nH.1 a1;have:=nH.1 b1;rw[a2,b2] at e;omega
 ·rw[e,b2] at a3;rw[a3] at b3;cases b3
 ·rw[<- e,a2] at b3;rw[b3] at a3;cases a3
 ·rw[a2,b2] at e;exact e
def Fj:∀i,mvQ mv nw d i=true->(mvR I ρ' mv nw d).k i=I.k i:=by
 intro i hi;unfold mvQ at hi;rw[ZT] at hi;have h1:jA mv i=false:=by simpa using hi.1
 have h2:n5 d nw i=false:=by simpa using hi.2
 unfold mvR;simp only[h1,h2]
def Kh(h:DY ids mv nw d=true):Agr I (mvR I ρ' mv nw d):=fun i hi=>by
 refine Fj i ?_;unfold mvQ;rw[ZT];constructor
 ·cases hm:jA mv i with
  |false=>rfl
  |true=>rw[(I2 h (eb.1 hm)).2] at hi;cases hi
 ·cases hf:n5 d nw i with
  |false=>rfl
  |true=>have:=rf.1 hf;unfold big at hi;rw[ZT] at hi;have:=ZS hi.2;omega
end
section
variable {P:Program} {T:Tys P} {O:AS} {t u ty e:TypeId} {x y:Operand} {pos:String} {af:Array Edge} {g:Option (Nat × Bool)}
def pn{d n c by_ sz N:Nat}{olds us:List AV}{du:TypeDesc}(hold:∀F X (a:Act),SimE F X O a.tmps->∃ (ad:Option Addr) (os:List Value),a.eval x=.slice ad n c/\(∀w',w'.heap=X.w.heap->(Builtin.firstCells sz n (.slice ad n c)).run P w'=.ok os.toArray w')/\os.length=n * sz/\∀ (i:Nat) u v,olds[i]? =some u->os[i]? =some v->Rel X u v)
  (hlo:olds.length=n * sz) (ht:look T.ty t=some (.slice e)) (hu:look T.ty u=some du) (hnz:du=.string\/∃e',du=.slice e') (hz:look T.sz e=some (sz,by_)) (hb1:1<=by_)
  (hsrc:∀F X (a:Act),SimE F X O a.tmps->∃vs,SrcA P X sz N N us (a.eval y) vs) (hroom:c < n+N) (hfit:(n+N) * by_<=140737488355328) (hpl:io us) (hpc:io olds) (hd:Nat.ble (d+1) O.n=true)
  {R:AS->Prop} (hR:∀k' cap (sp:List Value),gy k' O.h->n+N<=cap->(olds++us++sp.map AV.v).length=cap * sz->R ((O.box k' (olds++us++sp.map AV.v)).put d (.v (.slice (some ⟨k',0,none⟩) (n+N) cap)))):dM P ⟨some d,.call { callee:=.builtin .append,args:= #[x,y],argTypes:= #[t,u] },ty,pos,af,g⟩ O R:=by
 refine wo (us0:=olds++us) (Fact:=fun cap sp=>n+N<=cap/\(olds++us++sp).length=cap * sz/\∃vs:List Value,sp=vs.map AV.v) rfl hd (fun cap sp h v hv=> ?_) (fun F X a hs=> ?_) (fun k' cap sp hk ⟨h1,h2,vs,h3⟩=>by subst h3;exact hR k' cap vs hk h1 h2)
 ·rcases aaf.1 hv with hv|hv
  ·rcases aaf.1 hv with hv|hv
   ·exact hpc v hv
   ·exact hpl v hv
  ·obtain⟨vs,rfl⟩:=h.2.2;obtain⟨z,_,rfl⟩:=ZW.1 hv;rfl
 ·obtain⟨ad,os,e1,ho1,ho2,ho3⟩:=hold F X a hs;obtain⟨vs,hv⟩:=hsrc F X a hs;obtain⟨i,hi1,hi2,hi3,zv,hi4,hi5⟩:=T.szOk _ _ _ hz;have hcge:=grownCap_ge X.w (n+N) c e
  have hrun:=im (P:=P) (ty:=ty) (sLen:=n) (sCap:=c) (a:=ad) (m:=N) (olds:=os) (news:=vs) (x:=a.eval y) (T.tyOk _ _ ht) (T.tyOk _ _ hu) hnz hi1 hi4 ⟨hv.len,by rw[hi2];exact hv.first,by rw[hi2];exact hv.lv⟩ (fun w' hw=>by rw[hi2];exact ho1 w' hw) hroom (by rw[hi3];exact hfit) (by rw[hi3];exact hb1)
  refine⟨_,e,grownCap X.w (n+N) c e,(Builtin.zeroCells zv.cells (grownCap X.w (n+N) c e - (n+N))).toList.map .v,⟨hcge,?_,_,rfl⟩,dh e1 rfl hrun,?_,fun j u0 v hu0 hv0=> ?_⟩
  ·rw[ZR,ZR,hv.lu,hlo,Z3,aaW];have:(Builtin.zeroCells zv.cells (grownCap X.w (n+N) c e - (n+N))).size=(grownCap X.w (n+N) c e - (n+N)) * sz:=by simp[Builtin.zeroCells,hi5]
   rw[this,<- aae,<- aae];congr 1;omega
  ·simp only[Array.size_append,List.size_toArray,List.length_append,hv.lu,hlo,hv.lv,ho2,List.length_map,Array.length_toList]
  ·have hl0:(os.toArray++vs.toArray++Builtin.zeroCells zv.cells (grownCap X.w (n+N) c e - (n+N)))[j]? =(os++vs++ (Builtin.zeroCells zv.cells (grownCap X.w (n+N) c e - (n+N))).toList)[j]? :=by
    rw[<- aay];simp
   rw[hl0] at hv0;refine D8 (by rw[ZR,ZR,hlo,hv.lu,ho2,hv.lv]) (D8 (by rw[hlo,ho2]) ho3 hv.rel) (fun i u v hu hv=> ?_) j u0 v hu0 hv0;rw[aao,hv] at hu;cases hu;exact .v _
def SC{n c k sz:Nat}{cs:List AV}(hx:opV O x=some (.v (.slice (some ⟨k,0,none⟩) n c)))(hb:look O.h k=some cs)(hmp:fU cs=false)(hl:n * sz<=cs.length)(ho:∀u∈cs.take (n * sz),u.one=true):∀F X (a:Act),SimE F X O a.tmps->∃ (ad:Option Addr) (os:List Value),a.eval x=.slice ad n c/\(∀w',w'.heap=X.w.heap->(Builtin.firstCells sz n (.slice ad n c)).run P w'=.ok os.toArray w')/\os.length=n * sz/\∀ (i:Nat) u v,(cs.take (n * sz))[i]? =some u->os[i]? =some v->Rel X u v:=fun F X a hs=>by have e1:=cE (cC hs hx);obtain⟨os,hos⟩:=GF (P:=P) (sz:=sz) (off:=0) (n:=n) (c:=c) (q:=n) hs hb hmp (by omega) (by rw[abl];exact ho);rw[abl] at hos;exact⟨_,os,e1,hos.first,hos.lv,hos.rel⟩
def Sv{sz:Nat}{ad:Option Addr}(hx:opV O x=some (.v (.slice ad 0 0))):∀F X (a:Act),SimE F X O a.tmps->∃ (ad:Option Addr) (os:List Value),a.eval x=.slice ad 0 0/\(∀w',w'.heap=X.w.heap->(Builtin.firstCells sz 0 (.slice ad 0 0)).run P w'=.ok os.toArray w')/\os.length=0 * sz/\∀ (i:Nat) u v,([] :List AV)[i]? =some u->os[i]? =some v->Rel X u v:=fun F X a hs=>by
 have e1:=cE (cC hs hx);refine⟨ad,[],e1,fun w' _=> ?_,by simp,fun i u v h=>by simp at h⟩;cases ad with
 |none=>simp[Builtin.firstCells]
 |some b=>exact run_firstCells_some (P:=P) (w:=w') sz 0 b 0 0 [] (by simp) (fun j v hv=>by simp at hv)
end
end Go.Proofs.Ytlhjbhgkhpbnfaa
