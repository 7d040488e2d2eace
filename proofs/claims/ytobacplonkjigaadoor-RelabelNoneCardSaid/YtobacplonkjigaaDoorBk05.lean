import Derived.Test.YtobacplonkjigaaDoorBk04
set_option linter.unusedSimpArgs false
set_option linter.unusedVariables false
namespace Go.Proofs.YtobacplonkjigaaDoor
open Go.RowKit P
section
variable {P:Program} {Q:Exit→AS→Prop} {ks:List It} {σ:AS} {l:List Oper} {mN:Nat→Bool}
structure MixOk0 (l:List Oper) (mN:Nat→Bool):Prop where
 lex:∀i o,l[i]? =some o→∀j∈bM o,j < i
 ndst:∀q q' o o' d,l[q]? =some o→l[q']? =some o'→mN q=true→o.dst=some d→o'.dst=some d→q=q'
 settled:∀i o q oq d,l[i]? =some o→l[q]? =some oq→mN q=true→oq.dst=some d→d∈cO l o→q < i∧q∈bM o
 nsees:∀i o q oq d,l[i]? =some o→mN i=true→l[q]? =some oq→mN q=false→oq.dst=some d→d∈cO l o→i∈bM oq
 cguard:∀i o,l[i]? =some o→mN i=false→o.guard=none∧∀c b,o.op≠.select c b
theorem LQ{V:Nat→Value}{tm:Array Value}(hB:MixOk0 l mN)(hst:∀ (q:Nat) o d,l[q]? =some o→mN q=true→o.dst=some d→d < tm.size):∃tf,Full l mN V tm tf:=by
 classical
 refine⟨Array.ofFn (n:=tm.size) fun t=>if hx:∃q o,l[q]? =some o∧mN q=true∧o.dst=some t.1 then V (Classical.choose hx) else tm.getD t.1 undef,by simp,fun t ht=> ?_,fun q o t ho hmq hod=> ?_⟩
 ·simp only[Array.getD_eq_getD_getElem?,Array.getElem?_ofFn]
  by_cases hl:t < tm.size
  ·rw[dif_pos hl,dif_neg (by rintro⟨q,o,k1,k2,k3⟩;exact ht q o k1 k2 k3)];rfl
  ·rw[dif_neg hl,Array.getElem?_eq_none (Nat.le_of_not_lt hl)]
 ·simp only[Array.getD_eq_getD_getElem?,Array.getElem?_ofFn]
  have hl:=hst q o t ho hmq hod
  have hx:∃q o,l[q]? =some o∧mN q=true∧o.dst=some t:=⟨q,o,ho,hmq,hod⟩
  rw[dif_pos hl,dif_pos hx]
  obtain⟨o',k1,k2,k3⟩:=Classical.choose_spec hx
  have:=hB.ndst _ q o' o t k1 ho k2 k3 hod
  simp only[Option.getD_some,this]
structure DrawGT (P:Program) (Q:Exit→AS→Prop) (ks:List It) (l:List Oper) (mN:Nat→Bool) (F:Nat→Prop) (X:GW) (tm tf0:Array Value) (D:List Deferred) (V:Nat→Value) (J:List Nat→GW→Array Value→Prop):Prop where
 start:J [] X tf0
 n:∀ (i:Nat) o done X1 (a1:Act) tf,l[i]? =some o→mN i=true→J done X1 tf→(∀t,t∈cO l o→a1.tmps.getD t undef=tf0.getD t undef)→jN P o a1 X1.w fun x w'=>x=V i∧∃X2:GW,X2.w=w'∧J done X2 tf∧Ext F X1 X2
 c:∀ (done:List Nat) (c:Nat) o X1 tf,c ∉ done→mN c=false→l[c]? =some o→(∀d∈bM o,mN d=false→d∈done)→J done X1 tf→iW P (fun x w'=>∃X':GW,X'.w=w'∧J (c::done) X' (({ tmps:=tf,defers:=D }:Act).put o.dst x).tmps∧Ext F X1 X') (fun v w'=>∃ (X':GW) (H2:List (Nat × List AV)) (tm2:Array Value),X'.w=w'∧Stk P Q ks (.panic [{ v:=v,recovered:=false }]) ⟨tm.size,[],H2,[]⟩∧SimE F X' ⟨tm.size,[],H2,[]⟩ tm2∧Ext F X1 X') ((execOp ({ tmps:=tf,defers:=D }:Act).eval o).run P X1.w)
 fin:∀done X1 tf,(∀i,i < l.length→mN i=false→i∈done)→J done X1 tf→∃σ':AS,SimE F X1 σ' tf∧aY P Q ks σ'
theorem Jr{id:Nat}(hm:P.follows .mixedOrders=true)(hB:MixOk0 l mN)
  (hd:∀ (i:Nat) o,l[i]? =some o→mN i=true→∃d,o.dst=some d∧o.guard=none∧d < σ.n)
  (h:∀F X tm D,SimE F X σ tm→∃V J,∀tf0,Full l mN V tm tf0→DrawGT P Q ks l mN F X tm tf0 D V J):aY P Q (.c (.region id l.toArray true)::ks) σ:=by
 intro F X a hs D hdf
 have hXd:New X ⟨X.w.drew,X.g⟩:=⟨rfl,rfl,rfl,Nat.le_refl _,fun _ _=>⟨rfl,rfl⟩⟩
 have hdst:∀ (i:Nat) o,l[i]? =some o→mN i=true→∃d,o.dst=some d∧o.guard=none∧d < a.tmps.size:=fun i o ho hmi=>by
  obtain⟨d,k1,k2,k3⟩:=hd i o ho hmi
  exact⟨d,k1,k2,by rw[hs.size];exact k3⟩
 obtain⟨V,J,hG⟩:=h F ⟨X.w.drew,X.g⟩ a.tmps D (hs.new hXd hs.gb)
 obtain⟨tf0,hfull⟩:=LQ (V:=V) (tm:=a.tmps) hB fun q o d ho hmq hod=>by
  obtain⟨d',k1,_,k3⟩:=hdst q o ho hmq
  rw[hod] at k1;cases k1;exact k3
 obtain⟨hf1,hf2,hf3⟩:=hfull
 obtain⟨hJ,hN,hC,hfin⟩:=hG tf0 ⟨hf1,hf2,hf3⟩
 refine wp_region_any hm ?_
 let Inv:Array Bool→GW→Act→Prop:=fun listed X1 a1=>∃ (tf:Array Value) (done:List Nat),(∀i,i < l.length→mN i=false→(i∈done ↔ listed.getD i false=true))∧Filled l mN V listed a1.tmps tf∧
  J done X1 tf∧Ext F X X1∧a1.tmps.size=a.tmps.size∧(∀t,(∀ (q:Nat) oq,l[q]? =some oq→oq.dst=some t→mN q=false∧listed.getD q false=false)→a1.tmps.getD t undef=a.tmps.getD t undef)
 have key:∀ (fuel:Nat) (listed:Array Bool) (X1:GW) (a1:Act),listed.size=l.length→
   ((List.range l.length).filter (fun i=> !listed.getD i true)).length≤fuel→a1.defers=D→Inv listed X1 a1→(∀j oj,l[j]? =some oj→listed.getD j false=true→∀d∈bM oj,listed.getD d false=true)→
   wpAny P .any l.toArray (da F X D (Stk P Q ks)) fuel listed a1 X1.w:=by
  have fin:∀ (listed:Array Bool) (X1:GW) (a1:Act),listed.size=l.length→Region.ready .any l.toArray listed=[] →a1.defers=D→Inv listed X1 a1→da F X D (Stk P Q ks) .normal a1 X1.w:=by
   rintro listed X1 a1 hsz hnil hd1 ⟨tf,done,c1,c4,c5,c7,c8,c9⟩
   have hall:∀i,i < l.length→listed.getD i false=true:=by
    intro i hil
    apply Classical.byContradiction
    intro hc
    have hc:listed.getD i false=false:=by simpa using hc
    obtain⟨k,hk,hkf,hkl⟩:=j5 (fun j=>listed.getD j false) l.length ⟨i,hil,hc⟩
    have hmem:k∈Region.ready .any l.toArray listed:=by
     refine mem_ready.2 ⟨by rw[fk (by omega)];exact hkf,l[k],by simp[hk],fun e he hb=> ?_⟩
     exact hkl e.on (hB.lex k l[k] (List.getElem?_eq_getElem hk) e.on (ca.2 ⟨e,he,hb,rfl⟩))
    rw[hnil] at hmem;cases hmem
   have htf:tf=a1.tmps:=by
    apply Array.ext c4.size
    intro i h1 h2
    have:=c4.same i fun q o k1 _ _=>hall q (List.getElem?_eq_some_iff.1 k1).1
    simpa[h1,h2] using this
   rw[htf] at c5
   obtain⟨σ',g1,g2⟩:=hfin done X1 a1.tmps (fun i hi hmi=>(c1 i hi hmi).2 (hall i hi)) c5
   exact⟨hd1,X1,σ',rfl,g2,g1,c7⟩
  intro fuel
  induction fuel with
  |zero=>
   intro listed X1 a1 hsz hf hd1 hI hdn
   have hnil:Region.ready .any l.toArray listed=[] :=by
    rw[List.eq_nil_iff_forall_not_mem]
    intro i hi
    obtain⟨h1,o,h2,_⟩:=mem_ready.1 hi
    have hil:i < l.length:=by simpa using (Array.getElem?_eq_some_iff.1 h2).1
    have h0:=List.length_eq_zero_iff.1 (Nat.le_zero.1 hf)
    have:=List.filter_eq_nil_iff.1 h0 i (List.mem_range.2 hil)
    rw[h1] at this;exact this rfl
   exact⟨hnil,fin listed X1 a1 hsz hnil hd1 hI⟩
  |succ fuel ih=>
   intro listed X1 a1 hsz hf hd1 hI hdn
   refine⟨fun hnil=>fin listed X1 a1 hsz hnil hd1 hI,fun i hi=> ?_⟩
   obtain⟨h1,o,h2,h3⟩:=mem_ready.1 hi
   have h2':l[i]? =some o:=by simpa using h2
   have hil:i < l.length:=(List.getElem?_eq_some_iff.1 h2').1
   have hlf:listed.getD i false=false:=by rw[← fk (by omega)];exact h1
   have hdep:∀q∈bM o,listed.getD q false=true:=fun q hq=>by
    obtain⟨e,k1,k2,k3⟩:=ca.1 hq
    rw[← k3];exact h3 e k1 k2
   have hcnt:((List.range l.length).filter (fun j=> !(listed.setIfInBounds i true).getD j true)).length≤fuel:=by
    have:=mD hil hsz h1
    omega
   obtain⟨tf,done,c1,c4,c5,c7,c8,c9⟩:=hI
   have hset:∀j,(listed.setIfInBounds i true).getD j false=if j=i then true else listed.getD j false:=fun j=>bf false (by omega)
   have hseen:∀t,t∈cO l o→tf.getD t undef=a1.tmps.getD t undef:=fun t ht=>c4.same t fun q oq k1 k2 k3=>hdep q (hB.settled i o q oq t h2' k1 k2 k3 ht).2
   have hdn':∀j oj,l[j]? =some oj→(listed.setIfInBounds i true).getD j false=true→∀d∈bM oj,(listed.setIfInBounds i true).getD d false=true:=fun j oj hoj hj d hd=>by
    rw[hset] at hj ⊢
    split
    ·rfl
    ·by_cases e:j=i
     ·subst e
      rw[h2'] at hoj;cases hoj
      exact hdep d hd
     ·rw[if_neg e] at hj
      exact hdn j oj hoj hj d hd
   unfold wpOp
   simp only[h2]
   cases hmi:mN i with
   |true=>
    obtain⟨d,k1,k2,hdl⟩:=hdst i o h2' hmi
    have hfree:∀t,t∈cO l o→(∀ (q:Nat) o',l[q]? =some o'→mN q=true→o'.dst≠some t)→∀ (q:Nat) oq,l[q]? =some oq→oq.dst=some t→mN q=false∧listed.getD q false=false:=fun t hts hn q oq hq hod=>by
     cases hmq:mN q with
     |true=>exact absurd hod (hn q oq hq hmq)
     |false=>
      refine⟨rfl,?_⟩
      cases hl:listed.getD q false with
      |false=>rfl
      |true=>
       have:=hdn q oq hq hl i (hB.nsees i o q oq t h2' hmi hq hmq hod hts)
       rw[hlf] at this;cases this
    have hsee0:∀t,t∈cO l o→a1.tmps.getD t undef=tf0.getD t undef:=fun t ht=>by
     by_cases hx:∃ (q:Nat) (oq:Oper),l[q]? =some oq∧mN q=true∧oq.dst=some t
     ·obtain⟨q,oq,j1,j2,j3⟩:=hx
      rw[hf3 q oq t j1 j2 j3,← hseen t ht,c4.val q oq t j1 j2 j3]
     ·have hn:∀ (q:Nat) o',l[q]? =some o'→mN q=true→o'.dst≠some t:=fun q o' a b c=>hx ⟨q,o',a,b,c⟩
      rw[hf2 t hn]
      exact c9 t (hfree t ht hn)
    have hw:Region.wanted o (yielded l.toArray a1.tmps)=true:=by unfold Region.wanted;rw[k2]
    rw[if_pos hw]
    left
    refine(hN i o done X1 a1 tf h2' hmi c5 hsee0).wp fun x w' ⟨hx,X2,q1,q2,q3⟩=> ?_
    subst q1 hx
    refine ih (listed.setIfInBounds i true) X2 (a1.put o.dst (V i)) (by simp[hsz]) hcnt (by rw[eM];exact hd1) ⟨tf,done,fun j hjl hmj=> ?_,⟨by rw[lB];exact c4.size,fun t ht=> ?_,c4.val⟩,q2,c7.trans q3,by rw[lB];exact c8,fun t ht=> ?_⟩ hdn'
    ·rw[hset,if_neg (fun e=>by subst e;rw[hmi] at hmj;cases hmj)]
     exact c1 j hjl hmj
    ·rw[gt,k1]
     by_cases e:t=d
     ·subst e
      rw[if_pos ⟨rfl,by rw[c8];exact hdl⟩]
      exact c4.val i o t h2' hmi k1
     ·rw[if_neg (by rintro⟨h,_⟩;exact e (Option.some.inj h).symm)]
      refine c4.same t fun q oq j1 j2 j3=> ?_
      have:=ht q oq j1 j2 j3
      rw[hset] at this
      by_cases e2:q=i
      ·subst e2
       rw[h2'] at j1;cases j1
       rw[k1] at j3;cases j3;exact absurd rfl e
      ·rw[if_neg e2] at this;exact this
    ·rw[gt,if_neg (by
      rintro⟨h,_⟩
      have:=(ht i o h2' h).1
      rw[hmi] at this;cases this)]
     refine c9 t fun q oq j1 j2=> ?_
     obtain⟨m1,m2⟩:=ht q oq j1 j2
     refine⟨m1,?_⟩
     rw[hset] at m2
     by_cases e2:q=i
     ·rw[if_pos e2] at m2;cases m2
     ·rw[if_neg e2] at m2;exact m2
   |false=>
    obtain⟨hg,hsel⟩:=hB.cguard i o h2' hmi
    have hni:i ∉ done:=fun hc=>by rw[(c1 i hil hmi).1 hc] at hlf;cases hlf
    have hdd:∀d∈bM o,mN d=false→d∈done:=fun d hd hmd=>(c1 d (by have:=hB.lex i o h2' d hd;omega) hmd).2 (hdep d hd)
    have hw:Region.wanted o (yielded l.toArray a1.tmps)=true:=by unfold Region.wanted;rw[hg]
    rw[if_pos hw]
    left
    have hrun:=hC done i o X1 tf hni hmi h2' hdd c5
    have hev:execOp ({ tmps:=tf,defers:=D }:Act).eval o=execOp a1.eval o:=by
     refine execOp_congr o hsel fun x hx=> ?_
     cases x with
     |tmp t=>exact hseen t (by simp only[cO];exact List.mem_append_left _ (hZ (by simpa using hx)))
     |const v=>rfl
     |func f=>rfl
     |global g=>rfl
    rw[hev] at hrun
    have hnd:∀ (q:Nat) oq t,l[q]? =some oq→mN q=true→oq.dst=some t→o.dst≠some t:=fun q oq t j1 j2 j3 e=>by
     have:=hB.ndst q i oq o t j1 h2' j2 j3 e
     subst this
     rw[hmi] at j2;cases j2
    have fin2:∀ (x:Value) (w':World),(∃X':GW,X'.w=w'∧J (i::done) X' (({ tmps:=tf,defers:=D }:Act).put o.dst x).tmps∧Ext F X1 X')→wpAny P .any l.toArray (da F X D (Stk P Q ks)) fuel (listed.setIfInBounds i true) (a1.put o.dst x) w':=by
     rintro x w' ⟨X2,rfl,q3,q4⟩
     refine ih (listed.setIfInBounds i true) X2 (a1.put o.dst x) (by simp[hsz]) hcnt (by rw[eM];exact hd1) ⟨(({ tmps:=tf,defers:=D }:Act).put o.dst x).tmps,i::done,fun j hjl hmj=> ?_,⟨by rw[lB,lB];exact c4.size,fun t ht=> ?_,fun q oq t j1 j2 j3=> ?_⟩,q3,c7.trans q4,by rw[lB];exact c8,fun t ht=> ?_⟩ hdn'
     ·rw[hset,List.mem_cons]
      by_cases e:j=i
      ·simp[e]
      ·rw[if_neg e]
       exact⟨fun h=>(c1 j hjl hmj).1 (h.resolve_left e),fun h=>.inr ((c1 j hjl hmj).2 h)⟩
     ·rw[gt,gt]
      have hsz2:({ tmps:=tf,defers:=D }:Act).tmps.size=a1.tmps.size:=c4.size
      rw[hsz2]
      by_cases e:o.dst=some t∧t < a1.tmps.size
      ·rw[if_pos e,if_pos e]
      ·rw[if_neg e,if_neg e]
       refine c4.same t fun q oq j1 j2 j3=> ?_
       have:=ht q oq j1 j2 j3
       rw[hset] at this
       by_cases e2:q=i
       ·subst e2;rw[hmi] at j2;cases j2
       ·rw[if_neg e2] at this;exact this
     ·rw[gt,if_neg (by rintro⟨h,_⟩;exact hnd q oq t j1 j2 j3 h)]
      exact c4.val q oq t j1 j2 j3
     ·rw[gt,if_neg (by
       rintro⟨h,_⟩
       have:=(ht i o h2' h).2
       rw[hset,if_pos rfl] at this;cases this)]
      refine c9 t fun q oq j1 j2=> ?_
      obtain⟨m1,m2⟩:=ht q oq j1 j2
      refine⟨m1,?_⟩
      rw[hset] at m2
      by_cases e2:q=i
      ·rw[if_pos e2] at m2;cases m2
      ·rw[if_neg e2] at m2;exact m2
    have pan:∀ (v:Value) (w':World),(∃ (X':GW) (H2:List (Nat × List AV)) (tm2:Array Value),X'.w=w'∧Stk P Q ks (.panic [{ v:=v,recovered:=false }]) ⟨a.tmps.size,[],H2,[]⟩∧SimE F X' ⟨a.tmps.size,[],H2,[]⟩ tm2∧Ext F X1 X')→da F X D (Stk P Q ks) (.panic [{ v:=v,recovered:=false }]) a1 w':=by
     rintro v w' ⟨X',H2,tm2,rfl,h3,h4,h5⟩
     exact⟨hd1,X',_,rfl,h3,h4.slotless c8,c7.trans h5⟩
    unfold Oper.wp
    generalize (execOp a1.eval o).run P X1.w=r at hrun ⊢
    cases r with
    |halt z w=>
     cases z<;> simp only[iW] at hrun
     exact pan _ _ hrun
    |ok nx w=>
     cases nx<;> simp only[iW] at hrun<;> simp only[Oper.upon]
     case value x=>exact fin2 _ _ hrun
     case skip=>exact fin2 _ _ hrun
     case enter f args=>
      refine hrun.mono fun e w' he=> ?_
      cases e with
      |returned v=>exact fin2 _ _ he
      |panicked ch=>obtain⟨v,rfl,he⟩:=he;exact pan _ _ he
      |outgrown=>exact he.elim
 have hno:∀i,(Array.replicate l.toArray.size false).getD i false=false:=fun i=>by
  simp only[Array.getD_eq_getD_getElem?,Array.getElem?_replicate]
  split<;> simp
 refine key _ _ ⟨X.w.drew,X.g⟩ a (by simp) (by refine Nat.le_trans (List.length_filter_le _ _) (by simp)) hdf ⟨tf0,[],(fun i _ _=>by rw[hno];simp),⟨hf1,(fun t ht=>hf2 t fun q o k1 k2 k3=>by have:=ht q o k1 k2 k3;rw[hno] at this;cases this),hf3⟩,hJ,hXd.ext hs.gb hs.fb,rfl,fun t _=>rfl⟩ (fun j oj _ hf=>by rw[hno] at hf;cases hf)
def Kh(P:Program)(n:Nat)(RP:Value→List (Nat × List AV)→Prop)(K:AS→Prop)(l:List Oper)(mN:Nat→Bool):Nat→List Nat→AS→Prop
 |0,done,σ=>(∀i,i < l.length→mN i=false→i∈done)∧K σ
 |f+1,done,σ=>σ.n=n∧((∀i,i < l.length→mN i=false→i∈done)→K σ)∧∀ (c:Nat) o,c ∉ done→mN c=false→l[c]? =some o→(∀d∈bM o,mN d=false→d∈done)→tT P o σ (Kh P n RP K l mN f (c::done)) RP
set_option maxHeartbeats 1000000
theorem JD{id:Nat}{st:Nat→Bool}{fuel:Nat}(hm:P.follows .mixedOrders=true)(hB:MixOk0 l mN)(he:σ.e=[])
  (h:tq P l mN (fun _=>false) [] (fun σ'=>Kh P σ.n (fun v H2=>∃H3,(∀k cs,look H3 k=some cs→look (H2++σ.h.filter fun p=>st p.1) k=some cs)∧Stk P Q ks (.panic [{ v:=v,recovered:=false }]) ⟨σ.n,[],H3,[]⟩) (fun σ2=>aY P Q ks (σ2.withH (σ2.h++σ.h.filter fun p=>st p.1))) l mN fuel [] ((σ'.withH (σ.h.filter fun p=> !st p.1)).als (ly l mN 0 l))) 0 l (σ.withH (σ.h.filter fun p=>st p.1))):
  aY P Q (.c (.region id l.toArray true)::ks) σ:=by
 obtain⟨us,hul,hK,hstep⟩:=ue l l 0 _ h
 simp only[Nat.zero_add] at hstep
 refine Jr hm hB (fun i o ho hmi=> ?_) fun F X tm D hs=> ?_
 ·have hil:=(List.getElem?_eq_some_iff.1 ho).1
  obtain⟨d,k1,k2,k3,_⟩:=hstep i o us[i] ho (List.getElem?_eq_getElem (by omega)) hmi
  exact⟨d,k1,k2,ba k3⟩
 have hsa:=hs.aside st he
 generalize hH1:(σ.h.filter fun p=>st p.1)=H1 at *
 generalize hH0:(σ.h.filter fun p=> !st p.1)=H0 at *
 have h1look:∀k c,look H1 k=some c→st k=true∧look σ.h k=some c:=fun k c hk=>by
  rw[← hH1,oF] at hk
  by_cases e:st k=true
  ·rw[if_pos e] at hk;exact⟨e,hk⟩
  ·rw[if_neg e] at hk;cases hk
 have hbox1:∀k c,look H1 k=some c→eI F X k c:=fun k c hk=>hs.box k c (h1look k c hk).2
 have hmdis:∀ (q q':Nat) o o' d,(msk mN 0 l)[q]? =some o→(msk mN 0 l)[q']? =some o'→o.dst=some d→o'.dst=some d→q=q':=fun q q' o o' d h1 h2 h3 h4=>by
  obtain⟨k1,k2⟩:=rp h1 h3
  obtain⟨k3,k4⟩:=rp h2 h4
  exact hB.ndst q q' o o' d k2 k4 k1 h3 h4
 have hml:us.length=(msk mN 0 l).length:=by rw[rJ,hul]
 have hputs:∀ (i:Nat) (t:Nat) (u:AV),look (puts (σ.withH H1) ((msk mN 0 l).take i) (us.take i)).t t=some u→(∃q o,q < i∧l[q]? =some o∧mN q=true∧o.dst=some t∧us[q]? =some u)∨(look σ.t t=some u∧∀q o,q < i→l[q]? =some o→mN q=true→o.dst≠some t):=by
  intro i t u hu
  rw[ja _ _ _ _ (by simp[hml]) (fun q q' o1 o2 d h1 h2 h3 h4=>by
   rw[List.getElem?_take] at h1 h2
   split at h1
   ·split at h2
    ·exact hmdis q q' o1 o2 d h1 h2 h3 h4
    ·cases h2
   ·cases h1)] at hu
  cases hf:(((msk mN 0 l).take i).zip (us.take i)).find? (fun p=>p.1.dst==some t) with
  |some p=>
   rw[hf] at hu;cases hu
   have hmem:=List.mem_of_find?_eq_some hf
   have hpd:p.1.dst=some t:=by simpa using List.find?_some hf
   obtain⟨q,hq⟩:=List.getElem?_of_mem hmem
   rw[List.getElem?_zip_eq_some,List.getElem?_take,List.getElem?_take] at hq
   have hqi:q < i:=by
    apply Classical.byContradiction
    intro hc
    rw[if_neg hc] at hq;cases hq.1
   rw[if_pos hqi,if_pos hqi] at hq
   obtain⟨k1,k2⟩:=rp hq.1 hpd
   exact .inl ⟨q,p.1,hqi,k2,k1,hpd,hq.2⟩
  |none=>
   rw[hf] at hu
   refine .inr ⟨hu,fun q o hqi hlo hmq hod=> ?_⟩
   have hql:=(List.getElem?_eq_some_iff.1 hlo).1
   have hmq':(msk mN 0 l)[q]? =some o:=by rw[wS mN 0 l q o hlo,Nat.zero_add,hmq]
   have hmem:(o,us[q]'(by omega))∈((msk mN 0 l).take i).zip (us.take i):=by
    refine List.mem_of_getElem? (i:=q) (List.getElem?_zip_eq_some.2 ⟨?_,?_⟩)
    ·rw[List.getElem?_take,if_pos hqi];exact hmq'
    ·rw[List.getElem?_take,if_pos hqi];exact List.getElem?_eq_getElem (by omega)
   exact absurd (by simpa using hod) (List.find?_eq_none.1 hf _ hmem)
 refine⟨fun(q:Nat)=>match l[q]?,us[q]? with
  |some o,some u=>ve X tm [] o u
  |_,_=>undef,?_⟩
 generalize hVdef:(fun(q:Nat)=>match l[q]?,us[q]? with
  |some o,some u=>ve X tm [] o u
  |_,_=>undef)=V
 have hV:∀ (q:Nat) o u,l[q]? =some o→us[q]? =some u→V q=ve X tm [] o u:=fun q o u ho hu=>by rw[← hVdef];simp only[ho,hu]
 have hmv:∀ (q:Nat) o u s,l[q]? =some o→us[q]? =some u→mN q=true→o.op=.move (.tmp s)→(∀ (q':Nat) o',l[q']? =some o'→mN q'=true→o'.dst≠some s)→Rel X u (tm.getD s undef):=by
  intro q o u s ho hu hmq hop hns
  obtain⟨d,k1,k2,k3,k4,k5,k6⟩:=hstep q o u ho hu hmq
  refine(tN (F:=F) (a:={ tmps:=tm,defers:=[] }) hop k4 ⟨hs.gb,hs.fb,fun t u' ht hu'=> ?_,fun k c hk=> ?_⟩).1
  ·rw[hop] at ht
   simp[Op.operands] at ht
   subst ht
   rw[G8] at hu'
   rcases hputs q t u' hu' with ⟨q',o',_,k7,k9,k8,_⟩| ⟨k7,_⟩
   ·exact absurd k8 (hns q' o' k7 k9)
   ·exact hs.slot t u' k7
  ·have:=(GQ hk).2
   rw[kz] at this;exact hbox1 k c this
 have relV:∀ (q:Nat) o u,l[q]? =some o→us[q]? =some u→mN q=true→Rel X u (V q)∧cw (some u)=none:=by
  intro q o u ho hu hmq
  obtain⟨d,k1,k2,k3,k4,k5,k6⟩:=hstep q o u ho hu hmq
  refine⟨?_,k5⟩
  rw[hV q o u ho hu]
  have k7:=k6 d k1
  unfold ve
  simp only[k1]
  cases hld:sL [] d with
  |some p=>
   rw[hld] at k7
   obtain⟨_,⟨cs,u0,j1,j2,j3,rfl⟩,_,_⟩:=k7
   rw[kz] at j1
   obtain⟨v,g1,g2⟩:=rF (hbox1 _ _ j1) j2 j3
   simp only[g1,Option.getD_some]
   exact g2.rd
  |none=>
   rw[hld] at k7
   rcases k7 with ⟨x,rfl⟩| ⟨s,hop,hns⟩
   ·exact .v x
   ·by_cases hx:∃x,u=.v x
    ·obtain⟨x,rfl⟩:=hx;exact .v x
    ·have hval:Mv { tmps:=tm,defers:=[] } u o.op=tm.getD s undef:=by
      rw[hop]
      cases u<;> first|rfl|exact absurd ⟨_,rfl⟩ hx
     rw[hval]
     exact hmv q o u s ho hu hmq hop hns
 refine⟨fun done X1 tf=>tf.size=tm.size∧(∀ (q:Nat) o t,l[q]? =some o→mN q=true→o.dst=some t→tf.getD t undef=V q)∧Ext F X X1∧∃f σ1,SimE (jq F X H1) X1 σ1 tf∧Ext (jq F X H1) X X1∧Kh P σ.n (fun v H2=>∃H3,(∀k cs,look H3 k=some cs→look (H2++H1) k=some cs)∧Stk P Q ks (.panic [{ v:=v,recovered:=false }]) ⟨σ.n,[],H3,[]⟩) (fun σ2=>aY P Q ks (σ2.withH (σ2.h++H1))) l mN f done σ1,fun tf0 hf=> ?_⟩
 obtain⟨hf1,hf2,hf3⟩:=hf
 have hfull:∀t u,look (puts (σ.withH H1) (msk mN 0 l) us).t t=some u→(∃ (q:Nat) (o:Oper),l[q]? =some o∧mN q=true∧o.dst=some t∧us[q]? =some u)∨(look σ.t t=some u∧∀ (q:Nat) o,l[q]? =some o→mN q=true→o.dst≠some t):=by
  intro t u hu
  have e1:(msk mN 0 l).take l.length=msk mN 0 l:=List.take_of_length_le (by rw[rJ];omega)
  have e2:us.take l.length=us:=List.take_of_length_le (by omega)
  rcases hputs l.length t u (by rw[e1,e2];exact hu) with ⟨q,o,_,k⟩| ⟨k1,k2⟩
  ·exact .inl ⟨q,o,k⟩
  ·exact .inr ⟨k1,fun q o ho=>k2 q o (List.getElem?_eq_some_iff.1 ho).1 ho⟩
 have hs0:SimE (jq F X H1) X (((puts (σ.withH H1) (msk mN 0 l) us).withH H0).als (ly l mN 0 l)) tf0:=by
  refine tB (hsa.other (by rw[hf1,hs.size];exact(pu (msk mN 0 l) us (σ.withH H1)).symm) hsa.fb (fun t u hu=> ?_) (fun k c hk=>⟨hk,(hsa.box k c hk).nF⟩) (vk (msk mN 0 l) us (σ.withH H1) he) (fun r=>r) (fun r sz lw ho=>.inr ?_) (fun _ _ _ _ _ _ _ _ hne _ _ _ _=>hne)) fun p hp=> ?_
  ·rcases hfull t u hu with ⟨q,o,k1,k2,k3,k4⟩| ⟨k1,k2⟩
   ·rw[hf3 q o t k1 k2 k3];exact(relV q o u k1 k4 k2).1
   ·rw[hf2 t k2];exact hs.slot t u k1
  ·have fin:∀r,(σ.withH H0).own r=some (sz,lw)→rootV tf0 X.w r=rootV tm X.w r→(σ.withH H0).own r=some (sz,lw)∧rootV tf0 X.w r=rootV tm X.w r∧∀a n c,rootV tf0 X.w r=some (.slice (some a) n c)→¬jq F X H1 a.block:=fun r h1 h2=>⟨h1,h2,fun a n c hr=>by
    obtain⟨x,hx,hok⟩:=hsa.own r sz lw h1
    rw[h2,hx] at hr
    cases hr
    exact(nJ hok).2.1⟩
   cases r with
   |s t=>
    obtain⟨k0⟩:look (puts (σ.withH H1) (msk mN 0 l) us).t t=some (.sl true sz lw)∧True:=⟨mK ho,trivial⟩
    rcases hfull t _ k0 with ⟨q,o,k1,k2,k3,k4⟩| ⟨k1,k2⟩
    ·have:=(relV q o _ k1 k4 k2).2
     cases this
    ·exact fin (.s t) (by simp only[AS.own,AS.withH,k1];rfl) (by simp only[rootV,hf2 t k2])
   |c k o=>exact fin (.c k o) ho rfl
  ·obtain⟨i,o,k1,k2,k3,k4,k5⟩:=sW l 0 p hp
   rw[Nat.zero_add] at k2
   have hil:=(List.getElem?_eq_some_iff.1 k1).1
   have hui:us[i]? =some us[i] :=List.getElem?_eq_getElem (by omega)
   obtain⟨d,j1,_,_,_,_,j6⟩:=hstep i o us[i] k1 hui k2
   have j7:=j6 p.1 k3
   rw[hf3 i o p.1 k1 k2 k3,hf2 p.2 k5,hV i o us[i] k1 hui]
   unfold ve
   simp only[k3]
   cases hld:sL [] p.1 with
   |some p'=>
    rw[hld] at j7
    exact absurd k4 (j7.2.2.1 p.2)
   |none=>
    have hr:=hmv i o us[i] p.2 k1 hui k2 k4 k5
    generalize us[i] =u at hr ⊢
    by_cases hx:∃x,u=.v x
    ·obtain⟨x,rfl⟩:=hx
     exact(bF hr).symm
    ·rw[k4]
     cases u<;> first|rfl|exact absurd ⟨_,rfl⟩ hx
 have back:∀X1 tf σ1,SimE (jq F X H1) X1 σ1 tf→Ext (jq F X H1) X X1→SimE F X1 (σ1.withH (σ1.h++H1)) tf:=fun X1 tf σ1 h1 hx=>hs.backO (fun k cs hk=>(h1look k cs hk).2) h1 (fun b hb=>hb) hx
 refine⟨⟨hf1,hf3,Ext.refl _ _,fuel,_,hs0,Ext.refl _ _,hK⟩,?_,?_,?_⟩
 ·rintro i o done X1 a1 tf ho hmi ⟨g0,g1,gx,fu,σ1,s1,qx,hJ⟩ hsee
  have hil:=(List.getElem?_eq_some_iff.1 ho).1
  have hui:us[i]? =some us[i] :=List.getElem?_eq_getElem (by omega)
  obtain⟨d,k1,k2,k3,k4,k5,k6⟩:=hstep i o us[i] ho hui hmi
  have hgb:(∀b n,X1.g b=some n→b < X1.w.heap.size)∧(∀b,F b→b < X1.w.heap.size):=⟨s1.gb,fun b hb=>s1.fb b (.inl hb)⟩
  have hR:SimR F X1 (bst (fun _=>false) i (puts (σ.withH H1) ((msk mN 0 l).take i) (us.take i))) o.op a1.tmps:=by
   refine⟨hgb.1,hgb.2,fun t u ht hu=> ?_,fun k c hk=> ?_⟩
   ·have hts:t∈cO l o:=by simp only[cO];exact List.mem_append_left _ (hZ ht)
    rw[G8] at hu
    rw[hsee t hts]
    rcases hputs i t u hu with ⟨q,oq,_,j1,j2,j3,j4⟩| ⟨j1,j2⟩
    ·rw[hf3 q oq t j1 j2 j3]
     exact(relV q oq u j1 j4 j2).1.mono gx.pres
    ·rw[hf2 t fun q o' hq hmq hod=>j2 q o' (hB.settled i o q o' t ho hq hmq hod hts).1 hq hmq hod]
     exact(hs.slot t u j1).mono gx.pres
   ·obtain⟨hb,hk⟩:=GQ hk
    rw[kz] at hk
    have hbx:=hbox1 k c hk
    cases hb
  have k7:=k6 d k1
  have hVi:=hV i o us[i] ho hui
  unfold ve at hVi
  simp only[k1] at hVi
  cases hld:sL [] d with
  |some p=>cases hld
  |none=>
   rw[hld] at k7
   simp only[hld] at hVi
   rcases k7 with ⟨x,hx⟩| ⟨s,hop,hns⟩
   ·refine(k4 F X1 a1 hR).mono fun y w' ⟨X2,q1,q2,q3,q4,_⟩=>⟨?_,X2,q1,⟨g0,g1,gx.trans (q2.ext hgb.1 hgb.2),fu,σ1,s1.new q2 q3,qx.trans (q2.ext s1.gb s1.fb),hJ⟩,q2.ext hgb.1 hgb.2⟩
    rw[hx] at q4 hVi
    rw[hVi]
    exact bF q4
   ·have hex:=(tN hop k4 hR).2
    unfold jN
    rw[hex]
    refine⟨?_,X1,rfl,⟨g0,g1,gx,fu,σ1,s1,qx,hJ⟩,Ext.refl _ _⟩
    rw[hsee s (by simp only[cO,hop];exact List.mem_append_left _ (by simp[Op.operands,sG])),hf2 s hns,hVi]
    have hr:=hmv i o us[i] s ho hui hmi hop hns
    generalize us[i] =u at hr ⊢
    by_cases hx:∃x,u=.v x
    ·obtain⟨x,rfl⟩:=hx
     exact bF hr
    ·rw[hop]
     cases u<;> first|rfl|exact absurd ⟨_,rfl⟩ hx
 ·rintro done c o X1 tf hcd hcm hlo hdeps ⟨g0,g1,gx,fu,σ1,e2,e3,hJ⟩
  have hsz:tm.size=σ.n:=hs.size
  have hput:∀x,(({ tmps:=tf,defers:=D }:Act).put o.dst x).tmps.size=tm.size∧∀ (q:Nat) oq t,l[q]? =some oq→mN q=true→oq.dst=some t→(({ tmps:=tf,defers:=D }:Act).put o.dst x).tmps.getD t undef=V q:=fun x=>by
   refine⟨by rw[lB];exact g0,fun q oq t h1 h2 h3=> ?_⟩
   rw[gt,if_neg]
   ·exact g1 q oq t h1 h2 h3
   ·rintro⟨e,_⟩
    have:=hB.ndst q c oq o t h1 hlo h2 h3 e
    subst this
    rw[hcm] at h2;cases h2
  cases fu with
  |zero=>exact absurd (hJ.1 c (List.getElem?_eq_some_iff.1 hlo).1 hcm) hcd
  |succ fu=>
   obtain⟨j1,_,j3⟩:=hJ
   refine(j3 c o hcd hcm hlo hdeps _ X1 { tmps:=tf,defers:=D } e2).mono (fun x w' ⟨X',σ',f1,f2,f3,f4⟩=>⟨X',f1,⟨(hput x).1,(hput x).2,gx.trans (f4.mono fun b hb=>.inl hb),fu,σ',f3,e3.trans f4,f2⟩,f4.mono fun b hb=>.inl hb⟩) (fun v w' ⟨X',H2,f1,⟨H3,f5,f2⟩,f3,f4⟩=>⟨X',H3,tf,f1,by rw[hsz];exact f2,?_,f4.mono fun b hb=>.inl hb⟩)
   have:=hs.backO (fun k cs hk=>(h1look k cs hk).2) f3 (fun b hb=>hb) (e3.trans f4)
   rw[hsz,← j1]
   exact SimE.sub this rfl (fun _ _ h=>by cases h) f5 (fun p hp=>by cases hp)
 ·rintro done X1 tf hall ⟨g0,g1,gx,fu,σ1,e2,e3,hJ⟩
  refine⟨_,back X1 tf σ1 e2 e3,?_⟩
  cases fu with
  |zero=>exact hJ.2
  |succ fu=>exact hJ.2.1 hall
def Lp(l:List Oper)(mN:Nat→Bool):Bool:=
 mq 0 l && (l.zipIdx.all fun p=>l.zipIdx.all fun q=>sc l mN p.2 q.2 p.1 q.1) && (l.zipIdx.all fun p=>mN p.2 || (p.1.guard.isNone && !AI p.1.op))
theorem Mf{l:List Oper}{mN:Nat→Bool}(h:Lp l mN=true):MixOk0 l mN:=by
 simp only[Lp,Bool.and_eq_true] at h
 obtain⟨⟨h1,h2⟩,h3⟩:=h
 have hp:∀ (i q:Nat) o oq,l[i]? =some o→l[q]? =some oq→sc l mN i q o oq=true:=fun i q o oq a b=>List.all_eq_true.1 (List.all_eq_true.1 h2 _ (sU a)) _ (sU b)
 have h3':∀ (i:Nat) o,l[i]? =some o→(mN i || (o.guard.isNone && !AI o.op))=true:=fun i o a=>by
  have:=List.all_eq_true.1 h3 _ (sU a)
  simpa using this
 refine⟨fun i o ho j hj=> ?_,fun q q' o o' d a b c e f=> ?_,fun i o q oq d a b c e f=> ?_,fun i o q oq d a c b c2 e f=> ?_,fun i o ho hm=> ?_⟩
 ·have:=i8 l 0 i o h1 ho j hj
  omega
 ·have:=hp q' q o' o b a
  simp only[sc,e,c,Bool.not_true,Bool.false_or,Bool.and_eq_true,Bool.or_eq_true,f,beq_self_eq_true,Bool.false_eq_true,or_false] at this
  have:=this.1.1
  simp at this
  exact this.symm
 ·have:=hp i q o oq a b
  have hf:(cO l o).contains d=true:=by simpa using f
  simp only[sc,e,c,Bool.not_true,Bool.false_or,Bool.and_eq_true,hf] at this
  obtain⟨⟨_,k1,k2⟩,_⟩:=this
  exact⟨by simpa[Nat.blt_eq] using k1,by simpa using k2⟩
 ·have:=hp i q o oq a b
  have hf:(cO l o).contains d=true:=by simpa using f
  simp only[sc,e,c,c2,hf,Bool.not_true,Bool.not_false,Bool.true_or,Bool.false_or,Bool.or_false,Bool.true_and,Bool.and_false,Bool.false_eq_true] at this
  simpa using this
 ·have:=h3' i o ho
  rw[hm] at this
  simp only[Bool.false_or,Bool.and_eq_true] at this
  refine⟨by cases hg:o.guard with
   |none=>rfl
   |some p=>rw[hg] at this;simp at this,fun c b e=> ?_⟩
  have h7:=this.2
  rw[e] at h7;simp[AI] at h7
end
inductive Want where
 |yes
 |no
 |nor
 |sym (b want:Bool) (d:Nat)
 |bad
def rU{T:Nat→Type}(l:List Oper)(σ:TS T)(o:Oper):Want:=
 match o.guard with
 |none=>.yes
 |some (j,want)=>match(l[j]?).bind (·.dst) with
  |some d=>match Nat.ble (d+1) σ.n with
   |true=>match look σ.t d with
    |some (.a .tt)=>(match want with|true=>.yes|false=>.no)
    |some (.a .ff)=>(match want with|true=>.no|false=>.yes)
    |some (.a (.d .bool b))=>.sym b want d
    |some (.a (.raw (.tuple _)))=>.nor
    |_=>.bad
   |false=>.bad
  |none=>.bad
def TS.know{T:Nat→Type}(σ:TS T)(d:Nat)(x:TA T):TS T:={ n:=σ.n,t:=(d,.a x)::σ.t,h:=σ.h,e:=σ.e }
section
variable {P:Program} (Y:Tys P) (E:Env) (G:Gam E)
inductive OL (T:Nat→Type) where
 |st (σ:TS T)
 |pan (v:Value)
def b9{T:Nat→Type}(h:List (Nat × TB T)):List Nat→Bool
 | [] =>true
 |i::r=>match look h i,ko r i with
  |some _,false=>b9 h r
  |_,_=>false
def TS.give{T:Nat→Type}(σ:TS T)(ids:List Nat)(h':List (Nat × TB T)):TS T:={ n:=σ.n,t:=σ.t,h:=h'++dropHH ids σ.h,e:=lm σ.e }
def vF{T:Nat→Type}(σ:TS T)(d:Nat):XR T→Tree (OL T)
 |.bad=>.fail
 |.ret o ids u h=>match b9 σ.h ids && nvH (cW σ.h ids) with
  |true=>.bnd o fun z=>match nvH (h z) with
   |true=>.leaf (.st ((σ.give ids (h z)).put d (u z)))
   |false=>.fail
  |false=>.fail
 |.may o ids u h=>match b9 σ.h ids && nvH (cW σ.h ids) with
  |true=>.bnd o fun p=>.sm p (fun z=>match nvH (h z) with
   |true=>.leaf (.st ((σ.give ids (h z)).put d (u z)))
   |false=>.fail) fun v=>.leaf (.pan v)
  |false=>.fail
 |.mv o ids mv nw u h=>match b9 σ.h ids && CO ids mv nw d && sM (mvQ mv nw d) (dropHH ids σ.h) with
  |true=>.bnd o fun p=>.sm p (fun z=>match(u z).ids (mvP ids nw) && sM (mvP ids nw) (h z) with
   |true=>.leaf (.st ((σ.giveM ids mv nw d (pU (nmN nw d) (h z))).put d ((u z).ren (nmN nw d))))
   |false=>.fail) fun v=>.leaf (.pan v)
  |false=>.fail
def HK{T:Nat→Type}(σ:TS T)(d:Nat)(x:XR T):Tree (OL T):=match x with
 |.mv _ _ _ _ _ _=>.fail
 |x=>vF σ d x
def RC(E:Env)(u:TV E.T):Option Value:=match u.ids fun _=>false with
 |true=>Oe (u.to E.toEnc Rn.zero)
 |false=>none
def QS:BinOp→Option Bool
 |.eql=>some false
 |.neq=>some true
 |_=>none
def nilV{T:Nat→Type}(b neg:Bool):TV T:=match b != neg with
 |true=>.a .tt
 |false=>.a .ff
def evX(o:Oper)(σ:TS E.T):Tree (OL E.T):=
 match o.dst with
 |some d=>match Nat.ble (d+1) σ.n with
  |true=>match o.op with
   |.call { callee:=.value (.func f),args:=xs,argTypes:=ats }=>match CR G.x f with
    |true=>match u7 σ xs.toList with
     |some us=>vF σ d (BV G.x f (eT E [] us) σ.h)
     |none=>.fail
    |false=>(wo Y E G o σ).bind fun σ'=>.leaf (.st σ')
   |.call { callee:=.value (.tmp s),args:=xs,argTypes:=ats }=>match look σ.t s,u7 σ xs.toList with
    |some (.fn f caps),some us=>match caps.all TA.plain with
     |true=>vF σ d (BV G.x f (eT E [] us++caps.map .a) σ.h)
     |false=>.fail
    |some (.a (.fnb f is)),some us=>vF σ d (BV G.x f (eT E [] us++is.map fun i=>.a (.box i 0)) σ.h)
    |_,_=>.fail
   |.binOp op t x y _=>match asL (opT σ x),opT σ y,look Y.ty t,op with
    |some ⟨_,l⟩,some (.a (.raw (.slice none 0 0))),some (.slice _),.eql=>.nl l (.leaf (.st (σ.put d (.a .tt)))) (.leaf (.st (σ.put d (.a .ff))))
    |some ⟨_,l⟩,some (.a (.raw (.slice none 0 0))),some (.slice _),.neq=>.nl l (.leaf (.st (σ.put d (.a .ff)))) (.leaf (.st (σ.put d (.a .tt))))
    |_,_,_,_=>match AN (opT σ x),opT σ y,look Y.ty t,QS op with
     |some (ty,k,off,n),some (.a (.raw (.slice none 0 0))),some (.slice _),some neg=>match pL σ.h ty k with
      |some l=>.nl ((l.drop off).take n) (.leaf (.st (σ.put d (nilV true neg)))) (.leaf (.st (σ.put d (nilV false neg))))
      |none=>.fail
     |_,_,_,_=>(wo Y E G o σ).bind fun σ'=>.leaf (.st σ')
   |_=>(wo Y E G o σ).bind fun σ'=>.leaf (.st σ')
  |false=>.fail
 |none=>match o.op with
  |.panic x=>match opT σ x with
   |some u=>match RC E u with
    |some v=>.leaf (.pan v)
    |none=>.fail
   |none=>.fail
  |_=>(wo Y E G o σ).bind fun σ'=>.leaf (.st σ')
def yA{T:Nat→Type}(f:TS T→Tree (OL T)):OL T→Tree (OL T)
 |.st σ=>f σ
 |.pan v=>.leaf (.pan v)
def me(σ:TS E.T)(o:Oper):Tree (TS E.T):=
 match o.dst with
 |some d=>match Nat.ble (d+1) σ.n with
  |true=>.leaf (σ.put d (.a (.raw undef)))
  |false=>.fail
 |none=>.fail
def nK(l:List Oper):List Oper→TS E.T→Tree (OL E.T)
 | [],σ=>.leaf (.st σ)
 |o::rest,σ=>match rU l σ o with
  |.yes=>(evX Y E G o σ).bind (yA (nK l rest))
  |.no=>(me E σ o).bind (nK l rest)
  |.nor=>(me E σ o).bind (nK l rest)
  |.sym b true d=>.cond b ((evX Y E G o (σ.know d .tt)).bind (yA (nK l rest))) ((me E (σ.know d .ff) o).bind (nK l rest))
  |.sym b false d=>.cond b ((me E (σ.know d .tt) o).bind (nK l rest)) ((evX Y E G o (σ.know d .ff)).bind (yA (nK l rest)))
  |.bad=>.fail
def evQ(o:Oper)(σ:TS E.T):Tree (TS E.T):=
 match o.dst with
 |some d=>match Nat.ble (d+1) σ.n with
  |true=>match o.op with
   |.pick c x y=>match opT σ c with
    |some (.a .tt)=>match opT σ x with
     |some u=>.leaf (σ.put d u.rd)
     |none=>.fail
    |some (.a .ff)=>match opT σ y with
     |some u=>.leaf (σ.put d u.rd)
     |none=>.fail
    |some (.a (.d .bool b))=>match opT σ x,opT σ y with
     |some u,some v=>.cond b (.leaf (σ.put d u.rd)) (.leaf (σ.put d v.rd))
     |_,_=>.fail
    |_=>.fail
   |.buildSlice t 0 ⟨[]⟩=>match look Y.ty t,look E.et t with
    |some (.slice e),some (.sl ty)=>match look Y.sz e with
     |some (sz,_)=>match Nat.beq sz (csz E.toEnc ty) with
      |true=>.leaf (σ.put d (.a (.clip ty [])))
      |false=>.fail
     |none=>.fail
    |_,_=>.fail
   |.call { callee:=.builtin .append,args:=⟨[x,y]⟩,argTypes:=⟨[t,u]⟩ }=>match opT σ x,look Y.ty t,look Y.ty u with
    |some (.a (.clip ty l)),some (.slice e),some du=>match look Y.sz e,EO ty (opT σ y) with
     |some (sz,by_),some m=>match ut du && Nat.ble 1 by_ && Nat.beq sz (csz E.toEnc ty) with
      |true=>.nl m (.leaf (σ.put d (.a (.clip ty l)))) (.bnd (jf by_ l m) fun r=>.leaf (σ.put d (.a (.own ty r))))
      |false=>.fail
     |_,_=>.fail
    |_,_,_=>.fail
   |op=>oN Y E G σ d op o.type
  |false=>.fail
 |none=>.fail
def uQ(l:List Oper):List Oper→TS E.T→Tree (TS E.T)
 | [],σ=>.leaf σ
 |o::rest,σ=>match rU l σ o with
  |.yes=>(evQ Y E G o σ).bind (uQ l rest)
  |.no=>(me E σ o).bind (uQ l rest)
  |.nor=>(me E σ o).bind (uQ l rest)
  |.sym b true d=>.cond b ((evQ Y E G o (σ.know d .tt)).bind (uQ l rest)) ((me E (σ.know d .ff) o).bind (uQ l rest))
  |.sym b false d=>.cond b ((me E (σ.know d .tt) o).bind (uQ l rest)) ((evQ Y E G o (σ.know d .ff)).bind (uQ l rest))
  |_=>.fail
def bs0(l:List Oper)(s:Nat):Bool:=l.any fun o=>match o.dst,o.op with
 |some d,.buildSlice _ 0 ⟨[]⟩=>Nat.beq d s
 |_,_=>false
def Um(xs bs:Nat→Bool):Op→Bool
 |.store _ _ _=>true
 |.mapUpdate _ _ _ _=>true
 |.alloc _=>true
 |.box _ _=>true
 |.makeMap _ _=>true
 |.panic _=>true
 |.call { callee:=.builtin .append,args:=⟨.tmp s::_⟩,argTypes:=_ }=> !bs s
 |.call { callee:=.builtin .append,args:=_,argTypes:=_ }=>true
 |.call { callee:=.value (.func f),args:=_,argTypes:=_ }=>xs f
 |_=>false
def St(mu:List Nat):Option Nat→Bool
 |some d=>ww mu d
 |none=>false
def ye(xs bs:Nat→Bool)(mu:List Nat):List Oper→List Oper × List Oper
 | [] =>([],[])
 |o::r=>match St mu o.dst || Um xs bs o.op with
  |true=>([],o::r)
  |false=>match ye xs bs mu r with
   | (a,b)=>(o::a,b)
def Wc{T:Nat→Type}(σ:TS T)(s:Nat):Bool:=match look σ.t s with
 |some (.a (.own _ _))=>true
 |_=>false
def TS.alsT{T:Nat→Type}(σ:TS T)(m:List (Nat × Nat)):TS T:={ n:=σ.n,t:=σ.t,h:=σ.h,e:=(m.filter fun p=>Wc σ p.2).map (fun p=>(p.1,Root.s p.2))++σ.e }
def TS.withB{T:Nat→Type}(σ:TS T)(h:List (Nat × TB T)):TS T:={ n:=σ.n,t:=σ.t,h:=h,e:=σ.e }
def KK(σ:TS E.T)(t:TypeId)(k o n:Nat)(y:Operand):Option (List (TA E.T)):=
 match look σ.h k,opT σ y with
 |some (.cs cs),some u=>match u.cs1 with
  |some vs=>match Nat.beq vs.length n && Nat.ble (o+n) cs.length with
   |true=>some (spl cs o (wq ((look E.ct t).getD []) vs))
   |false=>none
  |none=>none
 |_,_=>none
def UF(ops body:List Oper)(om oa:Oper)(after:List Oper):Bool:=match om.op with
 |.store _ _ _=>xM ops body om oa after
 |_=>false
def NY(ops body:List Oper)(om oa:Oper)(after:List Oper)(σ:TS E.T):Tree (OL E.T):=
 match om.op with
 |.store t x y=>match opT σ x,look Y.sz t with
  |some (.a (.box kk _)),some (n,_)=>match xM ops body om oa after && Tl σ.h kk with
   |true=>(uQ Y E G ops body (σ.withB (eu kk σ.h))).bind fun σ'=>match opT σ' x with
    |some (.a (.box k2 p))=>match Nat.beq k2 kk with
     |true=>match KK E (σ'.withB σ.h) t kk p n y with
      |some cs=>nK Y E G ops (oa::after) (((σ'.withB σ.h).setc kk cs).alsT (fp body))
      |none=>.fail
     |false=>.fail
    |_=>.fail
   |false=>.fail
  |_,_=>.fail
 |_=>.fail
def IY{T:Nat→Type}:TV T→Bool
 |.a (.d (.int _) _)=>true
 |.a (.d .byte _)=>true
 |.a (.d .bool _)=>true
 |.a (.d .str _)=>true
 |.a (.box _ _)=>true
 |.a (.mpr _)=>true
 |.a (.raw _)=>true
 |.a .tt=>true
 |.a .ff=>true
 |.a (.bsl _ _ _ _)=>true
 |.a (.vec _ _ _)=>true
 |.a (.pel _ _ _ _)=>true
 |.a (.vsl _ _ _ _)=>true
 |_=>false
def UQ:Op→Bool
 |.move _=>true
 |.fieldAddr _ _ _=>true
 |.load _ _=>true
 |.binOp _ _ _ _ _=>true
 |.unOp _ _ _=>true
 |.index _ _ _=>true
 |.nilCheck _=>true
 |.slice _ _ _ _ _=>true
 |.convert _ _ _=>true
 |.call { callee:=.builtin .len,args:=_,argTypes:=_ }=>true
 |_=>false
def II(xs bs:Nat→Bool)(mu nd:List Nat)(l:List Oper):List Oper→List Nat→List Bool
 | [],_=>[]
 |o::r,cd=>match UQ o.op && !(St mu o.dst || Um xs bs o.op) && o.guard.isNone && o.dst.isSome && !(cO l o).any (ww cd) && !St nd o.dst with
  |true=>true::II xs bs mu nd l r cd
  |false=>false::II xs bs mu nd l r (match o.dst with|some d=>d::cd|none=>cd)
def mNf(fl:List Bool)(i:Nat):Bool:=fl.getD i false
def tw:Nat→List Bool→List Nat
 |_,[] =>[]
 |k,true::r=>tw (k+1) r
 |k,false::r=>k::tw (k+1) r
def Ab(s:Nat)(o:Oper):Bool:=match o.dst with
 |some d=>Nat.beq d s
 |none=>false
def wm(l:List Oper)(σ:TS E.T):Nat→Operand→Option (Nat × Nat)
 |0,_=>none
 |n+1,.tmp s=>match l.find? (Ab s) with
  |some o=>match o.op with
   |.move y=>wm l σ n y
   |.nilCheck y=>wm l σ n y
   |.fieldAddr t y i=>match look Y.ty t,wm l σ n y with
    |some (.struct fs),some (k,p)=>match fs[i]? with
     |some f=>some (k,p+f.offset)
     |none=>none
    |_,_=>none
   |.load _ y=>match wm l σ n y with
    |some (k,p)=>match look σ.h k with
     |some (.cs cs)=>match cs[p]? with
      |some (.box j q)=>some (j,q)
      |_=>none
     |_=>none
    |none=>none
   |_=>none
  |none=>match look σ.t s with
   |some (.a (.box k p))=>some (k,p)
   |_=>none
 |_,_=>none
def inH{T:Nat→Type}(ids:List Nat)(h:List (Nat × TB T)):List (Nat × TB T):=h.filter fun p=>ko ids p.1
def Ed{T:Nat→Type}(ids:List Nat)(h:List (Nat × TB T)):List (Nat × TB T):=h.filter fun p=> !ko ids p.1
def TO(l:List Oper)(σ:TS E.T)(fl:List Bool):List Nat:=l.zipIdx.filterMap fun q=>match mNf fl q.2,q.1.op with
 |true,.load _ y=>(wm Y E l σ l.length y).map (·.1)
 |_,_=>none
def ED{T:Nat→Type}:List (Nat × TB T)→List Nat
 | [] =>[]
 | (k,.vec _ _ _)::r=>k::ED r
 |_::r=>ED r
def P8(l:List Oper)(σ:TS E.T):List Nat:=l.filterMap fun o=>match o.op,o.dst with
 |.load t y,some d=>match look Y.ty t,wm Y E l σ l.length y with
  |some (.struct _),some (k,_)=>match look σ.h k with
   |some (.cs cs)=>match cs.all fun c=>IY (.a c:TV E.T) with
    |true=>none
    |false=>some d
   |_=>none
  |_,_=>none
 |_,_=>none
def VG(l:List Oper)(σ:TS E.T)(x:Operand):Option Nat:=match x with
 |.tmp s=>match l.find? (Ab s) with
  |some o=>match o.op with
   |.load _ y=>(wm Y E l σ l.length y).map (·.1)
   |_=>none
  |none=>none
 |_=>none
def Wz(ids:List Nat):Option Nat→Bool
 |some k=>ko ids k
 |none=>false
def WD{T:Nat→Type}(h:List (Nat × TB T))(k:Nat):Bool:=match look h k with
 |some (.cs cs)=>cs.any fun c=>match c with
  |.vec _ _ _=>true
  |_=>false
 |_=>false
def Fw(l:List Oper)(σ:TS E.T)(ids:List Nat)(i:Nat):Bool:=match l[i]? with
 |some o=>match o.op with
  |.store _ x _=>match wm Y E l σ l.length x with
   |some q=>ko ids q.1
   |none=> !(ED σ.h).isEmpty
  |.call { callee:=.builtin .append,args:=xs,argTypes:=_ }=>xs.toList.any fun x=>Wz ids (VG Y E l σ x)
  |.call { callee:=.value _,args:=xs,argTypes:=_ }=>xs.toList.any fun x=>match wm Y E l σ l.length x with
   |some q=>ko ids q.1 || WD σ.h q.1
   |none=>false
  |_=>false
 |none=>false
def RA(l:List Oper):Nat→List Nat→List Nat
 |0,S=>S
 |i+1,S=>RA l i (match ww S i,l[i]? with
  |true,some o=>bM o++S
  |_,_=>S)
def mBf(l:List Oper)(cs2:List Nat)(i:Nat):Bool:=match cs2 with
 | [] =>true
 |c::_=>ww (RA l (c+1) [c]) i
def U9(l:List Oper)(σ:TS E.T)(fl:List Bool)(cs2:List Nat):Bool:=l.zipIdx.all fun q=>match mNf fl q.2,q.1.op with
 |true,.load _ y=>(wm Y E l σ l.length y).isNone || mBf l cs2 q.2
 |_,_=>true
def T9(l:List Oper)(σ:TS E.T)(fl:List Bool)(mB:Nat→Bool):List (Nat × Nat × Nat):=l.zipIdx.filterMap fun q=>match mNf fl q.2 && mB q.2,q.1.op,q.1.dst with
 |true,.load _ y,some d=>match wm Y E l σ l.length y with
  |some (k,p)=>match look σ.h k with
   |some (.cs cs)=>match cs[p]? with
    |some c=>match IY (.a c:TV E.T) with
     |true=>none
     |false=>some (d,k,p)
    |none=>none
   |_=>none
  |none=>none
 |_,_,_=>none
def Gc(σ:TS E.T)(op:Op)(kk p:Nat):Option (TA E.T):=match op with
 |.load t x=>match opT σ x,look Y.ty t,look σ.h kk with
  |some (.a (.box k2 p2)),some dsc,some (.cs cs)=>match Nat.beq k2 kk && Nat.beq p2 p && lf dsc with
   |true=>cs[p]?
   |false=>none
  |_,_,_=>none
 |_=>none
def mvN(l:List Oper)(fl:List Bool)(σ:TS E.T)(op:Op):Option (TV E.T):=match op with
 |.move (.tmp s)=>match l.zipIdx.all fun q=> !mNf fl q.2 || !(Ab s q.1) with
  |true=>opT σ (.tmp s)
  |false=>none
 |_=>none
def B3{T:Nat→Type}(mB:Nat→Bool)(i:Nat)(σ:TS T):TS T:=match mB i with
 |true=>σ
 |false=>σ.withB []
def evN(l:List Oper)(fl:List Bool)(mB:Nat→Bool)(ld:List (Nat × Nat × Nat)):Nat→List Oper→TS E.T→Tree (TS E.T)
 |_,[],σ=>.leaf σ
 |k,o::rest,σ=>match mNf fl k with
  |false=>evN l fl mB ld (k+1) rest σ
  |true=>match o.dst,o.guard with
   |some d,none=>match Nat.ble (d+1) σ.n with
    |true=>match sL ld d with
     |some (_,kk,p)=>match mB k,Gc Y E σ o.op kk p with
      |true,some c=>evN l fl mB ld (k+1) rest (σ.put d (.a c.rd))
      |_,_=>.fail
     |none=>match mvN E l fl σ o.op with
      |some u=>evN l fl mB ld (k+1) rest (σ.put d u.rd)
      |none=>match evP Y E G (B3 mB k σ) o.op o.type with
       |.one u=>match IY u with
        |true=>evN l fl mB ld (k+1) rest (σ.put d u)
        |false=>.fail
       |.opt z u=>.bnd z fun x=>match IY (u x) with
        |true=>evN l fl mB ld (k+1) rest (σ.put d (u x))
        |false=>.fail
       |.bad=>.fail
    |false=>.fail
   |_,_=>.fail
def evE(all:Bool)(o:Oper)(σ:TS E.T):Tree (OL E.T):=
 match o.guard with
 |some _=>.fail
 |none=>match o.op with
  |.call { callee:=.value (.func f),args:=xs,argTypes:=ats }=>match CR G.x f,o.dst with
   |true,some d=>match Nat.ble (d+1) σ.n,u7 σ xs.toList with
    |true,some us=>HK σ d (BV G.x f (eT E [] us) σ.h)
    |_,_=>.fail
   |false,some d=>match Nat.ble (d+1) σ.n with
    |true=>(oN Y E G σ d o.op o.type).bind fun σ'=>.leaf (.st σ')
    |false=>.fail
   |_,_=>.fail
  |op=>match all,o.dst with
   |true,_=>match K1 G.mu σ o with
    |false=>(wo Y E G o σ).bind fun σ'=>.leaf (.st σ')
    |true=>.fail
   |false,some d=>match Nat.ble (d+1) σ.n with
    |true=>(oN Y E G σ d op o.type).bind fun σ'=>.leaf (.st σ')
    |false=>.fail
   |false,none=>.fail
def Pi(all:Bool)(n:Nat)(l:List Oper):List Nat→TS E.T→Tree (OL E.T)
 | [],σ=>.leaf (.st σ)
 |c::cs,σ=>match Nat.beq σ.n n,l[c]? with
  |true,some o=>(evE Y E G all o σ).bind (yA (Pi all n l cs))
  |_,_=>.fail
def TS.alsA{T:Nat→Type}(σ:TS T)(m:List (Nat × Nat)):TS T:={ n:=σ.n,t:=σ.t,h:=σ.h,e:=m.map (fun p=>(p.1,Root.s p.2))++σ.e }
def TS.alcT{T:Nat→Type}(σ:TS T)(ld:List (Nat × Nat × Nat)):TS T:={ n:=σ.n,t:=σ.t,h:=σ.h,e:=ld.map (fun p=>(p.1,Root.c p.2.1 p.2.2))++σ.e }
def TS.ownE{T:Nat→Type}(σ:TS T):TS T:={ n:=σ.n,t:=σ.t,h:=σ.h,e:=σ.e.filter fun p=>(σ.ownAt p.2).isSome }
def JV(l:List Oper)(fl:List Bool)(ld:List (Nat × Nat × Nat)):Bool:=decide (ld.map (·.1)).Nodup && ld.all fun p=>l.zipIdx.any fun q=>mNf fl q.2 && Ab p.1 q.1
def zu{T:Nat→Type}(h:List (Nat × TB T))(ids:List Nat):Bool:=ids.all fun k=>(look h k).isSome
def Pp{L:Type}:List (Tree L)→Tree L
 | [] =>.fail
 | [t] =>t
 |t::r=>.nl ([] :List Nat) t (Pp r)
def evA(o:Oper)(σ:TS E.T):Tree (OL E.T):=
 match o.guard with
 |some _=>.fail
 |none=>match o.op with
  |.call { callee:=.value (.func f),args:=xs,argTypes:=ats }=>match CR G.x f,o.dst with
   |true,some d=>match Nat.ble (d+1) σ.n,u7 σ xs.toList with
    |true,some us=>vF σ d (BV G.x f (eT E [] us) σ.h)
    |_,_=>.fail
   |_,_=>(wo Y E G o σ).bind fun σ'=>.leaf (.st σ')
  |_=>(wo Y E G o σ).bind fun σ'=>.leaf (.st σ')
def rX(l:List Oper):Nat→List Nat→List (List Nat)
 |0,done=>match sb l done with
  | [] =>[[]]
  |_=>[[l.length]]
 |n+1,done=>match sb l done with
  | [] =>[[]]
  |is=>is.flatMap fun i=>(rX l n (i::done)).map (i:: ·)
def rM(n0:Nat)(l:List Oper):List Nat→TS E.T→Tree (OL E.T)
 | [],σ=>.leaf (.st σ)
 |i::w,σ=>match Nat.beq σ.n n0,l[i]? with
  |true,some o=>(evA Y E G o σ).bind (yA (rM n0 l w))
  |_,_=>.fail
def Jz(ops:List Oper)(σ:TS E.T):Tree (OL E.T):=
 match Nat.ble ops.length 10 with
 |true=>Pp ((rX ops ops.length []).map fun w=>rM Y E G σ.n ops w σ)
 |false=>.fail
def E9(l:List Oper)(fl:List Bool)(done:List Nat):List Nat:=(List.range l.length).filter fun i=> !mNf fl i && (!yu done i && match l[i]? with
 |some o=>(bM o).all fun d=>mNf fl d || yu done d
 |none=>false)
def si(l:List Oper)(fl:List Bool):Nat→List Nat→List (List Nat)
 |0,done=>match(List.range l.length).all fun i=>mNf fl i || yu done i with
  |true=>[[]]
  |false=>[[l.length]]
 |f+1,done=>match E9 l fl done with
  | [] =>[[l.length]]
  |is=>is.flatMap fun i=>(si l fl f (i::done)).map (i:: ·)
def RV(ops:List Oper)(σ:TS E.T)(fl:List Bool):Tree (OL E.T):=
 match Lp ops (mNf fl) with
 |true=>(evN Y E G ops fl (fun _=>false) [] 0 ops (σ.withB [])).bind fun σN=>Pp ((si ops fl (tw 0 fl).length []).map fun w=>rM Y E G σ.n ops w ((σN.withB σ.h).alsA (ly ops (mNf fl) 0 ops)))
 |false=>.fail
def WA(ops:List Oper):List Nat:=ops.filterMap fun o=>match o.op,o.dst with
 |.load _ _,some d=>some d
 |_,_=>none
def RR(ops:List Oper)(σ:TS E.T):Tree (OL E.T):=
 match Nat.ble ops.length 10 with
 |true=>Jz Y E G ops σ
 |false=>RV Y E G ops σ (II (CR G.x) (bs0 ops) G.mu (P8 Y E ops σ++WA ops) ops ops [])
def G7(n:Nat)(l:List Oper):List Nat→TS E.T→Tree (OL E.T)
 | [],σ=>.leaf (.st σ)
 |c::cs,σ=>match Nat.beq σ.n n,l[c]? with
  |true,some o=>(evA Y E G o σ).bind (yA (G7 n l cs))
  |_,_=>.fail
def L0(ops:List Oper)(σ:TS E.T)(fl:List Bool)(ids cs1 cs2:List Nat)(ld:List (Nat × Nat × Nat)):Tree (OL E.T):=
 match U9 Y E ops σ fl cs2 && (Tw ops (mNf fl) (cs1++cs2) && zu σ.h ids && JV ops fl ld) with
 |true=>(evN Y E G ops fl (mBf ops cs2) ld 0 ops (σ.withB (inH ids σ.h))).bind fun σN=>
  (Pi Y E G false σ.n ops cs1 ((σN.withB (Ed ids σ.h)).alsA (ly ops (mNf fl) 0 ops))).bind (yA fun σ1=>
   match zu σ.h (σ1.h.map (·.1)) && (σ1.h.all fun p=> !ko ids p.1) && (nvH σ1.h && nvH (Ed ids σ.h)) with
   |true=>G7 Y E G σ.n ops cs2 ((σ1.withB (σ1.h++inH ids σ.h)).alcT ld).ownE
   |false=>.fail)
 |false=>RR Y E G ops σ
def T1(ops:List Oper)(σ:TS E.T)(fl:List Bool)(ids ch:List Nat):Tree (OL E.T):=
 L0 Y E G ops σ fl ids (ch.takeWhile fun i=> !Fw Y E ops σ ids i) (ch.dropWhile fun i=> !Fw Y E ops σ ids i) (T9 Y E ops σ fl (mBf ops (ch.dropWhile fun i=> !Fw Y E ops σ ids i)))
def Qa(ops:List Oper)(σ:TS E.T):Tree (OL E.T):=
 match σ.e with
 | [] =>T1 Y E G ops σ (II (CR G.x) (bs0 ops) G.mu (P8 Y E ops σ) ops ops []) (TO Y E ops σ (II (CR G.x) (bs0 ops) G.mu (P8 Y E ops σ) ops ops [])++ED σ.h) (tw 0 (II (CR G.x) (bs0 ops) G.mu (P8 Y E ops σ) ops ops []))
 |_=>.fail
def Ub(ops:List Oper)(om:Oper)(σ:TS E.T):Bool:=match om.op with
 |.store _ x _=>(wm Y E ops σ ops.length x).isNone && !(ED σ.h).isEmpty
 |_=>false
def evR(ops:List Oper)(draw:Bool)(σ:TS E.T):Tree (OL E.T):=
 match draw with
 |false=>nK Y E G ops ops σ
 |true=>match ye (CR G.x) (bs0 ops) G.mu ops,σ.e with
  | (_,[]),[] =>match KG ops with
    |true=>(uQ Y E G ops ops σ).bind fun σ'=>.leaf (.st σ')
    |false=>.fail
  | (body,om::after),[] =>match Fr ops body om after with
    |true=>(uQ Y E G ops body σ).bind fun σ'=>nK Y E G ops (om::after) (σ'.alsT (fp body))
    |false=>match after with
     |oa::after=>match UF ops body om oa after && !Ub Y E ops om σ with
      |true=>NY Y E G ops body om oa after σ
      |false=>Qa Y E G ops σ
     | [] =>Qa Y E G ops σ
  |_,_=>.fail
end
section
variable {P:Program} {Y:Tys P} {E:Env} {G:Gam E} {ρ:Rn} {σ:TS E.T} {Q:Exit→AS→Prop} {ks:List It} {l:List Oper} {k:Nat} {o:Oper} {rest:List Oper}
theorem o3{d:Nat}{b:Bool}{x:TA E.T}(hx:x.to E.toEnc ρ=.v (.bool b))(hl:look σ.t d=some (.a (.d .bool b))):oz (σ.to E.toEnc ρ) ((σ.know d x).to E.toEnc ρ):=fun F X tm hs=>by
 refine hs.le2 rfl (fun t u' hu=>⟨u',?_,.refl _⟩) (fun q cs' hq=>⟨cs',hq,LeL.refl _⟩) (fun p hp=>hp)
 have e:((σ.know d x).to E.toEnc ρ).t=(d,x.to E.toEnc ρ)::tTo E.toEnc ρ σ.t:=rfl
 rw[e,ab] at hu
 split at hu
 ·rename_i e2;subst e2
  simp only[TS.to,bD,hl]
  rw[hx] at hu
  cases hu;rfl
 ·exact hu
theorem Bb(h:rU l σ o=.yes):bp l (σ.to E.toEnc ρ) o=some true:=by
 unfold rU at h
 unfold bp
 split at h
 ·rename_i hg;rw[hg]
 ·rename_i j want hg
  rw[hg]
  split at h
  ·rename_i d hd
   simp only[hd]
   split at h
   ·rename_i hn
    have hlt:=ba hn
    rw[if_pos (show d < (σ.to E.toEnc ρ).n from hlt)]
    split at h
    ·rename_i hl
     simp only[TS.to,bD,hl]
     cases want<;> first|rfl|cases h
    ·rename_i hl
     simp only[TS.to,bD,hl]
     cases want<;> first|rfl|cases h
    ·cases h
    ·cases h
    ·cases h
   ·cases h
  ·cases h
theorem EM(h:rU l σ o=.no):bp l (σ.to E.toEnc ρ) o=some false:=by
 unfold rU at h
 unfold bp
 split at h
 ·cases h
 ·rename_i j want hg
  rw[hg]
  split at h
  ·rename_i d hd
   simp only[hd]
   split at h
   ·rename_i hn
    have hlt:=ba hn
    rw[if_pos (show d < (σ.to E.toEnc ρ).n from hlt)]
    split at h
    ·rename_i hl
     simp only[TS.to,bD,hl]
     cases want<;> first|rfl|cases h
    ·rename_i hl
     simp only[TS.to,bD,hl]
     cases want<;> first|rfl|cases h
    ·cases h
    ·cases h
    ·cases h
   ·cases h
  ·cases h
theorem Bg(h:rU l σ o=.nor):fT l (σ.to E.toEnc ρ) o=true:=by
 unfold rU at h
 unfold fT
 split at h
 ·cases h
 ·rename_i j want hg
  rw[hg]
  split at h
  ·rename_i d hd
   simp only[hd]
   split at h
   ·rename_i hn
    have hlt:=ba hn
    split at h
    ·cases want<;> cases h
    ·cases want<;> cases h
    ·cases h
    ·rename_i xs hl
     simp only[TS.to,bD,hl,Option.map_some,TV.to,TA.to]
     exact decide_eq_true hlt
    ·cases h
   ·cases h
  ·cases h
theorem rH{b want:Bool}{d:Nat}(h:rU l σ o=.sym b want d):look σ.t d=some (.a (.d .bool b))∧∀ (c:Bool) (x:TA E.T),(∀ρ,x.to E.toEnc ρ=.v (.bool c))→bp l ((σ.know d x).to E.toEnc ρ) o=some (c==want):=by
 unfold rU at h
 unfold bp
 split at h
 ·cases h
 ·rename_i j want' hg
  rw[hg]
  split at h
  ·rename_i d' hd
   split at h
   ·rename_i hn
    have hlt:=ba hn
    split at h
    ·cases want'<;> cases h
    ·cases want'<;> cases h
    ·rename_i b' hl
     cases h
     refine⟨hl,fun c x hx=> ?_⟩
     simp only[hd]
     rw[if_pos (show d < ((σ.know d x).to E.toEnc ρ).n from hlt)]
     have e:look ((σ.know d x).to E.toEnc ρ).t d=some (.v (.bool c)):=by
      show look ((d,x.to E.toEnc ρ)::tTo E.toEnc ρ σ.t) d=_
      rw[aH,hx]
     rw[e]
    ·cases h
    ·cases h
   ·cases h
  ·cases h
theorem yJ(hi:Inj ρ σ.h)(ho:l[k]? =some o)(hw:bp l (σ.to E.toEnc ρ) o=some false)(h:(me E σ o).holds (On P E Q ρ (.o l (k+1) rest::ks))):aY P Q (.o l k (o::rest)::ks) (σ.to E.toEnc ρ):=by
 unfold me at h
 split at h
 ·rename_i d hd
  split at h
  ·rename_i hn
   refine kL ho hw hd hn ?_
   have:=h ρ hi (Agr.refl ρ)
   rw[ce] at this
   exact this
  ·cases h
 ·cases h
theorem MX(hi:Inj ρ σ.h)(ho:l[k]? =some o)(hw:fT l (σ.to E.toEnc ρ) o=true)(h:(me E σ o).holds (On P E Q ρ (.o l (k+1) rest::ks))):aY P Q (.o l k (o::rest)::ks) (σ.to E.toEnc ρ):=by
 unfold me at h
 split at h
 ·rename_i d hd
  split at h
  ·rename_i hn
   refine B6 ho hw hd hn ?_
   have:=h ρ hi (Agr.refl ρ)
   rw[ce] at this
   exact this
  ·cases h
 ·cases h
def F4(P:Program)(Q:Exit→AS→Prop)(ks:List It)(v:Value):Prop:=∀n,Stk P Q ks (.panic [{ v:=v,recovered:=false }]) ⟨n,[],[],[]⟩
theorem F4.toK{v:Value}{σ:AS}(h:F4 P Q ks v):Ja P Q ks v σ:=⟨[],[],fun _ _ h=>(by simp[av] at h),fun _ _ h=>(by simp[av] at h),h _⟩
def OnX(P:Program)(E:Env)(Q:Exit→AS→Prop)(ρ:Rn)(its ks:List It):OL E.T→Prop
 |.st σ=>On P E Q ρ its σ
 |.pan v=>F4 P Q ks v
theorem vV{T:Nat→Type}{h:List (Nat × TB T)}:∀ {ids:List Nat},b9 h ids=true→∀i∈ids,∃b,look h i=some b
 | [],_,i,hi=>by cases hi
 |j::r,hg,i,hi=>by
  simp only[b9] at hg
  split at hg
  ·rename_i b hb hm
   rcases List.mem_cons.1 hi with rfl|hi
   ·exact⟨b,hb⟩
   ·exact vV hg i hi
  ·cases hg
theorem pc(hi:Inj ρ σ.h)(ids:List Nat):∀k cs,look (hTo E.toEnc ρ (cW σ.h ids)) k=some cs→look (σ.to E.toEnc ρ).h k=some cs:=fun k cs hk=>by
 obtain⟨i,b,h1,h2,h3,h4⟩:=je (hi.sub fun p hp=>let ⟨q,q1,q2,q3⟩:=mJ p hp;⟨q,q1,q2,q3 ρ⟩) hk
 rw[← h1,← h3]
 exact dc E.toEnc hi (nP h2) h4
theorem qa(hi:Inj ρ σ.h)(ids:List Nat):∀k cs,look (hTo E.toEnc ρ (dropHH ids σ.h)) k=some cs→look (σ.to E.toEnc ρ).h k=some cs∧look (hTo E.toEnc ρ (cW σ.h ids)) k=none:=fun k cs hk=>by
 obtain⟨i,b,h1,h2,h3,h6⟩:=je (hi.sub fun p hp=>⟨p,gL p hp,rfl,rfl⟩) hk
 obtain⟨h4,h5⟩:=j8 h2
 refine⟨by rw[← h1,← h3];exact dc E.toEnc hi h4 h6,?_⟩
 cases hn:look (hTo E.toEnc ρ (cW σ.h ids)) k with
 |none=>rfl
 |some cs'=>
  obtain⟨j,b',m1,m2,m3,m6⟩:=je (hi.sub fun p hp=>let ⟨q,q1,q2,q3⟩:=mJ p hp;⟨q,q1,q2,q3 ρ⟩) hn
  obtain⟨m4,m5⟩:=lV m2
  have:=(hi _ (cI h4) _ (cI m4)).1 h6 m6 (h1.trans m1.symm)
  simp only at this
  subst this
  exact absurd m5 h5
theorem lS:∀ (n:Nat) (σ:AS),dn (List.replicate n none) σ=σ
 |0,_=>rfl
 |n+1,σ=>lS n σ
theorem BT{T:Nat→Type}{h:List (Nat × TB T)}:∀ {ids:List Nat},nvH (cW h ids)=true→∀i∈ids,∀b,look h i=some b→b.nv=true
 | [],_,i,hi,_,_=>by cases hi
 |k::ks,hn,i,hi,b,hb=>by
  simp only[cW] at hn
  cases hl:look h k with
  |none=>
   rw[hl] at hn
   rcases List.mem_cons.1 hi with rfl|hi
   ·rw[hl] at hb;cases hb
   ·exact BT hn i hi b hb
  |some b'=>
   rw[hl] at hn
   simp only[nvH,List.all_cons,Bool.and_eq_true] at hn
   rcases List.mem_cons.1 hi with rfl|hi
   ·rw[hl] at hb;cases hb;exact hn.1
   ·exact BT hn.2 i hi b hb
theorem E8{ids:List Nat}{h':List (Nat × TB E.T)}(hi:Inj ρ σ.h)(hg:b9 σ.h ids=true)(hk:nvH (cW σ.h ids)=true)(hv:nvH h'=true)(hm:h'.map (·.1)=ids):Inj ρ (σ.give ids h').h:=hi.sub fun p hp=>by
 rcases List.mem_append.1 hp with hp|hp
 ·have:p.1∈ids:=hm ▸ List.mem_map_of_mem hp
  obtain⟨b,hb⟩:=vV hg _ this
  exact⟨_,cI hb,rfl,by rw[CG hv hp,xu (BT hk _ this b hb)]⟩
 ·exact⟨p,gL p hp,rfl,rfl⟩
theorem Hd(ids:List Nat)(h':List (Nat × TB E.T)):(σ.give ids h').to E.toEnc ρ=dT (σ.to E.toEnc ρ) [] (hTo E.toEnc ρ (dropHH ids σ.h)) (hTo E.toEnc ρ h'):=by
 unfold dT TS.give TS.to
 simp only[dn,AS.dropC]
 congr 1
 ·exact sS _ _ _ _
 ·exact(iC σ.e).symm
theorem iR{σ:AS}{n:Nat}{Hr H':List (Nat × List AV)}:dT σ (List.replicate n none) Hr H'=dT σ [] Hr H':=by
 unfold dT
 rw[lS];rfl
theorem jg:∀n,mz (List.replicate n none)=true
 |0=>rfl
 |n+1=>jg n
theorem mX:∀n,oP (List.replicate n none)=true
 |0=>rfl
 |n+1=>mX n
theorem oU{σ:AS}:∀ {xs:List Operand} {us0 us:List AV},uq σ xs=some us0→LeL us0 us→us.all (fun u=>(cw (some u)).isNone)=true→PArgs σ xs us (List.replicate us.length none)
 | [],us0,us,h,hl,hp=>by
   cases h
   cases hl
   exact .nil
 |x::xs,us0,us,h,hl,hp=>by
  simp only[uq] at h
  split at h
  ·rename_i u us1 h1 h2
   cases h
   cases hl with
   |cons hu hr=>
    simp only[List.all_cons,Bool.and_eq_true] at hp
    exact .cons (.rd h1 hu (by simpa using hp.1)) (oU h2 hr hp.2)
  ·cases h
theorem Hi{Z:Type}{d:Nat}{ids mvs:List Nat}{nw:Nat}{u:Z→TV E.T}{hh:Z→List (Nat × TB E.T)}{z:Z}{ρ':Rn}(hi:Inj ρ σ.h)(hok:CO ids mvs nw d=true)(hq:sM (mvQ mvs nw d) (dropHH ids σ.h)=true)(h1:∀i∈ids,i ∉ mvs→ρ'.k i=ρ.k i)(h4:Inj ρ' (hh z))(hP:(u z).ids (mvP ids nw)=true∧sM (mvP ids nw) (hh z)=true)(hdis:∀k cs,look (hTo E.toEnc ρ' (hh z)) k=some cs→look (hTo E.toEnc ρ (dropHH ids σ.h)) k=none):
  Inj (mvR ρ ρ' mvs nw d) (σ.giveM ids mvs nw d (pU (nmN nw d) (hh z))).h∧oz ((dT (σ.to E.toEnc ρ) [] (hTo E.toEnc ρ (dropHH ids σ.h)) (hTo E.toEnc ρ' (hh z))).put d ((u z).to E.toEnc ρ')) (((σ.giveM ids mvs nw d (pU (nmN nw d) (hh z))).to E.toEnc (mvR ρ ρ' mvs nw d)).put d ((u z).to E.toEnc ρ')):=by
 have hname:=zj (ρ:=ρ) (ρ':=ρ') hok h1
 have hinj:=PE hok
 have hrest:=Dh (ρ:=ρ) (ρ':=ρ') (mv:=mvs) (nw:=nw) (d:=d)
 have hI1:Inj (mvR ρ ρ' mvs nw d) (pU (nmN nw d) (hh z)):=tx hname hinj hP.2 h4
 have hI2:Inj ρ (dropHH ids σ.h):=hi.sub fun p hp=>⟨p,gL p hp,rfl,rfl⟩
 have e2:hTo E.toEnc (mvR ρ ρ' mvs nw d) (dropHH ids σ.h)=hTo E.toEnc ρ (dropHH ids σ.h):=Cr hrest hq
 have e1:hTo E.toEnc (mvR ρ ρ' mvs nw d) (pU (nmN nw d) (hh z))=hTo E.toEnc ρ' (hh z):=tz hname hP.2
 have hin:Inj (mvR ρ ρ' mvs nw d) (σ.giveM ids mvs nw d (pU (nmN nw d) (hh z))).h:=by
  intro x hx1 y hy1
  have hrb:∀q∈dropHH ids σ.h,(mvR ρ ρ' mvs nw d) q.1=ρ q.1∧a8 (mvR ρ ρ' mvs nw d) q.2=a8 ρ q.2:=fun q hq1=>by
   have:=List.all_eq_true.1 hq q hq1
   simp only[Bool.and_eq_true] at this
   exact⟨by unfold Rn.b;rw[hrest _ this.1],vd hrest this.2⟩
  have cross:∀x∈pU (nmN nw d) (hh z),∀y∈dropHH ids σ.h,(a8 (mvR ρ ρ' mvs nw d) x.2=true→a8 (mvR ρ ρ' mvs nw d) y.2=true→(mvR ρ ρ' mvs nw d) x.1≠(mvR ρ ρ' mvs nw d) y.1)∧x.1≠y.1:=fun x hx y hy=>by
   constructor
   ·intro l1 l2 e
    have m1:∃cs,look (hTo E.toEnc ρ' (hh z)) ((mvR ρ ρ' mvs nw d) x.1)=some cs:=by
     rw[← e1]
     exact qK (xb hx l1)
    obtain⟨cs,m1⟩:=m1
    have m2:=hdis _ _ m1
    rw[e,← e2] at m2
    obtain⟨cs2,m3⟩:=qK (xb (E:=E.toEnc) (ρ:=mvR ρ ρ' mvs nw d) hy l2)
    rw[m2] at m3;cases m3
   ·intro e
    obtain⟨x0,k1,rfl⟩:=ud hx
    have ix:=List.all_eq_true.1 hP.2 x0 k1
    have iy:=List.all_eq_true.1 hq y hy
    simp only[Bool.and_eq_true] at ix iy
    have hyn:y.1 ∉ ids:=td hy
    have hfy:oD d nw y.1=false:=by
     have:=iy.1
     unfold mvQ at this
     rw[Bool.and_eq_true] at this
     simpa using this.2
    simp only at e
    cases hn:ql nw x0.1 with
    |true=>
     have hr:=oY.1 hn
     have:nmN nw d x0.1=400000+16 * d+ (x0.1 - 300000):=by unfold nmN;rw[hn]
     have hf:oD d nw y.1=true:=rn.2 (by rw[← e,this];omega)
     rw[hfy] at hf;cases hf
    |false=>
     have:nmN nw d x0.1=x0.1:=by unfold nmN;rw[hn]
     have hid:x0.1∈ids:=by
      have:=ix.1
      unfold mvP at this
      rw[Bool.or_eq_true,hn] at this
      exact d7.1 (this.resolve_right (by decide))
     rw[this] at e
     exact hyn (e ▸ hid)
  rcases List.mem_append.1 hx1 with hx1|hx1<;> rcases List.mem_append.1 hy1 with hy1|hy1
  ·exact hI1 x hx1 y hy1
  ·obtain⟨c1,c2⟩:=cross x hx1 y hy1
   exact⟨fun l1 l2 e=>absurd e (c1 l1 l2),fun e=>absurd e c2⟩
  ·obtain⟨c1,c2⟩:=cross y hy1 x hx1
   exact⟨fun l1 l2 e=>absurd e.symm (c1 l2 l1),fun e=>absurd e.symm c2⟩
  ·obtain⟨a1,a2⟩:=hrb x hx1
   obtain⟨b1,b2⟩:=hrb y hy1
   rw[a1,a2,b1,b2]
   exact hI2 x hx1 y hy1
 refine⟨hin,fun F X tm hs=> ?_⟩
 refine hs.le2 rfl (fun t u' hu=>⟨u',?_,.refl _⟩) (fun q cs' hq=>⟨cs',?_,LeL.refl _⟩) (fun p hp=> ?_)
 ·show look (((dT (σ.to E.toEnc ρ) [] (hTo E.toEnc ρ (dropHH ids σ.h)) (hTo E.toEnc ρ' (hh z))).put d ((u z).to E.toEnc ρ')).t) t=some u'
  simp only[AS.put,ab] at hu ⊢
  split at hu
  ·rename_i e;rw[if_pos e];exact hu
  ·rename_i e
   rw[if_neg e]
   have hu':look (tTo E.toEnc (mvR ρ ρ' mvs nw d) (vZ (fun u=>u.ids (mvQ mvs nw d)) [] σ.t)) t=some u':=hu
   rw[bD] at hu'
   obtain⟨v,hv,rfl⟩:=Option.map_eq_some_iff.1 hu'
   obtain⟨q1,q2,_⟩:=tn hv
   show look (tTo E.toEnc ρ σ.t) t=_
   rw[bD,q1,Option.map_some,TV.ids_to hrest q2]
 ·show look ((hTo E.toEnc ρ' (hh z))++hTo E.toEnc ρ (dropHH ids σ.h)) q=some cs'
  have hq':look (hTo E.toEnc (mvR ρ ρ' mvs nw d) (pU (nmN nw d) (hh z)++dropHH ids σ.h)) q=some cs':=hq
  rw[sS,e1,e2] at hq'
  exact hq'
 ·obtain⟨hp1,hp2⟩:=List.mem_filter.1 hp
  refine List.mem_filter.2 ⟨?_,hp2⟩
  have hp1':p∈eTo (mvR ρ ρ' mvs nw d) (lm σ.e):=hp1
  obtain⟨q,hq1,rfl⟩:=List.mem_map.1 hp1'
  have hq2:=(List.mem_filter.1 hq1).2
  show _∈(σ.to E.toEnc ρ).dropC.e
  have e4:(σ.to E.toEnc ρ).dropC.e=eTo ρ (lm σ.e):=iC σ.e
  rw[e4]
  refine List.mem_map.2 ⟨q,hq1,?_⟩
  obtain⟨a,b⟩:=q
  cases b with
  |s t=>rfl
  |c k o=>cases hq2
theorem BH{d:Nat}{f:FuncId}{us:List (TV E.T)}{x:XR E.T}(hi:Inj ρ σ.h)(hx:x.ok P f us σ.h)
  (run:∀ {post:AOut→List (Nat × List AV)→Prop} {ids:List Nat},b9 σ.h ids=true→ai P f (us.map (TV.to E.toEnc ρ)) (hTo E.toEnc ρ (cW σ.h ids)) post→(∀out H',post out H'→(∀k cs,look H' k=some cs→look (hTo E.toEnc ρ (dropHH ids σ.h)) k=none)→ra P Q ks l k rest d (dT (σ.to E.toEnc ρ) [] (hTo E.toEnc ρ (dropHH ids σ.h)) H') out)→aY P Q (.o l k (o::rest)::ks) (σ.to E.toEnc ρ))
  (h:(vF σ d x).holds (OnX P E Q ρ (.o l (k+1) rest::ks) ks)):aY P Q (.o l k (o::rest)::ks) (σ.to E.toEnc ρ):=by
 have goOn:∀ {ids:List Nat} {h':List (Nat × TB E.T)} {u:TV E.T},b9 σ.h ids=true→nvH (cW σ.h ids)=true→nvH h'=true→h'.map (·.1)=ids→On P E Q ρ (.o l (k+1) rest::ks) ((σ.give ids h').put d u)→ra P Q ks l k rest d (dT (σ.to E.toEnc ρ) [] (hTo E.toEnc ρ (dropHH ids σ.h)) (hTo E.toEnc ρ h')) (.ret (u.to E.toEnc ρ)):=fun {ids h' u} hg hk hv hm hq=>by
  have:=hq ρ (E8 hi hg hk hv hm) (Agr.refl ρ)
  rw[ce,Hd] at this
  exact this
 cases x with
 |bad=>cases h
 |ret ov ids u hh=>
  unfold vF at h
  simp only at h
  split at h
  ·rename_i hg
   rw[Bool.and_eq_true] at hg
   obtain⟨hg,hk⟩:=hg
   obtain⟨z,hz,h⟩:=h
   obtain⟨hm,hc⟩:=hx z hz
   refine run hg (hc ρ hi) ?_
   rintro out H' ⟨rfl,rfl⟩ _
   simp only at h
   split at h
   ·rename_i hv;exact goOn hg hk hv hm h
   ·cases h
  ·cases h
 |may ov ids u hh=>
  unfold vF at h
  simp only at h
  split at h
  ·rename_i hg
   rw[Bool.and_eq_true] at hg
   obtain⟨hg,hk⟩:=hg
   obtain⟨p,hp,h⟩:=h
   obtain⟨hm,hc⟩:=hx p hp
   refine run hg (hc ρ hi) ?_
   intro out H' ho _
   cases p with
   |ok z=>
    obtain⟨rfl,rfl⟩:=ho
    have h1:=h.1 z rfl
    simp only at h1
    split at h1
    ·rename_i hv;exact goOn hg hk hv (hm z rfl) h1
    ·cases h1
   |pan v=>
    subst ho
    exact F4.toK (h.2 v rfl)
  ·cases h
 |mv ov ids mvs nw u hh=>
  unfold vF at h
  simp only at h
  split at h
  ·rename_i hg
   simp only[Bool.and_eq_true] at hg
   obtain⟨⟨hg,hok⟩,hq⟩:=hg
   obtain⟨p,hp,h⟩:=h
   refine run hg (hx p hp ρ hi) ?_
   intro out H' ho hdis
   cases p with
   |pan v=>
    subst ho
    exact F4.toK (h.2 v rfl)
   |ok z=>
    obtain⟨ρ',h1,rfl,rfl,h4⟩:=ho
    have h5:=h.1 z rfl
    simp only at h5
    split at h5
    ·rename_i hP
     rw[Bool.and_eq_true] at hP
     obtain⟨hin,hsub⟩:=Hi (z:=z) hi hok hq h1 h4 hP hdis
     have h6:=h5 (mvR ρ ρ' mvs nw d) hin (HL hok)
     rw[ce,TV.ren_to (zj (ρ:=ρ) (ρ':=ρ') hok h1) hP.1] at h6
     exact C7 (jH rfl hsub h6)
    ·cases h5
  ·cases h
theorem Qx{u:TV E.T}{v:Value}(h:RC E u=some v):Oe (u.to E.toEnc ρ)=some v:=by
 unfold RC at h
 split at h
 ·rename_i hu
  rw[TV.ids_to (ρ:=Rn.zero) (ρ':=ρ) (fun i e=>by cases e) hu]
  exact h
 ·cases h
theorem DO{σ:AS}{op:BinOp}{neg:Bool}(hop:(op=.eql∧neg=false)∨(op=.neq∧neg=true)){d:Nat}{t ty yt e:TypeId}{x y:Operand}{pos:String}{af:Array Edge}{g:Option (Nat × Bool)}{C:Prop}(ht:P.underlying t=some (.slice e))(hx:∀F X (a:Act),SimE F X σ a.tmps→∃ (ad:Option Addr) (n c:Nat),a.eval x=.slice ad n c∧(ad.isNone=true→C))(hy:opV σ y=some (.v (.slice none 0 0)))(hd:Nat.ble (d+1) σ.n=true){R:AS→Prop}(hR:∀b,(b=true→C)→R (σ.put d (.v (.bool (b != neg))))):cy P ⟨some d,.binOp op t x y yt,ty,pos,af,g⟩ σ R:=by
 intro F X a hs
 have h2:=aL (hs.r (.binOp op t x y yt)) (by simp[Op.operands]) hy
 obtain⟨ad,n,c,e1,e2⟩:=hx F X a hs
 have hrun:(execOp a.eval ⟨some d,.binOp op t x y yt,ty,pos,af,g⟩).run P X.w=.ok (.value (.bool (ad.isNone != neg))) X.w:=by
  simp only[execOp,e1,h2]
  refine aW ?_
  have q:=Lib.run_eql_slice_nil X.w t e ad n c 0 0 ht
  rcases hop with ⟨rfl,rfl⟩| ⟨rfl,rfl⟩
  ·simp[eqGuard,q,go_sem]
  ·have q':(Op.equal t (.slice ad n c) (.slice none 0 0)).run P X.w=.ok ad.isNone X.w:=by
    simp[Op.equal,Op.maxDepth,Lib.run_equalIn_slice_nil X.w 9999 t e ad n c 0 0 ht]
   simp[eqGuard,binOp,go_sem,q']
 unfold jN
 rw[hrun]
 refine⟨X,_,rfl,hR ad.isNone e2,?_,Ext.refl F X⟩
 exact hs.put_new (ba hd) (New.refl X) hs.gb (.v _) (FreshOk.plain rfl)
theorem wZ{σ:AS}{op:BinOp}{neg:Bool}(hop:(op=.eql∧neg=false)∨(op=.neq∧neg=true)){d:Nat}{t ty yt e:TypeId}{x y:Operand}{pos:String}{af:Array Edge}{g:Option (Nat × Bool)}{ow:Bool}{sz:Nat}{L:List (List AV)}(ht:P.underlying t=some (.slice e))(hx:opV σ x=some (.sl ow sz L))(hy:opV σ y=some (.v (.slice none 0 0)))(hd:Nat.ble (d+1) σ.n=true){R:AS→Prop}(hR:∀b,(b=true→L=[])→R (σ.put d (.v (.bool (b != neg))))):cy P ⟨some d,.binOp op t x y yt,ty,pos,af,g⟩ σ R:=by
 refine DO hop ht (fun F X a hs=> ?_) hy hd hR
 have h1:=co (hs.r (.binOp op t x y yt)) (by simp[Op.operands]) hx
 generalize a.eval x=v at h1
 cases h1 with
 |nl _ _ ad c=>exact⟨ad,0,c,rfl,fun _=>rfl⟩
 |sl _ _ _ b off cap n c hg hn hc hs' hm hr=>exact⟨_,_,_,rfl,fun h=>by cases h⟩
theorem Qf{y:Operand}{ty:Ty}{k off n:Nat}(hy:AN (opT σ y)=some (ty,k,off,n)):∀F X (a:Act),SimE F X (σ.to E.toEnc ρ) a.tmps→∃ (ad:Option Addr) (m c:Nat),a.eval y=.slice ad m c∧(ad.isNone=true→n=0):=by
 intro F X a hs
 have key:∀v,opV (σ.to E.toEnc ρ) y=some (.v v)→a.eval y=v:=fun v h=>bF (bt hs h)
 unfold AN at hy
 split at hy
 ·rename_i t' k' off' n' hx
  cases hy
  have e:=key _ (ax (ρ:=ρ) hx)
  rw[e]
  unfold pn
  split
  ·rename_i hc
   rw[Bool.and_eq_true] at hc
   have:=Nat.eq_of_beq_eq_true hc.2
   exact⟨_,_,_,rfl,fun _=>by omega⟩
  ·exact⟨_,_,_,rfl,fun h=>by cases h⟩
 ·rename_i t' k' n' hx
  cases hy
  have e:=key _ (ax (ρ:=ρ) hx)
  rw[e]
  unfold vecV
  split
  ·rename_i hc
   rw[Bool.and_eq_true] at hc
   exact⟨_,_,_,rfl,fun _=>Nat.eq_of_beq_eq_true hc.2⟩
  ·exact⟨_,_,_,rfl,fun h=>by cases h⟩
 ·cases hy
theorem FO{op:BinOp}{neg:Bool}(h:QS op=some neg):(op=.eql∧neg=false)∨(op=.neq∧neg=true):=by
 cases op<;> cases h<;> simp
theorem PB(b neg:Bool):(nilV b neg:TV E.T).to E.toEnc ρ=.v (.bool (b != neg)):=by
 cases b<;> cases neg<;> rfl
theorem FW(hi:Inj ρ σ.h)(hG:GOk P Y E G)(ho:l[k]? =some o)(hw:bp l (σ.to E.toEnc ρ) o=some true)(h:(evX Y E G o σ).holds (OnX P E Q ρ (.o l (k+1) rest::ks) ks)):aY P Q (.o l k (o::rest)::ks) (σ.to E.toEnc ρ):=by
 have old:((wo Y E G o σ).bind fun σ'=>Tree.leaf (OL.st σ')).holds (OnX P E Q ρ (.o l (k+1) rest::ks) ks)→aY P Q (.o l k (o::rest)::ks) (σ.to E.toEnc ρ):=fun h=>OU (Y:=Y) hi hG ho hw (bo h)
 obtain⟨dst,op,ty,pos,af,g⟩:=o
 unfold evX at h
 simp only at h
 split at h
 ·rename_i d
  split at h
  ·rename_i hd
   split at h
   ·rename_i f xs ats
    split at h
    ·split at h
     ·rename_i us hx
      refine BH hi (rc hG.x f _ σ.h) (fun {post ids} hg hc hR=> ?_) h
      have hpa:=oU (jI (ρ:=ρ) hx) (i7 [] us (g8 _ _)) (fV _ _)
      refine I3 rfl hc ho hw hpa (jg _) (fun kk oo hm=>absurd (List.eq_of_mem_replicate hm) (by simp)) (pc hi ids) (fun kk cs hk=>by rw[lS];exact qa hi ids kk cs hk) hd ?_
      intro out H' hp hdis
      rw[iR]
      exact hR out H' hp hdis
     ·cases h
    ·exact old h
   ·rename_i s xs ats
    split at h
    ·rename_i f caps us hs hx
     split at h
     ·rename_i hcap
      refine BH hi (rc hG.x f _ σ.h) (fun {post ids} hg hc hR=> ?_) h
      have hpa:=oU (jI (ρ:=ρ) hx) (i7 [] us (g8 _ _)) (fV _ _)
      have hcaps:(caps.map (TV.a)).map (TV.to E.toEnc ρ)=caps.map (TA.to E.toEnc ρ):=by simp only[List.map_map];rfl
      rw[List.map_append,hcaps] at hc
      refine xx rfl (by simp only[TS.to,bD,hs];rfl) hc ho hw hpa ?_ (jg _) (mX _) (pc hi ids) (fun kk cs hk=>qa hi ids kk cs hk) hd ?_
      ·rw[List.all_eq_true]
       intro u hu
       obtain⟨x,hx1,rfl⟩:=List.mem_map.1 hu
       exact Option.isNone_iff_eq_none.2 (TA.plain_to _ _ (List.all_eq_true.1 hcap x hx1))
      ·intro out H' hp hdis
       rw[iR]
       exact hR out H' hp hdis
     ·cases h
    ·rename_i f is us hs hx
     refine BH hi (rc hG.x f _ σ.h) (fun {post ids} hg hc hR=> ?_) h
     have hpa:=oU (jI (ρ:=ρ) hx) (i7 [] us (g8 _ _)) (fV _ _)
     have hcaps:(is.map fun i=>(TV.a (.box i 0):TV E.T)).map (TV.to E.toEnc ρ)=is.map fun i=>AV.v (.pointer (some ⟨ρ i,0,none⟩)):=by simp only[List.map_map];rfl
     rw[List.map_append,hcaps] at hc
     refine xx rfl (by simp only[TS.to,bD,hs];rfl) hc ho hw hpa ?_ (jg _) (mX _) (pc hi ids) (fun kk cs hk=>qa hi ids kk cs hk) hd ?_
     ·rw[List.all_eq_true]
      intro u hu
      obtain⟨x,hx1,rfl⟩:=List.mem_map.1 hu
      rfl
     ·intro out H' hp hdis
      rw[iR]
      exact hR out H' hp hdis
    ·cases h
   ·rename_i op t x y yt
    split at h
    ·rename_i ty' l e hl hy ht
     obtain⟨ow,hx⟩:=qh (ρ:=ρ) hl
     refine dZ ho hw (wZ (.inl ⟨rfl,rfl⟩) (Y.tyOk _ _ ht) hx (ax (ρ:=ρ) hy) hd fun b hb=> ?_)
     cases b with
     |true=>
      have:=h.1 (by simpa using hb rfl) ρ hi (Agr.refl ρ)
      rw[ce] at this
      exact this
     |false=>
      have:=h.2 ρ hi (Agr.refl ρ)
      rw[ce] at this
      exact this
    ·rename_i ty' l e hl hy ht
     obtain⟨ow,hx⟩:=qh (ρ:=ρ) hl
     refine dZ ho hw (wZ (.inr ⟨rfl,rfl⟩) (Y.tyOk _ _ ht) hx (ax (ρ:=ρ) hy) hd fun b hb=> ?_)
     cases b with
     |true=>
      have:=h.1 (by simpa using hb rfl) ρ hi (Agr.refl ρ)
      rw[ce] at this
      exact this
     |false=>
      have:=h.2 ρ hi (Agr.refl ρ)
      rw[ce] at this
      exact this
    ·split at h
     ·rename_i ty' k' off n e neg hv hy ht hn
      split at h
      ·rename_i l hl
       refine dZ ho hw (DO (C:=n=0) (FO hn) (Y.tyOk _ _ ht) (Qf hv) (ax (ρ:=ρ) hy) hd fun b hb=> ?_)
       rw[← PB (E:=E) (ρ:=ρ)]
       cases b with
       |true=>
        have:=h.1 (by rw[hb rfl,List.take_zero]) ρ hi (Agr.refl ρ)
        rw[ce] at this
        exact this
       |false=>
        have:=h.2 ρ hi (Agr.refl ρ)
        rw[ce] at this
        exact this
      ·cases h
     ·exact old h
   ·exact old h
  ·cases h
 ·split at h
  ·rename_i x
   split at h
   ·rename_i u hx
    split at h
    ·rename_i v hv
     exact Nv ho hw (ax (ρ:=ρ) hx) (Qx hv) (F4.toK h)
    ·cases h
   ·cases h
  ·exact old h
theorem OnX.agr{its ks:List It}{ρ':Rn}(ha:Agr ρ ρ'):∀ {x:OL E.T},OnX P E Q ρ its ks x→OnX P E Q ρ' its ks x
 |.st σ,h=>fun ρ'' hi h'=>h ρ'' hi (ha.trans h')
 |.pan v,h=>h
theorem qZ(hG:GOk P Y E G)(l:List Oper):∀ (rest:List Oper) (k:Nat) (σ:TS E.T) (ρ:Rn),(∀ (i:Nat) o,rest[i]? =some o→l[k+i]? =some o)→k+rest.length=l.length→Inj ρ σ.h→(nK Y E G l rest σ).holds (OnX P E Q ρ ks ks)→aY P Q (.o l k rest::ks) (σ.to E.toEnc ρ)
 | [],k,σ,ρ,hl,hk,hi,h=>yf (by simpa using hk) (h ρ hi (Agr.refl ρ))
 |o::rest,k,σ,ρ,hl,hk,hi,h=>by
  have ho:l[k]? =some o:=by simpa using hl 0 o rfl
  have hl':∀ (i:Nat) o',rest[i]? =some o'→l[k+1+i]? =some o':=fun i o' hq=>by
   have:=hl (i+1) o' (by simpa using hq)
   rw[show k+1+i=k+ (i+1) by omega];exact this
  have hk':k+1+rest.length=l.length:=by simp only[List.length_cons] at hk;omega
  have next:∀ {t:Tree (TS E.T)},(t.bind (nK Y E G l rest)).holds (OnX P E Q ρ ks ks)→t.holds (On P E Q ρ (.o l (k+1) rest::ks)):=fun {t} h=>
   (bo h).mono fun σ' hσ ρ' hi' ha=>qZ hG l rest (k+1) σ' ρ' hl' hk' hi' (hσ.mono fun x hx=>hx.agr ha)
  have nextX:∀ {t:Tree (OL E.T)},(t.bind (yA (nK Y E G l rest))).holds (OnX P E Q ρ ks ks)→t.holds (OnX P E Q ρ (.o l (k+1) rest::ks) ks):=fun {t} h=>
   (bo h).mono fun x hx=>by
    cases x with
    |st σ'=>exact fun ρ' hi' ha=>qZ hG l rest (k+1) σ' ρ' hl' hk' hi' (Tree.holds.mono (fun x hx=>OnX.agr ha hx) hx)
    |pan v=>exact hx
  simp only[nK] at h
  split at h
  ·rename_i hw
   exact FW (Y:=Y) hi hG ho (Bb hw) (nextX h)
  ·rename_i hw
   exact yJ hi ho (EM hw) (next h)
  ·rename_i hw
   exact MX hi ho (Bg hw) (next h)
  ·rename_i b d hw
   obtain⟨h1,h2⟩:=rH (ρ:=ρ) hw
   cases hb:b with
   |true=>
    refine jH rfl (o3 (x:=.tt) (b:=b) (by rw[hb];rfl) h1) ?_
    exact FW (Y:=Y) (σ:=σ.know d .tt) hi hG ho (h2 true .tt fun _=>rfl) (nextX (h.1 hb))
   |false=>
    refine jH rfl (o3 (x:=.ff) (b:=b) (by rw[hb];rfl) h1) ?_
    exact yJ (σ:=σ.know d .ff) hi ho (h2 false .ff fun _=>rfl) (next (h.2 hb))
  ·rename_i b d hw
   obtain⟨h1,h2⟩:=rH (ρ:=ρ) hw
   cases hb:b with
   |true=>
    refine jH rfl (o3 (x:=.tt) (b:=b) (by rw[hb];rfl) h1) ?_
    exact yJ (σ:=σ.know d .tt) hi ho (h2 true .tt fun _=>rfl) (next (h.1 hb))
   |false=>
    refine jH rfl (o3 (x:=.ff) (b:=b) (by rw[hb];rfl) h1) ?_
    exact FW (Y:=Y) (σ:=σ.know d .ff) hi hG ho (h2 false .ff fun _=>rfl) (nextX (h.2 hb))
  ·cases h
def gR(σ σ':AS):Prop:=σ.n=σ'.n∧σ.h=σ'.h∧σ.e=σ'.e∧∀i,look σ.t i=look σ'.t i
theorem gR.opv{σ σ':AS}{u:AV}(h:gR σ σ')(ho:OpV P o σ' u):OpV P o σ u:=fun F X a hs=>ho F X a ⟨hs.gb,hs.fb,fun t u hm hu=>hs.slot t u hm (by rw[h.2.2.2];exact hu),fun k cs hk=>hs.box k cs (by rw[h.2.1];exact hk)⟩
theorem gR.put{σ σ':AS}(h:gR σ σ')(d:Nat)(u:AV):gR (σ.put d u) (σ'.put d u):=by
 obtain⟨h1,h2,h3,h4⟩:=h
 refine⟨h1,h2,by simp only[AS.put,h3],fun i=> ?_⟩
 simp only[AS.put,ab]
 rw[h4]
theorem gR.q{K:AS→Prop}(hK:∀σ σ',gR σ σ'→K σ'→K σ)(l:List Oper):∀ (rest:List Oper) (σ σ':AS),gR σ σ'→lz P l K rest σ'→lz P l K rest σ
 | [],σ,σ',h,hq=>hK σ σ' h hq
 |o::rest,σ,σ',h,hq=>by
  obtain⟨d,u,h1,h2,h3,h4⟩:=hq
  refine⟨d,u,h1,by rw[h.1];exact h2,?_,gR.q hK l rest _ _ (h.put d u) h4⟩
  have hw2:=(lJ (l:=l) (o:=o) h.1 fun j want d hg hd=>h.2.2.2 d).2
  have hw:bp l σ o=bp l σ' o:=r9 h.1 fun j want d hg hd=>h.2.2.2 d
  rcases h3 with ⟨k1,k2⟩|h3
  ·exact .inl ⟨by rw[hw];exact k1,h.opv k2⟩
  ·refine .inr ⟨?_,h3.2⟩
   rcases h3.1 with h5|h5
   ·exact .inl (by rw[hw];exact h5)
   ·exact .inr (by rw[hw2];exact h5)
theorem gR.know{d:Nat}{b:Bool}{x:TA E.T}(hx:x.to E.toEnc ρ=.v (.bool b))(hl:look σ.t d=some (.a (.d .bool b))):gR (σ.to E.toEnc ρ) ((σ.know d x).to E.toEnc ρ):=by
 refine⟨rfl,rfl,rfl,fun i=> ?_⟩
 show look (tTo E.toEnc ρ σ.t) i=look ((d,x.to E.toEnc ρ)::tTo E.toEnc ρ σ.t) i
 rw[ab]
 split
 ·rename_i e;subst e;rw[bD,hl,hx];rfl
 ·rfl
abbrev OnQ(P:Program)(E:Env)(ρ:Rn)(K:AS→Prop)(l:List Oper)(rest:List Oper)(h:List (Nat × TB E.T))(σ':TS E.T):Prop:=σ'.h=h→lz P l K rest (σ'.to E.toEnc ρ)
theorem Fz{K:AS→Prop}(hi:Inj ρ σ.h)(hG:GOk P Y E G)(hw:bp l (σ.to E.toEnc ρ) o=some true)(h:(evQ Y E G o σ).holds (OnQ P E ρ K l rest σ.h)):lz P l K (o::rest) (σ.to E.toEnc ρ):=by
 obtain⟨dst,op,ty,pos,af,g⟩:=o
 unfold evQ at h
 simp only at h
 have pick:∀ {d:Nat} {u:TV E.T},dst=some d→Nat.ble (d+1) σ.n=true→OpV P ⟨dst,op,ty,pos,af,g⟩ (σ.to E.toEnc ρ) (u.to E.toEnc ρ).rd→OnQ P E ρ K l rest σ.h (σ.put d u.rd)→lz P l K (⟨dst,op,ty,pos,af,g⟩::rest) (σ.to E.toEnc ρ):=by
  intro d u hdst hd hv hq
  refine BO hw hdst hd hv ?_
  have:=hq rfl
  rw[ce,TV.rd_to] at this
  exact this
 split at h
 ·rename_i d
  split at h
  ·rename_i hd
   split at h
   ·rename_i c x y
    split at h
    ·rename_i hc
     split at h
     ·rename_i u hu
      exact pick rfl hd (jZ (b:=true) (ax hc) rfl (ax hu)) h
     ·cases h
    ·rename_i hc
     split at h
     ·rename_i u hu
      exact pick rfl hd (ka (b:=false) (ax hc) rfl (ax hu)) h
     ·cases h
    ·rename_i b hc
     split at h
     ·rename_i u v hu hv
      cases hb:b with
      |true=>exact pick rfl hd (jZ (b:=b) (ax hc) hb (ax hu)) (h.1 hb)
      |false=>exact pick rfl hd (ka (b:=b) (ax hc) hb (ax hv)) (h.2 hb)
     ·cases h
    ·cases h
   ·rename_i t
    split at h
    ·rename_i e ty' h0 het
     split at h
     ·rename_i sz by_ hz
      split at h
      ·rename_i hs
       have hs':=kT hs
       subst hs'
       refine BO hw rfl hd (su (T:=Y) h0 hz) ?_
       have:=h rfl
       rw[ce] at this
       exact this
      ·cases h
     ·cases h
    ·cases h
   ·rename_i x y t u
    split at h
    ·rename_i ty' L e du hx h0 hu
     split at h
     ·rename_i sz by_ m hz hm
      split at h
      ·rename_i hc
       simp only[Bool.and_eq_true] at hc
       obtain⟨⟨hnz,hb⟩,hs⟩:=hc
       have hs':=kT hs
       subst hs'
       obtain⟨v,S,k1,k2,k3⟩:=uC (ρ:=ρ) hm
       have hnz':du=.string∨∃e',du=.slice e':=by cases du<;> first|exact .inl rfl|exact .inr ⟨_,rfl⟩|cases hnz
       by_cases hm0:m=[]
       ·have hq:=h.1 hm0
        refine BO hw rfl hd (zm (T:=Y) (L:=L.map (cells E.toEnc ty')) (ax (ρ:=ρ) hx) h0 hu hnz' hz k1 (by rw[k2,hm0];rfl) k3) ?_
        have:=hq rfl
        rw[ce] at this
        exact this
       ·obtain⟨r',hr,hq⟩:=h.2
        obtain⟨h1,h2⟩:=oV hr
        refine BO hw rfl hd (zE (T:=Y) (L:=L.map (cells E.toEnc ty')) (m:=m.map (cells E.toEnc ty')) (ax (ρ:=ρ) hx) h0 hu hnz' hz hb k1 k2 k3 (by simpa using h1) (by simpa using hm0)) ?_
        have:=hq rfl
        rw[ce,h2] at this
        have e2:(TV.a (TA.own ty' (L++m)):TV E.T).to E.toEnc ρ=.sl true (csz E.toEnc ty') (L.map (cells E.toEnc ty')++m.map (cells E.toEnc ty')):=by
         show AV.sl true _ (List.map _ (L++m))=_
         rw[List.map_append]
        rw[e2] at this
        exact this
      ·cases h
     ·cases h
    ·cases h
   ·have hok:=Fp (Y:=Y) (σ:=σ) (d:=some d) (ty:=ty) (pos:=pos) (af:=af) (g:=g) hi hG op
    unfold oN at h
    cases hp:evP Y E G σ op ty with
    |one u=>
     rw[hp] at h hok
     refine BO hw rfl hd hok ?_
     rw[← ce]
     exact h rfl
    |opt q u=>
     rw[hp] at h hok
     obtain⟨z,hz,h⟩:=h
     refine BO hw rfl hd (hok z hz) ?_
     rw[← ce]
     exact h rfl
    |bad=>rw[hp] at h;cases h
  ·cases h
 ·cases h
theorem xV{K:AS→Prop}(hw:bp l (σ.to E.toEnc ρ) o=some false)(h:(me E σ o).holds (OnQ P E ρ K l rest σ.h)):lz P l K (o::rest) (σ.to E.toEnc ρ):=by
 unfold me at h
 split at h
 ·rename_i d hd
  split at h
  ·rename_i hn
   refine zo hw hd hn ?_
   have:=h rfl
   rw[ce] at this
   exact this
  ·cases h
 ·cases h
theorem IV{K:AS→Prop}(hw:fT l (σ.to E.toEnc ρ) o=true)(h:(me E σ o).holds (OnQ P E ρ K l rest σ.h)):lz P l K (o::rest) (σ.to E.toEnc ρ):=by
 unfold me at h
 split at h
 ·rename_i d hd
  split at h
  ·rename_i hn
   refine C4 hw hd hn ?_
   have:=h rfl
   rw[ce] at this
   exact this
  ·cases h
 ·cases h
theorem wM{K:AS→Prop}(hK:∀σ σ',gR σ σ'→K σ'→K σ)(hG:GOk P Y E G)(l:List Oper)(H:List (Nat × TB E.T))(hi:Inj ρ H):∀ (rest:List Oper) (σ:TS E.T),σ.h=H→(uQ Y E G l rest σ).holds (fun σ'=>σ'.h=H→K (σ'.to E.toEnc ρ))→lz P l K rest (σ.to E.toEnc ρ)
 | [],σ,hh,h=>h hh
 |o::rest,σ,hh,h=>by
  have next:∀ {t:Tree (TS E.T)},(t.bind (uQ Y E G l rest)).holds (fun σ'=>σ'.h=H→K (σ'.to E.toEnc ρ))→t.holds (OnQ P E ρ K l rest σ.h):=fun {t} h=>
   (bo h).mono fun σ' hσ (hh':σ'.h=σ.h)=>wM hK hG l H hi rest σ' (hh'.trans hh) hσ
  have hi':Inj ρ σ.h:=hh ▸ hi
  simp only[uQ] at h
  split at h
  ·rename_i hw
   exact Fz (Y:=Y) hi' hG (Bb hw) (next h)
  ·rename_i hw
   exact xV (EM hw) (next h)
  ·rename_i hw
   exact IV (Bg hw) (next h)
  ·rename_i b d hw
   obtain⟨h1,h2⟩:=rH (ρ:=ρ) hw
   cases hb:b with
   |true=>
    refine gR.q hK l _ _ _ (gR.know (x:=.tt) (b:=b) (by rw[hb];rfl) h1) ?_
    exact Fz (Y:=Y) (σ:=σ.know d .tt) hi' hG (h2 true .tt fun _=>rfl) (next (h.1 hb))
   |false=>
    refine gR.q hK l _ _ _ (gR.know (x:=.ff) (b:=b) (by rw[hb];rfl) h1) ?_
    exact xV (σ:=σ.know d .ff) (h2 false .ff fun _=>rfl) (next (h.2 hb))
  ·rename_i b d hw
   obtain⟨h1,h2⟩:=rH (ρ:=ρ) hw
   cases hb:b with
   |true=>
    refine gR.q hK l _ _ _ (gR.know (x:=.tt) (b:=b) (by rw[hb];rfl) h1) ?_
    exact xV (σ:=σ.know d .tt) (h2 true .tt fun _=>rfl) (next (h.1 hb))
   |false=>
    refine gR.q hK l _ _ _ (gR.know (x:=.ff) (b:=b) (by rw[hb];rfl) h1) ?_
    exact Fz (Y:=Y) (σ:=σ.know d .ff) hi' hG (h2 false .ff fun _=>rfl) (next (h.2 hb))
  ·cases h
theorem vD{σ σ':AS}(h:gR σ σ'):oz σ σ':=fun F X tm hs=>hs.le2 h.1.symm (fun t u' hu=>⟨u',by rw[h.2.2.2];exact hu,.refl _⟩) (fun q cs' hq=>⟨cs',by rw[h.2.1];exact hq,LeL.refl _⟩) (fun p hp=>by rw[h.2.2.1];exact hp)
theorem vq{xs bs:Nat→Bool}{mu:List Nat}:∀ {l a b:List Oper},ye xs bs mu l=(a,b)→l=a++b
 | [],_,_,h=>by cases h;rfl
 |o::r,a,b,h=>by
  simp only[ye] at h
  split at h
  ·cases h;rfl
  ·cases hs:ye xs bs mu r with
   |mk a' b'=>
    rw[hs] at h
    cases h
    rw[vq hs];rfl
theorem gR.als{σ σ':AS}(h:gR σ σ')(m:List (Nat × Nat)):gR (σ.als m) (σ'.als m):=⟨h.1,h.2.1,by simp only[AS.als,h.2.2.1],h.2.2.2⟩
theorem EJ{m:List (Nat × Nat)}:oz ((σ.to E.toEnc ρ).als m) ((σ.alsT m).to E.toEnc ρ):=fun F X tm hs=>by
 refine hs.le2 rfl (fun t u' hu=>⟨u',hu,.refl _⟩) (fun q cs' hq=>⟨cs',hq,LeL.refl _⟩) (fun p hp=> ?_)
 have e:((σ.alsT m).to E.toEnc ρ).e=eTo ρ ((m.filter fun p=>Wc σ p.2).map (fun p=>(p.1,Root.s p.2))++σ.e):=rfl
 rw[e] at hp
 simp only[eTo,List.map_append,List.map_map] at hp
 simp only[AS.als,TS.to,eTo]
 rcases List.mem_append.1 hp with hp|hp
 ·obtain⟨q,hq,rfl⟩:=List.mem_map.1 hp
  exact List.mem_append_left _ (List.mem_map.2 ⟨q,(List.mem_filter.1 hq).1,rfl⟩)
 ·exact List.mem_append_right _ hp
theorem EH{kk:Nat}:∀ {h:List (Nat × TB E.T)},(∀p∈h,a8 ρ p.2=true→ρ p.1=ρ kk→p.1=kk)→hTo E.toEnc ρ (eu kk h)=eu (ρ kk) (hTo E.toEnc ρ h)
 | [],_=>rfl
 |p::r,hi=>by
  have ih:=EH (kk:=kk) (h:=r) fun q hq=>hi q (List.mem_cons_of_mem _ hq)
  obtain⟨k,b⟩:=p
  have e1:eu kk ((k,b)::r)=if k=kk then eu kk r else(k,b)::eu kk r:=rfl
  cases hl:a8 ρ b with
  |false=>
   rw[fH _ _ hl,← ih,e1]
   split
   ·rfl
   ·rw[fH _ _ hl]
  |true=>
   rw[dQ _ _ hl,e1]
   show _=if ρ k=ρ kk then eu (ρ kk) (hTo E.toEnc ρ r) else(ρ k,b.to E.toEnc ρ)::eu (ρ kk) (hTo E.toEnc ρ r)
   by_cases e:k=kk
   ·rw[if_pos e,if_pos (by rw[e]),ih]
   ·rw[if_neg e,if_neg (fun e2=>e (hi (k,b) List.mem_cons_self hl e2)),dQ _ _ hl,← ih]
theorem rf{α:Type}{kk:Nat}{p:Nat × α}:∀ {h:List (Nat × α)},p∈eu kk h→p∈h
 | [],h=>by cases h
 |q::r,h=>by
  simp only[eu] at h
  split at h
  ·exact List.mem_cons_of_mem _ (rf h)
  ·rcases List.mem_cons.1 h with rfl|h
   ·exact List.mem_cons_self
   ·exact List.mem_cons_of_mem _ (rf h)
theorem A4{σ σ':AS}{x:Operand}(h:∀t,Operand.tmp t=x→look σ.t t=look σ'.t t):opV σ x=opV σ' x:=by
 cases x with
 |tmp t=>exact h t rfl
 |const v=>rfl
 |func f=>rfl
 |global g=>rfl
theorem FV{σ1 σ2:AS}(h1:gR σ1 σ2)(H:List (Nat × List AV))(kk:Nat)(cs:List AV):gR ((σ1.withH H).setc kk cs) ((σ2.withH H).setc kk cs):=
 ⟨h1.1,rfl,by simp only[AS.setc,AS.dropC,AS.withH,h1.2.2.1],h1.2.2.2⟩
theorem M6{id:Nat}{ops:List Oper}{body after:List Oper}{om oa:Oper}(hm:P.follows .mixedOrders=true)(hG:GOk P Y E G)(hi:Inj ρ σ.h)(he:σ.e=[])(hl:ops=body++om::oa::after)(h:(NY Y E G ops body om oa after σ).holds (OnX P E Q ρ ks ks)):aY P Q (.c (.region id ops.toArray true)::ks) (σ.to E.toEnc ρ):=by
 obtain⟨dst,op,ty,pos,af,g⟩:=om
 unfold NY at h
 simp only at h
 split at h
 ·rename_i t x y
  split at h
  ·rename_i kk p0 n by_ hx hz
   split at h
   ·rename_i hB
    simp only[Bool.and_eq_true] at hB
    obtain⟨hB,hK0⟩:=hB
    have hdst:dst=none:=by
     simp only[xM,Bool.and_eq_true] at hB
     have:=hB.1.1.2.2
     simpa using this
    subst hdst
    obtain⟨b0,hb0,hnv⟩:=Jj hK0
    have hn0:hTo E.toEnc ρ (eu kk σ.h)=eu (ρ kk) (hTo E.toEnc ρ σ.h):=EH fun p hp hl e=>(hi p hp (kk,b0) (cI hb0)).1 hl (xu hnv) e
    have hn1:(σ.to E.toEnc ρ).withH (eu (ρ kk) (σ.to E.toEnc ρ).h)=(σ.withB (eu kk σ.h)).to E.toEnc ρ:=by
     show AS.mk _ _ _ _=AS.mk _ _ _ _
     rw[show(σ.withB (eu kk σ.h)).h=eu kk σ.h from rfl,hn0];rfl
    refine LT (k':=ρ kk) hm hl hB (by simp only[TS.to,he];rfl) ?_
    rw[hn1]
    refine wM (Y:=Y) (K:=fun σ'=>∃cs':List AV,(∀σ1:AS,σ1.n=(σ.to E.toEnc ρ).n→σ1.e=[] →σ1.h=(σ.to E.toEnc ρ).h→(∀t0,Operand.tmp t0∈(Oper.mk none (.store t x y) ty pos af g).op.operands.toList→look σ1.t t0=look σ'.t t0)→xN P ⟨none,.store t x y,ty,pos,af,g⟩ σ1 (σ1.setc (ρ kk) cs'))∧aY P Q (.o ops (body.length+1) (oa::after)::ks) (((σ'.withH (σ.to E.toEnc ρ).h).setc (ρ kk) cs').als (fp body))) (fun σ1 σ2 h1 ⟨cs',q1,q2⟩=>⟨cs',fun τ e1 e2 e3 e4=>q1 τ e1 e2 e3 fun t0 ht=>(e4 t0 ht).trans (h1.2.2.2 t0),jH rfl (vD (gR.als (FV h1 _ _ _) _)) q2⟩) hG ops (eu kk σ.h) (fun p hp q hq=>hi p (rf hp) q (rf hq)) body (σ.withB (eu kk σ.h)) rfl ?_
    refine(bo h).mono fun σ' hσ (hh:σ'.h=eu kk σ.h)=> ?_
    split at hσ
    ·rename_i k2 p hx2
     split at hσ
     ·rename_i hk2
      have hk2:=kT hk2
      subst hk2
      split at hσ
      ·rename_i cs hst
       unfold KK at hst
       split at hst
       ·rename_i cs0 u hb hy
        split at hst
        ·rename_i vs hvs
         split at hst
         ·rename_i hc
          cases hst
          simp only[Bool.and_eq_true] at hc
          obtain⟨c1,c2,c3,c4⟩:=yj (ρ:=ρ) hvs
          have hb':look σ.h k2=some (.cs cs0):=hb
          have hy':opT σ' y=some u:=hy
          refine⟨b7 (cs0.map (TA.to E.toEnc ρ)) p (u.to E.toEnc ρ).rd.cells,fun τ e1 e2 e3 e4=> ?_,?_⟩
          ·refine eY (P:=P) (T:=Y) (ty:=ty) (pos:=pos) (af:=af) (g:=g) ?_ (by rw[e3];exact lR hi hb') ?_ c1 hz (by rw[c2,List.length_map];exact hc.1) c3 c4 (by simpa using hc.2) (sB cs0)
           ·exact(A4 fun t0 ht=>e4 t0 (by rw[← ht];simp[Op.operands])).trans (ax (ρ:=ρ) hx2)
           ·exact(A4 fun t0 ht=>e4 t0 (by rw[← ht];simp[Op.operands])).trans (ax (ρ:=ρ) hy')
          ·have hle:=wP (E:=E) (ρ:=ρ) ((look E.ct t).getD []) vs
           refine jH rfl ?_ (jH rfl (EJ (σ:=(σ'.withB σ.h).setc k2 (spl cs0 p (wq ((look E.ct t).getD []) vs))) (m:=fp body)) (qZ (Y:=Y) hG ops (oa::after) (body.length+1) _ ρ (fun i o ho=> ?_) ?_ ?_ hσ))
           ·intro F X tm hs
            refine hs.le2 rfl (fun t u' hu=>⟨u',hu,.refl _⟩) (fun q cs' hq=> ?_) (fun pp hp=> ?_)
            ·have e:((((σ'.withB σ.h).setc k2 (spl cs0 p (wq ((look E.ct t).getD []) vs))).to E.toEnc ρ).als (fp body)).h=(ρ k2,(spl cs0 p (wq ((look E.ct t).getD []) vs)).map (TA.to E.toEnc ρ))::hTo E.toEnc ρ σ.h:=rfl
             rw[e,ab] at hq
             have e2:((((σ'.to E.toEnc ρ).withH (σ.to E.toEnc ρ).h).setc (ρ k2) (b7 (cs0.map (TA.to E.toEnc ρ)) p (u.to E.toEnc ρ).rd.cells)).als (fp body)).h=(ρ k2,b7 (cs0.map (TA.to E.toEnc ρ)) p (u.to E.toEnc ρ).rd.cells)::hTo E.toEnc ρ σ.h:=rfl
             rw[e2,ab]
             split at hq
             ·rename_i e3
              rw[if_pos e3]
              cases hq
              refine⟨_,rfl,?_⟩
              rw[re,c2]
              unfold b7
              rw[hle.length]
              exact((LeL.refl _).append hle).append (LeL.refl _)
             ·rename_i e3
              rw[if_neg e3]
              exact⟨cs',hq,LeL.refl _⟩
            ·simp only[AS.als] at hp ⊢
             rw[wT] at hp;exact hp
           ·rw[hl,List.getElem?_append_right (by omega),show body.length+1+i - body.length=i+1 by omega];simpa using ho
           ·rw[hl];simp only[List.length_append,List.length_cons];omega
           ·exact uu (σ:=σ'.withB σ.h) hi hb _
         ·cases hst
        ·cases hst
       ·cases hst
      ·cases hσ
     ·cases hσ
    ·cases hσ
   ·cases h
  ·cases h
 ·cases h
theorem HH{u:TV E.T}(h:IY u=true):∃x,u.to E.toEnc ρ=.v x:=by
 unfold IY at h
 split at h<;> first
  | (exact⟨_,rfl⟩)
  | (cases h;done)
  | (obtain⟨a,m,c,e⟩:=TA.vec_form E.toEnc ρ _ _ _;exact⟨_,e⟩)
  | (obtain⟨a,m,c,e⟩:=TA.vsl_form E.toEnc ρ _ _ _ _;exact⟨_,e⟩)
def stA{T:Nat→Type}(ρ:Rn)(H:List (Nat × TB T))(ids:List Nat)(b:Nat):Bool:=ids.any fun k=>match look H k with
 |some x=>a8 ρ x && Nat.beq (ρ k) b
 |none=>false
theorem IB{ids:List Nat}{H:List (Nat × TB E.T)}(hi:Inj ρ H)(hids:zu H ids=true){p:Nat × TB E.T}(hp:p∈H)(hl:a8 ρ p.2=true):ko ids p.1=stA ρ H ids (ρ p.1):=by
 rw[Bool.eq_iff_iff]
 unfold stA
 rw[d7,List.any_eq_true]
 constructor
 ·intro h
  refine⟨p.1,h,?_⟩
  have:=List.all_eq_true.1 hids p.1 h
  obtain⟨b,hb⟩:=Option.isSome_iff_exists.1 this
  have h2:=(hi (p.1,b) (cI hb) p hp).2 rfl
  simp only at h2
  rw[hb]
  simp only[h2,hl,Bool.true_and]
  exact Nat.beq_refl _
 ·rintro⟨k,hk,e⟩
  have:=List.all_eq_true.1 hids k hk
  obtain⟨b,hb⟩:=Option.isSome_iff_exists.1 this
  rw[hb] at e
  simp only[Bool.and_eq_true] at e
  have:=(hi (k,b) (cI hb) p hp).1 e.1 hl (Nat.eq_of_beq_eq_true e.2)
  simp only at this
  rw[← this];exact hk
theorem yY{f:Nat × TB E.T→Bool}{g:Nat × List AV→Bool}{H:List (Nat × TB E.T)}(h:∀p∈H,a8 ρ p.2=true→f p=g (ρ p.1,p.2.to E.toEnc ρ)):hTo E.toEnc ρ (H.filter f)=(hTo E.toEnc ρ H).filter g:=by
 unfold hTo
 rw[List.filter_map,List.filter_filter,List.filter_filter]
 congr 1
 refine List.filter_congr fun p hp=> ?_
 cases hl:a8 ρ p.2 with
 |false=>simp
 |true=>simp only[Function.comp,Bool.true_and,Bool.and_true];exact h p hp hl
theorem N7{ids:List Nat}{H:List (Nat × TB E.T)}(hi:Inj ρ H)(hids:zu H ids=true):hTo E.toEnc ρ (inH ids H)=(hTo E.toEnc ρ H).filter fun p=>stA ρ H ids p.1:=yY fun p hp hl=>IB hi hids hp hl
theorem PS{ids:List Nat}{H:List (Nat × TB E.T)}(hi:Inj ρ H)(hids:zu H ids=true):hTo E.toEnc ρ (Ed ids H)=(hTo E.toEnc ρ H).filter fun p=> !stA ρ H ids p.1:=yY fun p hp hl=>by rw[IB hi hids hp hl]
theorem He{T:Nat→Type}{ids:List Nat}{h:List (Nat × TB T)}:∀p∈inH ids h,p∈h:=fun p hp=>(List.mem_filter.1 hp).1
theorem Ke{T:Nat→Type}{ids:List Nat}{h:List (Nat × TB T)}:∀p∈Ed ids h,p∈h:=fun p hp=>(List.mem_filter.1 hp).1
theorem Inj.of_mem{T:Nat→Type}{ρ:Rn}{h h':List (Nat × TB T)}(hi:Inj ρ h)(hs:∀p∈h',p∈h):Inj ρ h':=hi.sub fun p hp=>⟨p,hs p hp,rfl,rfl⟩
def ldR(ρ:Rn)(ld:List (Nat × Nat × Nat)):List (Nat × Nat × Nat):=ld.map fun p=>(p.1,ρ p.2.1,p.2.2)
theorem Kd(ρ:Rn)(ld:List (Nat × Nat × Nat))(d:Nat):sL (ldR ρ ld) d=(sL ld d).map fun p=>(p.1,ρ p.2.1,p.2.2):=by
 unfold sL ldR
 rw[List.find?_map];rfl
theorem If{mB:Nat→Bool}{k:Nat}:(B3 mB k σ).to E.toEnc ρ=bst mB k (σ.to E.toEnc ρ):=by
 unfold B3 bst
 cases mB k<;> rfl
theorem Mu{mB:Nat→Bool}{k:Nat}(hi:Inj ρ σ.h):Inj ρ (B3 mB k σ).h:=by
 unfold B3
 cases mB k
 ·exact fun p hp=>by cases hp
 ·exact hi
theorem AC{s:Nat}{o:Oper}:Ab s o=true ↔ o.dst=some s:=by
 unfold Ab
 split
 ·rename_i d h;rw[h];simp[Nat.beq_eq]
 ·rename_i h;rw[h];simp
theorem MJ{fl:List Bool}{op:Op}{u:TV E.T}(h:mvN E l fl σ op=some u):∃s,op=.move (.tmp s)∧opT σ (.tmp s)=some u∧∀ (q:Nat) o',l[q]? =some o'→mNf fl q=true→o'.dst≠some s:=by
 unfold mvN at h
 split at h
 ·rename_i s
  split at h
  ·rename_i ha
   refine⟨s,rfl,h,fun q o' ho hm hd=> ?_⟩
   have:=List.all_eq_true.1 ha (o',q) (sU ho)
   simp only[hm,AC.2 hd] at this
   cases this
  ·cases h
 ·cases h
theorem Dl{op:Op}{kk p:Nat}{c:TA E.T}(h:Gc Y E σ op kk p=some c):∃t x dsc cs,op=.load t x∧opT σ x=some (.a (.box kk p))∧look Y.ty t=some dsc∧lf dsc=true∧look σ.h kk=some (.cs cs)∧cs[p]? =some c:=by
 unfold Gc at h
 split at h
 ·rename_i t x
  split at h
  ·rename_i k2 p2 dsc cs hx h0 hb
   split at h
   ·rename_i hc
    simp only[Bool.and_eq_true] at hc
    have e1:=Nat.eq_of_beq_eq_true hc.1.1
    have e2:=Nat.eq_of_beq_eq_true hc.1.2
    subst e1 e2
    exact⟨t,x,dsc,cs,rfl,hx,h0,hc.2,hb,h⟩
   ·cases h
  ·cases h
 ·cases h
theorem B4{K:AS→Prop}{fl:List Bool}{mB:Nat→Bool}{ld:List (Nat × Nat × Nat)}{H:List (Nat × TB E.T)}(hG:GOk P Y E G)(hi:Inj ρ H):∀ (rest:List Oper) (k:Nat) (σ:TS E.T),σ.h=H→(evN Y E G l fl mB ld k rest σ).holds (fun σ'=>K (σ'.to E.toEnc ρ))→tq P l (mNf fl) mB (ldR ρ ld) K k rest (σ.to E.toEnc ρ)
 | [],k,σ,hh,h=>h
 |o::rest,k,σ,hh,h=>by
  have hi':Inj ρ σ.h:=hh ▸ hi
  unfold evN at h
  unfold tq
  cases hm:mNf fl k with
  |false=>rw[hm] at h;exact B4 hG hi rest (k+1) σ hh h
  |true=>
   rw[hm] at h
   simp only at h
   obtain⟨dst,op,ty,pos,af,g⟩:=o
   simp only at h
   split at h
   ·rename_i d
    split at h
    ·rename_i hd
     have fin:∀ {u:TV E.T},OpV P ⟨some d,op,ty,pos,af,none⟩ (bst mB k (σ.to E.toEnc ρ)) (u.to E.toEnc ρ)→O4 P l (mNf fl) mB (ldR ρ ld) k (σ.to E.toEnc ρ) ⟨some d,op,ty,pos,af,none⟩ (u.to E.toEnc ρ)→(evN Y E G l fl mB ld (k+1) rest (σ.put d u)).holds (fun σ'=>K (σ'.to E.toEnc ρ))→∃d' u',some d=some d'∧(none:Option (Nat × Bool))=none∧Nat.ble (d'+1) (σ.to E.toEnc ρ).n=true∧OpV P ⟨some d,op,ty,pos,af,none⟩ (bst mB k (σ.to E.toEnc ρ)) u'∧O4 P l (mNf fl) mB (ldR ρ ld) k (σ.to E.toEnc ρ) ⟨some d,op,ty,pos,af,none⟩ u'∧tq P l (mNf fl) mB (ldR ρ ld) K (k+1) rest ((σ.to E.toEnc ρ).put d' u'):=fun {u} h1 h2 h3=>by
      refine⟨d,u.to E.toEnc ρ,rfl,rfl,hd,h1,h2,?_⟩
      have:=B4 hG hi rest (k+1) (σ.put d u) hh h3
      rw[ce] at this
      exact this
     split at h
     ·rename_i d' kk p hld
      split at h
      ·rename_i c hmb hc
       obtain⟨t,x,dsc,cs,rfl,hx,h0,h1,hb,hcp⟩:=Dl hc
       have e:(TV.a c.rd:TV E.T).to E.toEnc ρ=(c.to E.toEnc ρ).rd:=TA.rd_to _ _ _
       have hcs:(cs.map (TA.to E.toEnc ρ))[p]? =some (c.to E.toEnc ρ):=by simp[hcp]
       have hbk:bst mB k (σ.to E.toEnc ρ)=σ.to E.toEnc ρ:=by unfold bst;rw[hmb]
       refine fin (u:=.a c.rd) ?_ ⟨by rw[e];exact ef _,fun d2 hd2=> ?_⟩ h
       ·rw[e,hbk]
        exact kW (T:=Y) (ax (ρ:=ρ) hx) (lR hi' hb) hcs h0 h1 (TA.to_notMp _ _ _)
       ·cases hd2
        rw[Kd,hld,e]
        refine⟨hmb,?_⟩
        exact IU (T:=Y) (ax (ρ:=ρ) hx) (lR hi' hb) hcs h0 h1 (sB cs)
      ·cases h
     ·rename_i hld
      have hldn:∀d2,some d=some d2→sL (ldR ρ ld) d2=none:=fun d2 e=>by cases e;rw[Kd,hld];rfl
      split at h
      ·rename_i u hu
       obtain⟨s,rfl,hx,hs⟩:=MJ hu
       refine fin (u:=u.rd) ?_ ⟨by rw[TV.rd_to];exact ef _,fun d2 hd2=> ?_⟩ h
       ·rw[TV.rd_to]
        refine i6 (x:=.tmp s) ?_ (.inl rfl)
        have:=ax (ρ:=ρ) hx
        show look (bst mB k (σ.to E.toEnc ρ)).t s=_
        have e:(bst mB k (σ.to E.toEnc ρ)).t=(σ.to E.toEnc ρ).t:=by unfold bst;cases mB k<;> rfl
        rw[e];exact this
       ·rw[hldn d2 hd2]
        exact .inr ⟨s,rfl,hs⟩
      ·have hok:=Fp (Y:=Y) (σ:=B3 mB k σ) (d:=some d) (ty:=ty) (pos:=pos) (af:=af) (g:=none) (Mu hi') hG op
       cases hp:evP Y E G (B3 mB k σ) op ty with
       |one u=>
        rw[hp] at h hok
        simp only at h
        split at h
        ·rename_i hdet
         obtain⟨x,hx⟩:=HH (ρ:=ρ) hdet
         have hok':OpV P ⟨some d,op,ty,pos,af,none⟩ ((B3 mB k σ).to E.toEnc ρ) (u.to E.toEnc ρ):=hok
         rw[If] at hok'
         exact fin hok' ⟨by rw[hx];rfl,fun d2 hd2=>by rw[hldn d2 hd2];exact .inl ⟨x,hx⟩⟩ h
        ·cases h
       |opt q u=>
        rw[hp] at h hok
        obtain⟨z,hz,h⟩:=h
        simp only at h
        split at h
        ·rename_i hdet
         obtain⟨x,hx⟩:=HH (ρ:=ρ) hdet
         have hok':OpV P ⟨some d,op,ty,pos,af,none⟩ ((B3 mB k σ).to E.toEnc ρ) ((u z).to E.toEnc ρ):=hok z hz
         rw[If] at hok'
         exact fin hok' ⟨by rw[hx];rfl,fun d2 hd2=>by rw[hldn d2 hd2];exact .inl ⟨x,hx⟩⟩ h
        ·cases h
       |bad=>rw[hp] at h;cases h
    ·cases h
   ·cases h
def OnS(R:AS→Prop)(RP:Value→List (Nat × List AV)→Prop)(ρ:Rn):OL E.T→Prop
 |.st σ'=>Inj ρ σ'.h→R (σ'.to E.toEnc ρ)
 |.pan v=>RP v []
theorem uT{R:AS→Prop}{RP:Value→List (Nat × List AV)→Prop}{d:Nat}{f:FuncId}{us:List (TV E.T)}{x:XR E.T}(hi:Inj ρ σ.h)(hx:x.ok P f us σ.h)
  (run:∀ {post:AOut→List (Nat × List AV)→Prop} {ids:List Nat},ai P f (us.map (TV.to E.toEnc ρ)) (hTo E.toEnc ρ (cW σ.h ids)) post→(∀u H',post (.ret u) H'→R ((dT (σ.to E.toEnc ρ) [] (hTo E.toEnc ρ (dropHH ids σ.h)) H').put d u))→(∀v H',post (.pan v) H'→RP v [])→tT P o (σ.to E.toEnc ρ) R RP)
  (h:(HK σ d x).holds (OnS R RP ρ)):tT P o (σ.to E.toEnc ρ) R RP:=by
 have goOn:∀ {ids:List Nat} {h':List (Nat × TB E.T)} {u:TV E.T},b9 σ.h ids=true→nvH (cW σ.h ids)=true→nvH h'=true→h'.map (·.1)=ids→OnS R RP ρ (.st ((σ.give ids h').put d u))→R ((dT (σ.to E.toEnc ρ) [] (hTo E.toEnc ρ (dropHH ids σ.h)) (hTo E.toEnc ρ h')).put d (u.to E.toEnc ρ)):=fun {ids h' u} hg hk hv hm hq=>by
  have:=hq (E8 hi hg hk hv hm)
  rw[ce,Hd] at this
  exact this
 cases x with
 |bad=>cases h
 |mv ov ids mvs nw u hh=>cases h
 |ret ov ids u hh=>
  unfold HK vF at h
  simp only at h
  split at h
  ·rename_i hg
   rw[Bool.and_eq_true] at hg
   obtain⟨hg,hk⟩:=hg
   obtain⟨z,hz,h⟩:=h
   obtain⟨hm,hc⟩:=hx z hz
   simp only at h
   refine run (hc ρ hi) ?_ ?_
   ·rintro u' H' ⟨e,rfl⟩
    cases e
    split at h
    ·rename_i hv;exact goOn hg hk hv hm h
    ·cases h
   ·rintro v H' ⟨e,_⟩
    cases e
  ·cases h
 |may ov ids u hh=>
  unfold HK vF at h
  simp only at h
  split at h
  ·rename_i hg
   rw[Bool.and_eq_true] at hg
   obtain⟨hg,hk⟩:=hg
   obtain⟨p,hp,h⟩:=h
   obtain⟨hm,hc⟩:=hx p hp
   cases p with
   |ok z=>
    refine run (hc ρ hi) ?_ ?_
    ·rintro u' H' ⟨e,rfl⟩
     cases e
     have h1:=h.1 z rfl
     simp only at h1
     split at h1
     ·rename_i hv;exact goOn hg hk hv (hm z rfl) h1
     ·cases h1
    ·rintro v H' ⟨e,_⟩
     cases e
   |pan v=>
    refine run (hc ρ hi) ?_ ?_
    ·intro u' H' e
     cases e
    ·intro v' H' e
     cases e
     exact h.2 v rfl
  ·cases h
theorem Sa{R:AS→Prop}{RP:Value→List (Nat × List AV)→Prop}{all:Bool}(hi:Inj ρ σ.h)(hG:GOk P Y E G)(hR:all=true→Low R)(h:(evE Y E G all o σ).holds (OnS R RP ρ)):tT P o (σ.to E.toEnc ρ) R RP:=by
 have pure:∀ {d:Nat},o.dst=some d→Nat.ble (d+1) σ.n=true→((oN Y E G σ d o.op o.type).bind fun σ'=>Tree.leaf (OL.st σ')).holds (OnS R RP ρ)→tT P o (σ.to E.toEnc ρ) R RP:=fun {d} h1 h2 h3=>by
  refine zd (lq (Y:=Y) (R:=R) (A:=fun ρ'=>ρ'=ρ) hi hG rfl h1 h2 ?_)
  refine(bo h3).mono fun σ' hσ ρ' hi' e=> ?_
  subst e
  exact hσ hi'
 unfold evE at h
 split at h
 ·cases h
 ·rename_i hg
  split at h
  ·rename_i f xs ats hop
   split at h
   ·rename_i d hf hdst
    split at h
    ·rename_i us hd hx
     obtain⟨dst,op,ty,pos,af,g⟩:=o
     simp only at hop hdst hg
     subst hop hdst hg
     refine uT hi (rc hG.x f _ σ.h) (fun {post ids} hc hr hp=> ?_) h
     have hpa:=oU (jI (ρ:=ρ) hx) (i7 [] us (g8 _ _)) (fV _ _)
     refine I1 hc hpa (jg _) (fun kk oo hm=>absurd (List.eq_of_mem_replicate hm) (by simp)) (pc hi ids) (fun kk cs hk=>by rw[lS];exact qa hi ids kk cs hk) hd ?_ ?_ ?_
     ·intro u H' hp'
      rw[iR]
      exact hr u H' hp'
     ·intro v H' hp'
      exact⟨[],fun k cs hk=>by simp[av] at hk,hp v H' hp'⟩
     ·intro H'
      rw[iR];rfl
    ·cases h
   ·rename_i d hf hdst
    split at h
    ·rename_i hd
     exact pure hdst hd h
    ·cases h
   ·cases h
  ·split at h
   ·split at h
    ·rename_i hc
     refine zd (yx (Y:=Y) (R:=R) (A:=fun ρ'=>ρ'=ρ) hi hG (hR rfl) rfl (fun e=>by rw[hc] at e;cases e) ?_)
     refine(bo h).mono fun σ' hσ ρ' hi' e=> ?_
     subst e
     exact hσ hi'
    ·cases h
   ·rename_i d hdst
    split at h
    ·rename_i hd
     exact pure hdst hd h
    ·cases h
   ·cases h
theorem vi{n:Nat}{RP:Value→List (Nat × List AV)→Prop}{K:AS→Prop}(hK:Low K):∀l:List Oper,Low (pK P n RP K l)
 | [] =>hK
 |o::rest=>fun σ σ' hn hs h=>by
  refine⟨hn.trans h.1,fun F X a hsim=> ?_⟩
  rw[hn]
  exact h.2 F X a (hs _ _ _ hsim)
theorem Iq{K:AS→Prop}{RP:Value→List (Nat × List AV)→Prop}{all:Bool}{n:Nat}(hG:GOk P Y E G)(hK:all=true→Low K):∀ (cs:List Nat) (σ:TS E.T),Inj ρ σ.h→(Pi Y E G all n l cs σ).holds (OnS K RP ρ)→pK P n RP K (cs.filterMap fun i=>l[i]?) (σ.to E.toEnc ρ)
 | [],σ,hi,h=>h hi
 |c::cs,σ,hi,h=>by
  unfold Pi at h
  split at h
  ·rename_i o hn ho
   rw[List.filterMap_cons,ho]
   refine⟨Nat.eq_of_beq_eq_true hn,Sa (Y:=Y) hi hG (fun e=>vi (hK e) _) ?_⟩
   refine(bo h).mono fun x hx=> ?_
   cases x with
   |st σ'=>exact fun hi'=>Iq hG hK cs σ' hi' hx
   |pan v=>exact hx
  ·cases h
theorem Ht(m:List (Nat × Nat)):(σ.alsA m).to E.toEnc ρ=(σ.to E.toEnc ρ).als m:=by
 have e:eTo ρ (m.map (fun p=>(p.1,Root.s p.2))++σ.e)=m.map (fun p=>(p.1,Root.s p.2))++eTo ρ σ.e:=by
  unfold eTo
  rw[List.map_append,List.map_map];rfl
 show AS.mk _ _ _ _=AS.mk _ _ _ _
 congr 1
theorem Pd(ld:List (Nat × Nat × Nat)):(σ.alcT ld).to E.toEnc ρ=(σ.to E.toEnc ρ).alc (ldR ρ ld):=by
 have e:eTo ρ (ld.map (fun p=>(p.1,Root.c p.2.1 p.2.2))++σ.e)=(ldR ρ ld).map (fun p=>(p.1,Root.c p.2.1 p.2.2))++eTo ρ σ.e:=by
  unfold eTo ldR
  rw[List.map_append,List.map_map,List.map_map];rfl
 show AS.mk _ _ _ _=AS.mk _ _ _ _
 congr 1
theorem JQ:oz (σ.to E.toEnc ρ) (σ.ownE.to E.toEnc ρ):=fun F X tm hs=>by
 refine hs.le2 rfl (fun t u' hu=>⟨u',hu,.refl _⟩) (fun q cs' hq=>⟨cs',hq,LeL.refl _⟩) (fun p hp=> ?_)
 simp only[TS.to,TS.ownE,eTo,List.mem_map] at hp ⊢
 obtain⟨q,hq,rfl⟩:=hp
 exact⟨q,(List.mem_filter.1 hq).1,rfl⟩
theorem NV{fl:List Bool}{ld:List (Nat × Nat × Nat)}(h:JV l fl ld=true):((ldR ρ ld).map (·.1)).Nodup∧∀p∈ldR ρ ld,∃ (q:Nat) (o:Oper),l[q]? =some o∧mNf fl q=true∧o.dst=some p.1:=by
 unfold JV at h
 rw[Bool.and_eq_true] at h
 have e:(ldR ρ ld).map (·.1)=ld.map (·.1):=by unfold ldR;rw[List.map_map];rfl
 refine⟨by rw[e];exact of_decide_eq_true h.1,fun p hp=> ?_⟩
 obtain⟨p0,hp0,rfl⟩:=List.mem_map.1 hp
 have:=List.all_eq_true.1 h.2 p0 hp0
 obtain⟨q,hq,hc⟩:=List.any_eq_true.1 this
 rw[Bool.and_eq_true] at hc
 have hq':l[q.2]? =some q.1:=by
  have:=List.mem_zipIdx_iff_getElem?.1 hq
  simpa using this
 exact⟨q.2,q.1,hq',hc.1,AC.1 hc.2⟩
theorem EG{l:List Nat}{i:Nat}(h:ww l i=true):i∈l:=by
 induction l with
 |nil=>cases h
 |cons a r ih=>
  simp only[ww] at h
  first
   | (split at h
      ·rename_i e;rw[Nat.eq_of_beq_eq_true e];exact List.mem_cons_self
      ·exact List.mem_cons_of_mem _ (ih h))
   | (simp only [Bool.or_eq_true] at h
      rcases h with h|h
      ·have:=Nat.eq_of_beq_eq_true h;subst this;exact List.mem_cons_self
      ·exact List.mem_cons_of_mem _ (ih h))
theorem ta{L:Type}{K:L→Prop}:∀ {ts:List (Tree L)},(Pp ts).holds K→∀t∈ts,t.holds K
 | [],h,t,ht=>by cases ht
 | [t],h,t',ht=>by
   rw[List.mem_singleton] at ht
   subst ht;exact h
 |t::t2::r,h,t',ht=>by
  rcases List.mem_cons.1 ht with rfl|ht
  ·exact h.1 rfl
  ·exact ta (ts:=t2::r) h.2 t' ht
def OnA(R:AS→Prop)(RP:Value→List (Nat × List AV)→Prop)(ρ:Rn):OL E.T→Prop
 |.st σ'=>∀ρ',Inj ρ' σ'.h→Agr ρ ρ'→R (σ'.to E.toEnc ρ')
 |.pan v=>RP v []
theorem OnA.toS{R:AS→Prop}{RP:Value→List (Nat × List AV)→Prop}{x:OL E.T}(h:OnA R RP ρ x):OnS R RP ρ x:=by
 cases x with
 |st σ'=>exact fun hi=>h ρ hi (Agr.refl ρ)
 |pan v=>exact h
theorem IL{R:AS→Prop}{RP:Value→List (Nat × List AV)→Prop}{d:Nat}{f:FuncId}{us:List (TV E.T)}{x:XR E.T}(hi:Inj ρ σ.h)(hR:Low R)(hx:x.ok P f us σ.h)
  (run:∀ {post:AOut→List (Nat × List AV)→Prop} {ids:List Nat},ai P f (us.map (TV.to E.toEnc ρ)) (hTo E.toEnc ρ (cW σ.h ids)) post→(∀u H',post (.ret u) H'→(∀k cs,look H' k=some cs→look (hTo E.toEnc ρ (dropHH ids σ.h)) k=none)→R ((dT (σ.to E.toEnc ρ) [] (hTo E.toEnc ρ (dropHH ids σ.h)) H').put d u))→(∀v H',post (.pan v) H'→RP v [])→tT P o (σ.to E.toEnc ρ) R RP)
  (h:(vF σ d x).holds (OnA R RP ρ)):tT P o (σ.to E.toEnc ρ) R RP:=by
 cases x with
 |bad=>cases h
 |ret ov ids u hh=>exact uT hi hx (fun hc h1 h2=>run hc (fun u H' hp _=>h1 u H' hp) h2) (h.mono fun x hx=>hx.toS)
 |may ov ids u hh=>exact uT hi hx (fun hc h1 h2=>run hc (fun u H' hp _=>h1 u H' hp) h2) (h.mono fun x hx=>hx.toS)
 |mv ov ids mvs nw u hh=>
  unfold vF at h
  simp only at h
  split at h
  ·rename_i hg
   simp only[Bool.and_eq_true] at hg
   obtain⟨⟨hg,hok⟩,hq⟩:=hg
   obtain⟨p,hp,h⟩:=h
   cases p with
   |pan v=>
    refine run (hx _ hp ρ hi) (fun u' H' e=>by cases e) fun v' H' e=> ?_
    cases e
    exact h.2 v rfl
   |ok z=>
    refine run (hx _ hp ρ hi) (fun u' H' e hdis=> ?_) fun v' H' e=> ?_
    ·obtain⟨ρ',h1,e2,rfl,h4⟩:=e
     cases e2
     have h5:=h.1 z rfl
     simp only at h5
     split at h5
     ·rename_i hP
      rw[Bool.and_eq_true] at hP
      obtain⟨hin,hsub⟩:=Hi (z:=z) hi hok hq h1 h4 hP hdis
      have h6:=h5 (mvR ρ ρ' mvs nw d) hin (HL hok)
      rw[ce,TV.ren_to (zj (ρ:=ρ) (ρ':=ρ') hok h1) hP.1] at h6
      exact hR.low h6 hsub rfl
     ·cases h5
    ·obtain⟨ρ',h1,e2,_⟩:=e
     cases e2
  ·cases h
theorem Fx{R:AS→Prop}{RP:Value→List (Nat × List AV)→Prop}(hi:Inj ρ σ.h)(hG:GOk P Y E G)(hR:Low R)(h:(evA Y E G o σ).holds (OnA R RP ρ)):o.guard=none∧tT P o (σ.to E.toEnc ρ) R RP:=by
 have old:((wo Y E G o σ).bind fun σ'=>Tree.leaf (OL.st σ')).holds (OnA R RP ρ)→tT P o (σ.to E.toEnc ρ) R RP:=fun h=>
  zd (yx (Y:=Y) (R:=R) (A:=Agr ρ) hi hG hR (Agr.refl ρ) (fun _ d b hn=>Agr.updB hn) ((bo h).mono fun σ' hσ=>hσ))
 unfold evA at h
 split at h
 ·cases h
 ·rename_i hg
  refine⟨hg,?_⟩
  split at h
  ·rename_i f xs ats hop
   split at h
   ·rename_i d hf hdst
    split at h
    ·rename_i us hd hx
     obtain⟨dst,op,ty,pos,af,g⟩:=o
     simp only at hop hdst hg
     subst hop hdst hg
     refine IL hi hR (rc hG.x f _ σ.h) (fun {post ids} hc hr hp=> ?_) h
     have hpa:=oU (jI (ρ:=ρ) hx) (i7 [] us (g8 _ _)) (fV _ _)
     refine y8 hc hpa (jg _) (fun kk oo hm=>absurd (List.eq_of_mem_replicate hm) (by simp)) (pc hi ids) (fun kk cs hk=>by rw[lS];exact qa hi ids kk cs hk) hd ?_ ?_ ?_
     ·intro u H' hp' hdis
      rw[iR]
      exact hr u H' hp' hdis
     ·intro v H' hp'
      exact⟨[],fun k cs hk=>by simp[av] at hk,hp v H' hp'⟩
     ·intro H'
      rw[iR];rfl
    ·cases h
   ·exact old h
  ·exact old h
theorem Lt{n0:Nat}(hK:Low (fun τ=>aY P Q ks τ)):∀ (n:Nat) (done:List Nat),Low (Gj P Q ks l n0 n done)
 |0,done=>fun σ σ' hn hs h=>⟨h.1,hK σ σ' hn hs h.2⟩
 |n+1,done=>fun σ σ' hn hs h=>⟨fun e=>hK σ σ' hn hs (h.1 e),fun i hi o ho=>by
  obtain⟨h1,h2,h3⟩:=h.2 i hi o ho
  refine⟨hn.trans h1,h2,fun F X a hsim=> ?_⟩
  rw[hn]
  exact h3 F X a (hs _ _ _ hsim)⟩
theorem yl(l:List Oper):∀ (n:Nat) (done:List Nat),rX l n done≠[]
 |0,done=>by unfold rX;split<;> simp
 |n+1,done=>by
  unfold rX
  split
  ·simp
  ·rename_i h
   intro e
   cases hr:sb l done with
   |nil=>exact h hr
   |cons i r=>
    rw[hr,List.flatMap_cons] at e
    have:=(List.append_eq_nil_iff.1 e).1
    exact yl l n _ (List.map_eq_nil_iff.1 this)
theorem kl{L:Type}{A B:L→Prop}:∀ {t:Tree L},t.holds A→t.holds B→t.holds fun x=>A x∧B x
 |.leaf x,h,k=>⟨h,k⟩
 |.cond b s t,h,k=>⟨fun e=>kl (h.1 e) (k.1 e),fun e=>kl (h.2 e) (k.2 e)⟩
 |.bnd o f,⟨z,h1,h2⟩,⟨y,k1,k2⟩=>by
  rw[h1] at k1
  cases k1
  exact⟨z,h1,kl h2 k2⟩
 |.sm x f p,h,k=>⟨fun z e=>kl (h.1 z e) (k.1 z e),fun v e=>kl (h.2 v e) (k.2 v e)⟩
 |.nl l s t,h,k=>⟨fun e=>kl (h.1 e) (k.1 e),kl h.2 k.2⟩
 |.fail,h,k=>h
theorem sZ{L A:Type}{K:A→L→Prop}{t:Tree L}:∀ {w:List A},w≠[] →(∀a∈w,t.holds (K a))→t.holds fun x=>∀a∈w,K a x
 | [],h,_=>absurd rfl h
 | [a],_,h=>(h a List.mem_cons_self).mono fun x hx b hb=>by rw[List.mem_singleton] at hb;subst hb;exact hx
 |a::b::r,_,h=>(kl (h a List.mem_cons_self) (sZ (w:=b::r) (by simp) fun c hc=>h c (List.mem_cons_of_mem _ hc))).mono fun x hx c hc=>by
  rcases List.mem_cons.1 hc with rfl|hc
  ·exact hx.1
  ·exact hx.2 c hc
theorem HS{n0:Nat}(hG:GOk P Y E G)(hK:Low (fun τ=>aY P Q ks τ))(l:List Oper):∀ (n:Nat) (done:List Nat) (σ:TS E.T) (ρ:Rn),Inj ρ σ.h→(∀w∈rX l n done,(rM Y E G n0 l w σ).holds (OnX P E Q ρ ks ks))→Gj P Q ks l n0 n done (σ.to E.toEnc ρ)
 |0,done,σ,ρ,hi,h=>by
  unfold rX at h
  split at h
  ·rename_i e;exact⟨e,h [] List.mem_cons_self ρ hi (Agr.refl ρ)⟩
  ·have:=h _ List.mem_cons_self
   unfold rM at this
   split at this
   ·rename_i e1 e2;simp at e2
   ·cases this
 |n+1,done,σ,ρ,hi,h=>by
  unfold rX at h
  split at h
  ·rename_i e
   exact⟨fun _=>h [] List.mem_cons_self ρ hi (Agr.refl ρ),fun i hi'=>by rw[e] at hi';cases hi'⟩
  ·rename_i e
   refine⟨fun e'=>absurd e' (by simpa using e),fun i hi' o ho=> ?_⟩
   have hw:∀w∈rX l n (i::done),(rM Y E G n0 l (i::w) σ).holds (OnX P E Q ρ ks ks):=fun w hw=>h (i::w) (List.mem_flatMap.2 ⟨i,hi',List.mem_map_of_mem hw⟩)
   obtain⟨w0,hw0⟩:=List.exists_mem_of_ne_nil _ (yl l n (i::done))
   have hn:Nat.beq σ.n n0=true:=by
    have:=hw w0 hw0
    unfold rM at this
    split at this
    ·assumption
    ·cases this
   have hb:∀w∈rX l n (i::done),(evA Y E G o σ).holds fun x=>(yA (rM Y E G n0 l w) x).holds (OnX P E Q ρ ks ks):=fun w hw'=>by
    have:=hw w hw'
    unfold rM at this
    rw[hn,ho] at this
    exact bo this
   have:=Fx (Y:=Y) (R:=Gj P Q ks l n0 n (i::done)) (RP:=fun v H2=>Stk P Q ks (.panic [{ v:=v,recovered:=false }]) ⟨n0,[],H2,[]⟩) hi hG (Lt hK n _) ((sZ (yl l n (i::done)) hb).mono fun x hx=>by
    cases x with
    |st σ'=>exact fun ρ' hi2 ha=>HS hG hK l n (i::done) σ' ρ' hi2 fun w hw'=>Tree.holds.mono (fun y hy=>OnX.agr ha hy) (hx w hw')
    |pan v=>exact hx w0 hw0 _)
   exact⟨Nat.eq_of_beq_eq_true hn,this.1,this.2⟩
theorem Hg{id:Nat}{ops:List Oper}(hm:P.follows .mixedOrders=true)(hG:GOk P Y E G)(hi:Inj ρ σ.h)(h:(Jz Y E G ops σ).holds (OnX P E Q ρ ks ks)):aY P Q (.c (.region id ops.toArray true)::ks) (σ.to E.toEnc ρ):=by
 unfold Jz at h
 split at h
 ·refine xJ ?_
  refine R2 hm ?_
  refine HS (Y:=Y) hG (p8 rfl) ops ops.length [] σ ρ hi fun w hw=>(ta h _ (List.mem_map_of_mem hw)).mono fun x hx=> ?_
  cases x with
  |st σ'=>exact fun ρ' hi' ha=>yf rfl (hx ρ' hi' ha)
  |pan v=>exact hx
 ·cases h
theorem Ho{p:Nat→Prop}(hp:∀ (q:Nat) oq,l[q]? =some oq→p q→∀d∈bM oq,p d):∀ (n:Nat) (S:List Nat),(∀j∈S,p j)→∀j∈RA l n S,p j
 |0,S,h=>h
 |n+1,S,h=>Ho hp n _ (by
  split
  ·rename_i o h1 h2
   intro j hj
   rcases List.mem_append.1 hj with hj|hj
   ·exact hp n o h2 (h n (EG h1)) j hj
   ·exact h j hj
  ·exact h)
theorem DE{K:AS→Prop}{RP:Value→List (Nat × List AV)→Prop}{n:Nat}(hG:GOk P Y E G)(hK:Low K):∀ (cs:List Nat) (σ:TS E.T) (ρ:Rn),Inj ρ σ.h→(G7 Y E G n l cs σ).holds (OnA K RP ρ)→pK P n RP K (cs.filterMap fun i=>l[i]?) (σ.to E.toEnc ρ)
 | [],σ,ρ,hi,h=>h ρ hi (Agr.refl ρ)
 |c::cs,σ,ρ,hi,h=>by
  unfold G7 at h
  split at h
  ·rename_i o hn ho
   rw[List.filterMap_cons,ho]
   refine⟨Nat.eq_of_beq_eq_true hn,(Fx (Y:=Y) hi hG (vi hK _) ?_).2⟩
   refine(bo h).mono fun x hx=> ?_
   cases x with
   |st σ'=>
    intro ρ' hi' ha
    refine DE hG hK cs σ' ρ' hi' (Tree.holds.mono (fun y hy=> ?_) hx)
    cases y with
    |st τ=>exact fun ρ'' hi'' ha'=>hy ρ'' hi'' (ha.trans ha')
    |pan v=>exact hy
   |pan v=>exact hx
  ·cases h
theorem Fm{fl:List Bool}{done:List Nat}{i:Nat}:i∈E9 l fl done ↔ i < l.length∧mNf fl i=false∧i ∉ done∧∃o,l[i]? =some o∧∀d∈bM o,mNf fl d=false→d∈done:=by
 unfold E9
 rw[List.mem_filter,List.mem_range]
 constructor
 ·rintro⟨h1,h2⟩
  simp only[Bool.and_eq_true,Bool.not_eq_true'] at h2
  obtain⟨h2,h3,h4⟩:=h2
  refine⟨h1,h2,(fun hc=>by rw[i3.2 hc] at h3;cases h3),l[i],List.getElem?_eq_getElem h1,fun d hd hm=> ?_⟩
  rw[List.getElem?_eq_getElem h1] at h4
  have:=List.all_eq_true.1 h4 d hd
  rw[hm,Bool.false_or] at this
  exact i3.1 this
 ·rintro⟨h1,h2,h3,o,h4,h5⟩
  refine⟨h1,?_⟩
  have h6:yu done i=false:=by
   cases e:yu done i with
   |false=>rfl
   |true=>exact absurd (i3.1 e) h3
  rw[h2,h6,h4]
  simp only[Bool.not_false,Bool.true_and]
  refine List.all_eq_true.2 fun d hd=> ?_
  cases hm:mNf fl d with
  |true=>rfl
  |false=>rw[Bool.false_or];exact i3.2 (h5 d hd hm)
theorem NK{n:Nat}{RP:Value→List (Nat × List AV)→Prop}{K:AS→Prop}{mN:Nat→Bool}(hK:Low K):∀ (f:Nat) (done:List Nat),Low (Kh P n RP K l mN f done)
 |0,done=>fun σ σ' hn hs h=>⟨h.1,hK σ σ' hn hs h.2⟩
 |f+1,done=>fun σ σ' hn hs h=>⟨hn.trans h.1,fun e=>hK σ σ' hn hs (h.2.1 e),fun c o h1 h2 h3 h4 F X a hsim=>by
  rw[hn]
  exact h.2.2 c o h1 h2 h3 h4 F X a (hs _ _ _ hsim)⟩
theorem tY(l:List Oper)(fl:List Bool):∀ (n:Nat) (done:List Nat),si l fl n done≠[]
 |0,done=>by unfold si;split<;> simp
 |n+1,done=>by
  unfold si
  split
  ·simp
  ·rename_i h
   intro e
   cases hr:E9 l fl done with
   |nil=>exact h hr
   |cons i r=>
    rw[hr,List.flatMap_cons] at e
    exact tY l fl n _ (List.map_eq_nil_iff.1 (List.append_eq_nil_iff.1 e).1)
theorem C6{K:AS→Prop}{RP:Value→List (Nat × List AV)→Prop}{fl:List Bool}{n:Nat}(hG:GOk P Y E G)(hK:Low K):∀ (f:Nat) (done:List Nat) (σ:TS E.T) (ρ:Rn),Inj ρ σ.h→(∀w∈si l fl f done,(rM Y E G n l w σ).holds (OnA K RP ρ))→Kh P n RP K l (mNf fl) f done (σ.to E.toEnc ρ)
 |0,done,σ,ρ,hi,h=>by
  unfold si at h
  split at h
  ·rename_i ha
   refine⟨fun i hil hm=> ?_,h [] List.mem_cons_self ρ hi (Agr.refl ρ)⟩
   have:=List.all_eq_true.1 ha i (List.mem_range.2 hil)
   rw[hm,Bool.false_or] at this
   exact i3.1 this
  ·have:=h _ List.mem_cons_self
   unfold rM at this
   split at this
   ·rename_i e1 e2;simp at e2
   ·cases this
 |f+1,done,σ,ρ,hi,h=>by
  unfold si at h
  split at h
  ·have:=h _ List.mem_cons_self
   unfold rM at this
   split at this
   ·rename_i e1 e2;simp at e2
   ·cases this
  ·rename_i hx
   have hw:∀i∈E9 l fl done,∀w∈si l fl f (i::done),(rM Y E G n l (i::w) σ).holds (OnA K RP ρ):=fun i hi' w hw=>h (i::w) (List.mem_flatMap.2 ⟨i,hi',List.mem_map_of_mem hw⟩)
   have hn:∀i∈E9 l fl done,Nat.beq σ.n n=true:=fun i hi'=>by
    obtain⟨w0,hw0⟩:=List.exists_mem_of_ne_nil _ (tY l fl f (i::done))
    have:=hw i hi' w0 hw0
    unfold rM at this
    split at this
    ·assumption
    ·cases this
   cases hy:E9 l fl done with
   |nil=>exact absurd hy (by simpa using hx)
   |cons i0 r0=>
   have hi0:i0∈E9 l fl done:=hy ▸ List.mem_cons_self
   refine⟨Nat.eq_of_beq_eq_true (hn i0 hi0),fun hall=> ?_,fun c o hcd hm ho hd=> ?_⟩
   ·have:=Fm.1 hi0
    exact absurd (hall i0 this.1 this.2.1) this.2.2.1
   ·have hc:=Fm.2 ⟨(List.getElem?_eq_some_iff.1 ho).1,hm,hcd,o,ho,hd⟩
    obtain⟨w0,hw0⟩:=List.exists_mem_of_ne_nil _ (tY l fl f (c::done))
    have hb:∀w∈si l fl f (c::done),(evA Y E G o σ).holds fun x=>(yA (rM Y E G n l w) x).holds (OnA K RP ρ):=fun w hw'=>by
     have:=hw c hc w hw'
     unfold rM at this
     rw[hn c hc,ho] at this
     exact bo this
    exact(Fx (Y:=Y) hi hG (NK hK _ _) ((sZ (tY l fl f (c::done)) hb).mono fun x hx=>by
     cases x with
     |st σ'=>exact fun ρ' hi2 ha=>C6 hG hK f (c::done) σ' ρ' hi2 fun w hw'=>Tree.holds.mono (fun y hy=>by
         cases y with
         |st τ=>exact fun ρ'' hi3 ha'=>hy ρ'' hi3 (ha.trans ha')
         |pan v=>exact hy) (hx w hw')
     |pan v=>exact hx w0 hw0)).2
theorem Ps{id:Nat}{ops:List Oper}{fl:List Bool}(hm:P.follows .mixedOrders=true)(hG:GOk P Y E G)(hi:Inj ρ σ.h)(he:σ.e=[])(h:(RV Y E G ops σ fl).holds (OnX P E Q ρ ks ks)):aY P Q (.c (.region id ops.toArray true)::ks) (σ.to E.toEnc ρ):=by
 unfold RV at h
 split at h
 ·rename_i hB
  have f1:((σ.to E.toEnc ρ).h.filter fun p=>(fun _:Nat=>false) p.1)=[] :=List.filter_eq_nil_iff.2 fun _ _=>Bool.false_ne_true
  have f2:((σ.to E.toEnc ρ).h.filter fun p=> !(fun _:Nat=>false) p.1)=(σ.to E.toEnc ρ).h:=List.filter_eq_self.2 fun _ _=>rfl
  refine xJ ?_
  refine JD (st:=fun _=>false) (mN:=mNf fl) (fuel:=(tw 0 fl).length) hm (Mf hB) (by simp only[TS.to,he];rfl) ?_
  rw[f1,f2]
  have e1:(σ.to E.toEnc ρ).withH [] =(σ.withB []).to E.toEnc ρ:=rfl
  rw[e1]
  refine B4 (Y:=Y) (ld:=[]) hG (fun p hp=>by cases hp) ops 0 _ rfl ?_
  refine(bo h).mono fun σN hN=> ?_
  have e2:((σN.to E.toEnc ρ).withH (σ.to E.toEnc ρ).h).als (ly ops (mNf fl) 0 ops)=((σN.withB σ.h).alsA (ly ops (mNf fl) 0 ops)).to E.toEnc ρ:=by
   rw[Ht];rfl
  rw[e2]
  have e3:(fun σ2:AS=>aY P Q (.o [] 0 [] ::ks) (σ2.withH (σ2.h++ [])))=fun σ2=>aY P Q (.o [] 0 [] ::ks) σ2:=funext fun σ2=>by
   rw[List.append_nil];rfl
  rw[e3]
  refine C6 (Y:=Y) hG (p8 rfl) _ _ _ ρ hi fun w hw=>(ta hN _ (List.mem_map_of_mem hw)).mono fun x hx=> ?_
  cases x with
  |pan v=>exact⟨[],fun k cs hk=>by simp[av] at hk,hx _⟩
  |st σ'=>exact fun ρ' hi' ha=>yf rfl (hx ρ' hi' ha)
 ·cases h
theorem Pv{id:Nat}{ops:List Oper}(hm:P.follows .mixedOrders=true)(hG:GOk P Y E G)(hi:Inj ρ σ.h)(he:σ.e=[])(h:(RR Y E G ops σ).holds (OnX P E Q ρ ks ks)):aY P Q (.c (.region id ops.toArray true)::ks) (σ.to E.toEnc ρ):=by
 unfold RR at h
 split at h
 ·exact Hg (Y:=Y) hm hG hi h
 ·exact Ps (Y:=Y) hm hG hi he h
theorem LB{id:Nat}{ops:List Oper}{fl:List Bool}{ids cs1 cs2:List Nat}{ld:List (Nat × Nat × Nat)}(hm:P.follows .mixedOrders=true)(hG:GOk P Y E G)(hi:Inj ρ σ.h)(he:σ.e=[])(h:(L0 Y E G ops σ fl ids cs1 cs2 ld).holds (OnX P E Q ρ ks ks)):aY P Q (.c (.region id ops.toArray true)::ks) (σ.to E.toEnc ρ):=by
 unfold L0 at h
 split at h
 ·rename_i hB
  simp only[Bool.and_eq_true] at hB
  obtain⟨_,⟨hB,hids⟩,hld⟩:=hB
  obtain⟨hld1,hld2⟩:=NV (ρ:=ρ) hld
  refine xJ ?_
  refine KC (st:=stA ρ σ.h ids) (mN:=mNf fl) (mB:=mBf ops cs2) (ld:=ldR ρ ld) (cs1:=cs1) (cs2:=cs2) hm (QD hB) (fun i c o hmi hmb hc ho=> ?_) (by simp only[TS.to,he];rfl) hld1 hld2 ?_
  ·unfold mBf at hmb
   cases cs2 with
   |nil=>cases hc
   |cons c' r=>
    simp only[List.head?_cons,Option.some.injEq] at hc
    subst hc
    exact fun p hp hc=>Ho hp (c'+1) [c'] (fun j hj=>by rw[List.mem_singleton] at hj;subst hj;exact hc) i (EG hmb)
  ·have e1:(σ.to E.toEnc ρ).withH ((σ.to E.toEnc ρ).h.filter fun p=>stA ρ σ.h ids p.1)=(σ.withB (inH ids σ.h)).to E.toEnc ρ:=by
    show AS.mk _ _ _ _=AS.mk _ _ _ _
    rw[show(σ.withB (inH ids σ.h)).h=inH ids σ.h from rfl,N7 hi hids];rfl
   rw[e1]
   refine B4 (Y:=Y) hG (hi.of_mem He) ops 0 _ rfl ?_
   refine(bo h).mono fun σN hN=> ?_
   have e2:((σN.to E.toEnc ρ).withH ((σ.to E.toEnc ρ).h.filter fun p=> !stA ρ σ.h ids p.1)).als (ly ops (mNf fl) 0 ops)=((σN.withB (Ed ids σ.h)).alsA (ly ops (mNf fl) 0 ops)).to E.toEnc ρ:=by
    rw[Ht]
    congr 1
    show AS.mk _ _ _ _=AS.mk _ _ _ _
    rw[show(σN.withB (Ed ids σ.h)).h=Ed ids σ.h from rfl,PS hi hids];rfl
   rw[e2]
   refine Iq (Y:=Y) (all:=false) hG (fun e=>by cases e) cs1 _ (hi.of_mem Ke) ?_
   refine(bo hN).mono fun x hx=> ?_
   cases x with
   |pan v=>exact⟨[],fun k cs hk=>by simp[av] at hk,hx _⟩
   |st σ1=>
    intro hi1
    simp only[yA] at hx
    split at hx
    ·rename_i hs
     simp only[Bool.and_eq_true] at hs
     have hin:Inj ρ (σ1.h++inH ids σ.h):=hi.sub fun p hp=>by
      rcases List.mem_append.1 hp with hp|hp
      ·have:=List.all_eq_true.1 hs.1.1 p.1 (List.mem_map_of_mem hp)
       obtain⟨b,hb⟩:=Option.isSome_iff_exists.1 this
       have hno:=List.all_eq_true.1 hs.1.2 p hp
       have hou:(p.1,b)∈Ed ids σ.h:=List.mem_filter.2 ⟨cI hb,hno⟩
       exact⟨(p.1,b),cI hb,rfl,by rw[CG hs.2.1 hp];exact CG hs.2.2 hou ρ⟩
      ·exact⟨p,He p hp,rfl,rfl⟩
     have e3:((σ1.to E.toEnc ρ).withH ((σ1.to E.toEnc ρ).h++ (σ.to E.toEnc ρ).h.filter fun p=>stA ρ σ.h ids p.1)).alc (ldR ρ ld)=((σ1.withB (σ1.h++inH ids σ.h)).alcT ld).to E.toEnc ρ:=by
      rw[Pd]
      congr 1
      show AS.mk _ _ _ _=AS.mk _ _ _ _
      have:hTo E.toEnc ρ (σ1.h++inH ids σ.h)=hTo E.toEnc ρ σ1.h++hTo E.toEnc ρ (inH ids σ.h):=sS _ _ _ _
      rw[show(σ1.withB (σ1.h++inH ids σ.h)).h=σ1.h++inH ids σ.h from rfl,this,N7 hi hids];rfl
     rw[e3]
     refine(vi (p8 rfl) _).low ?_ JQ rfl
     refine DE (Y:=Y) hG (p8 rfl) cs2 _ ρ hin ?_
     refine hx.mono fun y hy=> ?_
     cases y with
     |pan v=>exact hy _
     |st σ3=>exact fun ρ3 hi3 ha3=>yf rfl (hy ρ3 hi3 ha3)
    ·cases hx
 ·exact Pv (Y:=Y) hm hG hi he h
theorem HU{id:Nat}{ops:List Oper}(hm:P.follows .mixedOrders=true)(hG:GOk P Y E G)(hi:Inj ρ σ.h)(h:(Qa Y E G ops σ).holds (OnX P E Q ρ ks ks)):aY P Q (.c (.region id ops.toArray true)::ks) (σ.to E.toEnc ρ):=by
 unfold Qa at h
 split at h
 ·rename_i he
  exact LB (Y:=Y) hm hG hi he h
 ·cases h
theorem TG{id:Nat}{ops:Array Oper}{draw:Bool}(hm:P.follows .mixedOrders=true)(hG:GOk P Y E G)(hi:Inj ρ σ.h)(h:(evR Y E G ops.toList draw σ).holds (OnX P E Q ρ ks ks)):aY P Q (.c (.region id ops draw)::ks) (σ.to E.toEnc ρ):=by
 have hops:ops=ops.toList.toArray:=by simp
 unfold evR at h
 split at h
 ·rw[hops]
  refine dM ?_
  exact qZ (Y:=Y) hG ops.toList ops.toList 0 σ ρ (fun i o ho=>by simpa using ho) (by simp) hi h
 ·split at h
  ·rename_i he
   split at h
   ·rename_i hB
    rw[hops]
    refine xJ ?_
    refine H6 hm hB (by simp only[TS.to,he];rfl) ?_
    refine wM (Y:=Y) (K:=fun σ'=>aY P Q (.o [] 0 [] ::ks) σ') (fun σ1 σ2 h1 h2=>jH rfl (vD h1) h2) hG ops.toList σ.h hi ops.toList σ rfl ?_
    exact(bo h).mono fun σ' hσ (hh:σ'.h=σ.h)=>yf rfl (hσ ρ (hh ▸ hi) (Agr.refl ρ))
   ·cases h
  ·rename_i body om after hsp he
   split at h
   ·rename_i hB
    have hl:=vq hsp
    rw[hops]
    refine Kv hm hl hB (by simp only[TS.to,he];rfl) ?_
    refine wM (Y:=Y) (K:=fun σ'=>aY P Q (.o ops.toList body.length (om::after)::ks) (σ'.als (fp body))) (fun σ1 σ2 h1 h2=>jH rfl (vD (h1.als _)) h2) hG ops.toList σ.h hi body σ rfl ?_
    refine(bo h).mono fun σ' hσ (hh:σ'.h=σ.h)=> ?_
    refine jH rfl EJ ?_
    refine qZ (Y:=Y) hG ops.toList (om::after) body.length (σ'.alsT (fp body)) ρ (fun i o ho=> ?_) ?_ (hh ▸ hi) hσ
    ·rw[hl,List.getElem?_append_right (by omega)];simpa using ho
    ·rw[hl];simp
   ·split at h
    ·split at h
     ·rw[hops]
      exact M6 (Y:=Y) hm hG hi he (vq hsp) h
     ·rw[hops]
      exact HU (Y:=Y) hm hG hi h
    ·rw[hops]
     exact HU (Y:=Y) hm hG hi h
  ·cases h
end
def qq(X:GW)(k:Nat)(cs:List AV):Prop:=X.g k=some cs.length∧∃ (arr:Array Value) (e:TypeId) (fr:Nat × Nat),X.w.heap[k]? =some (.cells arr e fr)∧arr.size=cs.length∧∀ (o:Nat) u x,cs[o]? =some u→arr[o]? =some x→Rel X u x
def AS.unbox(σ:AS)(k:Nat):AS:={ n:=σ.n,t:=σ.t,h:=σ.h.filter fun p=> !(p.1==k),e:=[] }
theorem SimE.freeze{F:Nat→Prop}{X:GW}{σ:AS}{tm:Array Value}{k:Nat}{cs:List AV}(h:SimE F X σ tm)(hb:look σ.h k=some cs)(hm:fx cs=false):
  ∃X':GW,X'.w=X.w∧SimE F X' (σ.unbox k) tm∧qq X' k cs∧Ext F X X':=by
 obtain⟨b1,b2,arr,el,fr,b3,b4,b5,b6⟩:=(h.box k cs hb).cells hm
 have hkl:k < X.w.heap.size:=(Array.getElem?_eq_some_iff.1 b3).1
 have hpres:mH X ⟨X.w,fun b=>if b=k then some cs.length else X.g b⟩:=fun b m hbm=>by
  have hbk:b≠k:=fun e=>by rw[e,b1] at hbm;cases hbm
  exact⟨m,Nat.le_refl _,by show(if b=k then _ else _)=_;rw[if_neg hbk];exact hbm,fun _ _=>rfl⟩
 have hown:∀ {sz':Nat} {l':List (List AV)} {x:Value},gl F X sz' l' x→gl F ⟨X.w,fun b=>if b=k then some cs.length else X.g b⟩ sz' l' x:=fun {sz' l' x} ho=>by
  rcases ho with h1| ⟨b,cap,cs',e',fr',h1,h2,h3,h4,h5,h6⟩
  ·exact .inl h1
  ·have hbk:b≠k:=fun e=>by rw[e,b1] at h2;cases h2
   exact .inr ⟨b,cap,cs',e',fr',h1,by show(if b=k then _ else _)=_;rw[if_neg hbk];exact h2,h3,h4,h5,h6⟩
 have owns:∀r sz' l',(σ.unbox k).own r=some (sz',l')→σ.own r=some (sz',l'):=fun r sz' l' ho=>by
  cases r with
  |s t=>exact ho
  |c k' o=>
   simp only[AS.unbox,AS.own] at ho
   cases hq:look (σ.h.filter fun p=> !(p.1==k)) k' with
   |none=>rw[hq] at ho;cases ho
   |some cs'=>
    obtain⟨q1,q2⟩:=g6 hq
    rw[hq] at ho
    simp only[AS.own,q2];exact ho
 refine⟨⟨X.w,fun b=>if b=k then some cs.length else X.g b⟩,rfl,⟨⟨h.size,fun b m hbm=> ?_,h.fb,fun t u hu=>(h.slot t u hu).mono hpres,fun k' cs' hk'=> ?_,fun x r hx=>by simp[AS.unbox,av] at hx,fun r sz' l' ho=> ?_,fun r r' s1 l1 s2 l2 a n1 c1 a' n2 c2 hne ho ho' hr hr'=> ?_⟩,fun p hp=>by cases hp⟩,⟨by show(if k=k then _ else _)=_;rw[if_pos rfl],arr,el,fr,b3,b4,fun o u x hu hx=>(b6 o u x hu hx).mono hpres⟩,rfl,rfl,rfl,Nat.le_refl _,fun b hF=>⟨rfl,?_⟩,hpres⟩
 ·simp only at hbm
  split at hbm
  ·rename_i e;rw[e];exact hkl
  ·exact h.gb b m hbm
 ·obtain⟨q1,q2⟩:=g6 hk'
  exact(h.box k' cs' q2).keep ⟨rfl,by show(if k'=k then _ else _)=_;rw[if_neg q1],(h.box k' cs' q2).nF⟩ hpres
 ·obtain⟨x,k1,k2⟩:=h.own r sz' l' (owns r sz' l' ho)
  exact⟨x,k1,hown k2⟩
 ·exact h.disj r r' s1 l1 s2 l2 a n1 c1 a' n2 c2 hne (owns _ _ _ ho) (owns _ _ _ ho') hr hr'
 ·show(if b=k then _ else _)=_
  rw[if_neg (fun e=>b2 (by rw[← e];exact hF))]
theorem qq.sl{X:GW}{k:Nat}{cs:List AV}(h:qq X k cs){sz:Nat}{L:List (List AV)}{sp:List AV}{c:Nat}(hcs:cs=L.flatten++sp)(hsz:∀r∈L,r.length=sz)(hc:L.length≤c):Rel X (.sl false sz L) (.slice (some ⟨k,0,none⟩) L.length c):=by
 obtain⟨h1,arr,e,fr,h2,h3,h4⟩:=h
 have hcell:∀ (i j:Nat) (r:List AV) (u:AV),L[i]? =some r→r[j]? =some u→∃x,arr[i * sz+j]? =some x∧Rel X u x:=fun i j r u hi hj=>by
  have k1:=tV hsz hi hj
  have k2:cs[i * sz+j]? =some u:=by rw[hcs,List.getElem?_append_left (List.getElem?_eq_some_iff.1 k1).1];exact k1
  have k3:i * sz+j < arr.size:=by rw[h3];exact(List.getElem?_eq_some_iff.1 k2).1
  exact⟨arr[i * sz+j],Array.getElem?_eq_getElem k3,h4 _ _ _ k2 (Array.getElem?_eq_getElem k3)⟩
 refine .sl false sz L k 0 c cs.length (fun i j=>arr.getD (i * sz+j) undef) h1 (by rw[hcs,List.length_append,mO hsz];omega) hc (fun i r hi=>hsz r (List.mem_of_getElem? hi)) (fun i j r u hi hj=> ?_) (fun i j r u hi hj=> ?_)
 ·obtain⟨x,k1,k2⟩:=hcell i j r u hi hj
  show X.w.cell? ⟨k,0+i * sz+j,none⟩=_
  simp only[World.cell?,h2,Nat.zero_add,Array.getD_eq_getD_getElem?,k1];rfl
 ·obtain⟨x,k1,k2⟩:=hcell i j r u hi hj
  rw[Array.getD_eq_getD_getElem?,k1]
  exact k2
theorem qq.el{X:GW}{k:Nat}{cs:List AV}(h:qq X k cs):Rel X (.el cs) (.pointer (some ⟨k,0,none⟩)):=by
 obtain⟨h1,arr,e,fr,h2,h3,h4⟩:=h
 have hcell:∀ (j:Nat) (u:AV),cs[j]? =some u→∃x,arr[j]? =some x∧Rel X u x:=fun j u hj=>by
  have k3:j < arr.size:=by rw[h3];exact(List.getElem?_eq_some_iff.1 hj).1
  exact⟨arr[j],Array.getElem?_eq_getElem k3,h4 _ _ _ hj (Array.getElem?_eq_getElem k3)⟩
 refine .el cs k 0 cs.length (fun j=>arr.getD j undef) h1 (by omega) (fun j u hj=> ?_) (fun j u hj=> ?_)
 ·obtain⟨x,k1,k2⟩:=hcell j u hj
  simp only[World.cell?,h2,Nat.zero_add,Array.getD_eq_getD_getElem?,k1];rfl
 ·obtain⟨x,k1,k2⟩:=hcell j u hj
  rw[Array.getD_eq_getD_getElem?,k1]
  exact k2
def tP{α:Type}(n:Nat)(l:List α):Option (List α):=if n=l.length then some l else none
theorem A7{α:Type}{n:Nat}{l r:List α}(h:tP n l=some r):r=l∧n=l.length:=by
 unfold tP at h
 split at h
 ·rename_i e;cases h;exact⟨rfl,e⟩
 ·cases h
def Vu{α:Type}(n c:Nat)(l:List α):Option (List α):=if n=l.length∧n≤c then some l else none
inductive Cl where
 |v (t:Ty)
 |b (n:Nat)
 |a (n:Nat)
inductive Pl where
 |s (s:Nat)
 |c (k o:Nat)
inductive Gh where
 |nl (p:Pl) (i:Nat) (t:Ty)
 |cl (i:Nat) (c:Cl) (p:Pl)
def OH(E:Env)(i:Nat)(c:Cl)(b:TB E.T)(x:TA E.T):Tree (TA E.T):=
 match c,b,x with
 |.v t,.vec i' t' l,.vec t2 i2 n=>match Nat.beq i' i && Nat.beq i2 i,kw (.sl t') (.sl t) l,decide (t2=t) with
  |true,some l',true=>.bnd (tP n l') fun r=>.leaf (.d (.sl t) r)
  |_,_,_=>.fail
 |.b n,.cs l,.box i2 0=>match Nat.beq i2 i,E.pk n (l.map TA.rd) with
  |true,some (z,[])=>.leaf (.d (.ptr (.nam n)) (some z))
  |_,_=>.fail
 |.a n,.row .bool l,.box i2 0=>match Nat.beq i2 i with
  |true=>.bnd (tP n l) fun r=>.leaf (.d (.ptr (.bits n)) (some r))
  |false=>.fail
 |.v .bool,.row .bool l,.bsl i2 0 n c=>match Nat.beq i2 i with
  |true=>.bnd (Vu n c l) fun r=>.leaf (.d (.sl .bool) r)
  |false=>.fail
 |_,_,_=>.fail
def ghT(E:Env)(g:Gh)(σ:TS E.T):Tree (TS E.T):=
 match g with
 |.nl (.s s) i t=>match look σ.t s,σ.noId i && !big i with
  |some (.a (.raw (.slice none 0 0))),true=>.leaf { n:=σ.n,t:=(s,.a (.vec t i 0))::σ.t,h:=(i,.vec i t [])::σ.h,e:=[] }
  |_,_=>.fail
 |.nl (.c k o) i t=>match look σ.h k,σ.noId i && !big i && !Nat.beq k i with
  |some (.cs cs),true=>match cs[o]? with
   |some (.raw (.slice none 0 0))=>.leaf { n:=σ.n,t:=σ.t,h:=(i,.vec i t [])::(k,.cs (cs.set o (.vec t i 0)))::σ.h,e:=[] }
   |_=>.fail
  |_,_=>.fail
 |.cl i c (.s s)=>match look σ.h i,look σ.t s with
  |some b,some (.a x)=>(OH E i c b x).bind fun y=>.leaf { n:=σ.n,t:=(s,.a y)::σ.t,h:=dropHH [i] σ.h,e:=[] }
  |_,_=>.fail
 |.cl i c (.c k o)=>match look σ.h i,look σ.h k,Nat.beq k i with
  |some b,some (.cs cs),false=>match cs[o]?,cs.all TA.plain with
   |some x,true=>(OH E i c b x).bind fun y=>.leaf { n:=σ.n,t:=σ.t,h:=(k,.cs (cs.set o y))::dropHH [i] σ.h,e:=[] }
   |_,_=>.fail
  |_,_,_=>.fail
def Ox(E:Env):List Gh→TS E.T→Tree (TS E.T)
 | [],σ=>.leaf σ
 |g::r,σ=>(ghT E g σ).bind (Ox E r)
section
variable {E:Env} {ρ:Rn}
theorem Rel.el_le{X:GW}{cs cs':List AV}{v:Value}(h:Rel X (.el cs) v)(hl:LeL cs cs'):Rel X (.el cs') v:=by
 cases h with
 |el _ b off n c hg hn hm hr=>
  refine .el cs' b off n c hg (by rw[← hl.length];exact hn) (fun j u hj=> ?_) (fun j u hj=> ?_)
  ·obtain⟨u0,k1,k2⟩:=hl.get j u hj
   exact hm j u0 k1
  ·obtain⟨u0,k1,k2⟩:=hl.get j u hj
   exact k2.rel (hr j u0 k1)
theorem O6(l:List Bool){X:GW}{i n c:Nat}(hn:n=l.length)(hc:n≤c)(hf:qq X i (l.map (one E.toEnc .bool))):Rel X (.sl false 1 (l.map fun b=>[AV.v (.bool b)])) (.slice (some ⟨i,0,none⟩) n c):=by
 have e7:l.map (one E.toEnc .bool)=(l.map fun b=>[AV.v (.bool b)]).flatten++ [] :=by
  rw[List.append_nil]
  clear hf hn
  induction l with
  |nil=>rfl
  |cons a r ih=>exact congrArg (AV.v (.bool a):: ·) ih
 have:=hf.sl (sz:=1) (L:=l.map fun b=>[AV.v (.bool b)]) (sp:=[]) (c:=c) e7 (fun q hq=>by
  obtain⟨z,_,rfl⟩:=List.mem_map.1 hq
  rfl) (by rw[List.length_map];omega)
 rw[List.length_map,← hn] at this
 exact this
theorem Lw{i:Nat}{c:Cl}{b:TB E.T}{x:TA E.T}{K:TA E.T→Prop}(h:(OH E i c b x).holds K):
  ∃y,K y∧y.plain=true∧∀ρ:Rn,fx (b.to E.toEnc ρ)=false∧∀X v,Rel X (x.to E.toEnc ρ) v→(a8 ρ b=true→qq X (ρ i) (b.to E.toEnc ρ))→Rel X (y.to E.toEnc ρ) v:=by
 unfold OH at h
 split at h
 ·rename_i t i' t' l t2 i2 n
  split at h
  ·rename_i l' h1 h2 h3
   rw[Bool.and_eq_true] at h1
   have e1:=Nat.eq_of_beq_eq_true h1.1
   have e2:=Nat.eq_of_beq_eq_true h1.2
   have e3:=of_decide_eq_true h3
   obtain⟨e4,rfl⟩:=em h2
   cases e4
   subst e1;subst e2;subst e3
   obtain⟨r,hr,hk⟩:=h
   obtain⟨e5,hn⟩:=A7 hr
   subst e5
   refine⟨_,hk,rfl,fun ρ=>⟨ge kj,fun X v hv hf=> ?_⟩⟩
   have e6:=bF hv
   subst e6
   show Rel X (.sl false (csz E.toEnc t2) (List.map (cells E.toEnc t2) r)) _
   unfold vecV
   split
   ·rename_i hc
    rw[Bool.and_eq_true] at hc
    have n0:=Nat.eq_of_beq_eq_true hc.2
    have:r=[] :=List.length_eq_zero_iff.1 (hn.symm.trans n0)
    subst this
    exact .nl _ _ _ _
   ·rename_i hc
    have hlive:a8 ρ (TB.vec i2 t2 r:TB E.T)=true:=by
     simp only[a8]
     cases hq:(ρ.k i2).nil && r.isEmpty with
     |false=>rfl
     |true=>
      rw[Bool.and_eq_true] at hq
      exfalso;apply hc
      rw[hq.1]
      have:r=[] :=List.isEmpty_iff.1 hq.2
      rw[hn,this];rfl
    have:=(hf hlive).sl (sz:=csz E.toEnc t2) (L:=List.map (cells E.toEnc t2) r) (sp:=(ρ.k i2).sp.map AV.v) (c:=n+ (ρ.k i2).sp.length / csz E.toEnc t2) rfl (fun q hq=>by
     obtain⟨z,_,rfl⟩:=List.mem_map.1 hq
     exact eK _ _ _) (by rw[List.length_map,hn];exact Nat.le_add_right _ _)
    rw[List.length_map,← hn] at this
    exact this
  ·cases h
 ·rename_i n l i2
  split at h
  ·rename_i z h1 h2
   have e1:=Nat.eq_of_beq_eq_true h1
   subst e1
   refine⟨_,h,rfl,fun ρ=>⟨ge fun u hu=> ?_,fun X v hv hf=> ?_⟩⟩
   ·obtain⟨a,_,rfl⟩:=List.mem_map.1 hu
    exact TA.to_notMp _ _ _
   ·have e6:=bF hv
    subst e6
    have hp:=E.pk_to n _ z [] ρ h2
    simp only[List.map_nil,List.append_nil] at hp
    have h3:=(hf rfl).el
    refine Rel.el_le (h3.el_le ?_) hp
    have:=lA (E:=E) (ρ:=ρ) (l.map TA.rd)
    refine(lA (E:=E) (ρ:=ρ) l).trans ?_
    rw[List.map_map] at this
    exact this
  ·cases h
 ·rename_i n l i2
  split at h
  ·rename_i h1
   have e1:=Nat.eq_of_beq_eq_true h1
   subst e1
   obtain⟨r,hr,hk⟩:=h
   obtain⟨e5,hn⟩:=A7 hr
   subst e5
   refine⟨_,hk,rfl,fun ρ=> ?_⟩
   have hfl:=kh (E:=E) (ρ:=ρ) (ty:=.bool) rfl r
   refine⟨ge fun u hu=> ?_,fun X v hv hf=> ?_⟩
   ·rw[hfl] at hu
    obtain⟨a,_,rfl⟩:=List.mem_map.1 hu
    exact oS _ _
   ·have e6:=bF hv
    subst e6
    have h3:=(hf rfl).el
    have e7:(TB.row .bool r:TB E.T).to E.toEnc ρ=cells E.toEnc (.bits n) r:=by
     rw[hfl]
     show _=(List.range n).map fun i=>AV.v (.bool (List.getD r i false))
     apply List.ext_getElem
     ·simp;exact hn.symm
     ·intro j k1 k2
      simp only[List.getElem_map,List.getElem_range]
      have:j < List.length r:=by simpa using k1
      have e8:∀ (q:List Bool) (hj:j < q.length),AV.v (.bool q[j])=AV.v (.bool (q.getD j false)):=fun q hj=>by
       rw[List.getD_eq_getElem?_getD,List.getElem?_eq_getElem hj];rfl
      exact e8 r this
    rw[e7] at h3
    exact h3
  ·cases h
 ·rename_i l i2 n c
  split at h
  ·rename_i h1
   have e1:=Nat.eq_of_beq_eq_true h1
   subst e1
   obtain⟨r,hr,hk⟩:=h
   unfold Vu at hr
   split at hr
   ·rename_i hn
    cases hr
    refine⟨_,hk,rfl,fun ρ=> ?_⟩
    have hfl:=kh (E:=E) (ρ:=ρ) (ty:=.bool) rfl l
    refine⟨ge fun u hu=> ?_,fun X v hv hf=> ?_⟩
    ·rw[hfl] at hu
     obtain⟨a,_,rfl⟩:=List.mem_map.1 hu
     exact oS _ _
    ·have e6:=bF hv
     subst e6
     have h3:=hf rfl
     rw[hfl] at h3
     exact O6 l hn.1 hn.2 h3
   ·cases hr
  ·cases h
 ·cases h
theorem m7{α:Type}{k j:Nat}:∀ {l:List (Nat × α)},j≠k→look (l.filter fun p=> !(p.1==k)) j=look l j
 | [],_=>rfl
 | (a,b)::r,h=>by
   rw[List.filter_cons]
   by_cases e:a=k
   ·rw[if_neg (by simp[e]),m7 h,ab,if_neg (fun e2=>h (e2.trans e))]
   ·rw[if_pos (by simpa using e),ab,ab,m7 h]
theorem nc{T:Nat→Type}{i j:Nat}(h:j≠i):∀ {l:List (Nat × TB T)},look (dropHH [i] l) j=look l j
 | [] =>rfl
 | (a,b)::r=>by
   simp only[dropHH]
   cases hm:ko [i] a with
   |true=>
    have:a=i:=by simpa using d7.1 hm
    rw[ab,if_neg (fun e=>h (e.trans this))]
    exact nc h
   |false=>rw[ab,ab,nc h]
theorem Kj{σ:TS E.T}{i:Nat}{b:TB E.T}(hi:Inj ρ σ.h)(hb:look σ.h i=some b)(hm:fx (b.to E.toEnc ρ)=false):
  Inj ρ (dropHH [i] σ.h)∧∀F X tm,SimE F X (σ.to E.toEnc ρ) tm→∃X':GW,X'.w=X.w∧SimE F X' ((⟨σ.n,σ.t,dropHH [i] σ.h,[]⟩:TS E.T).to E.toEnc ρ) tm∧(a8 ρ b=true→qq X' (ρ i) (b.to E.toEnc ρ))∧Ext F X X':=by
 have hi':Inj ρ (dropHH [i] σ.h):=hi.sub fun p hp=>⟨p,gL p hp,rfl,rfl⟩
 refine⟨hi',fun F X tm hs=> ?_⟩
 cases hl:a8 ρ b with
 |true=>
  obtain⟨X',h1,h2,h3,h4⟩:=hs.freeze (dc E.toEnc hi hb hl) hm
  refine⟨X',h1,h2.le3 rfl (fun t u hu=>⟨u,hu,.inl (.refl _)⟩) (fun k cs' hk=>⟨cs',?_,LeL.refl _⟩) (fun p hp=>by cases hp),fun _=>h3,h4⟩
  obtain⟨j,b',k1,k2,k3,k4⟩:=je hi' hk
  obtain⟨k5,k6⟩:=j8 k2
  subst k1;subst k3
  show look ((hTo E.toEnc ρ σ.h).filter _) _=_
  rw[m7]
  ·exact dc E.toEnc hi k5 k4
  ·intro e
   have:=(hi _ (cI k5) _ (cI hb)).1 k4 hl e
   exact k6 (by simp only at this;rw[this];exact List.mem_singleton_self _)
 |false=>
  refine⟨X,rfl,hs.le3 rfl (fun t u hu=>⟨u,hu,.inl (.refl _)⟩) (fun k cs' hk=>⟨cs',?_,LeL.refl _⟩) (fun p hp=>by cases hp),(fun e=>by cases e),Ext.refl F X⟩
  obtain⟨j,b',k1,k2,k3,k4⟩:=je hi' hk
  obtain⟨k5,k6⟩:=j8 k2
  subst k1;subst k3
  exact dc E.toEnc hi k5 k4
theorem RG{l:List (TA E.T)}(h:l.all TA.plain=true):fM (l.map (TA.to E.toEnc ρ)):=fun u hu=>by
 obtain⟨a,ha,rfl⟩:=List.mem_map.1 hu
 exact TA.plain_to _ _ (List.all_eq_true.1 h a ha)
theorem eg.set{F:Nat→Prop}{X:GW}{k o:Nat}{cs:List AV}{x y:AV}(h:eg F X k cs)(hx:cs[o]? =some x)(hr:∀v,Rel X x v→Rel X y v):eg F X k (cs.set o y):=by
 obtain⟨b1,b2,arr,e,fr,b3,b4,b5,b6⟩:=h
 refine⟨b1,b2,arr,e,fr,b3,by rw[List.length_set];exact b4,b5,fun j u v hu hv=> ?_⟩
 rw[List.getElem?_set] at hu
 split at hu
 ·rename_i e;subst e
  split at hu
  ·cases hu;exact hr v (b6 o x v hx hv)
  ·cases hu
 ·exact b6 j u v hu hv
def GhOk(σ τ:TS E.T):Prop:=∀ρ,Inj ρ σ.h→∃ρ',Agr ρ ρ'∧Inj ρ' τ.h∧∀F X tm,SimE F X (σ.to E.toEnc ρ) tm→∃X':GW,X'.w=X.w∧SimE F X' (τ.to E.toEnc ρ') tm∧Ext F X X'
theorem GhOk.refl(σ:TS E.T):GhOk σ σ:=fun ρ hi=>⟨ρ,Agr.refl ρ,hi,fun F X tm hs=>⟨X,rfl,hs,Ext.refl F X⟩⟩
theorem GhOk.trans{σ τ υ:TS E.T}(h:GhOk σ τ)(k:GhOk τ υ):GhOk σ υ:=fun ρ hi=>by
 obtain⟨ρ1,a1,i1,s1⟩:=h ρ hi
 obtain⟨ρ2,a2,i2,s2⟩:=k ρ1 i1
 refine⟨ρ2,a1.trans a2,i2,fun F X tm hs=> ?_⟩
 obtain⟨X1,w1,q1,e1⟩:=s1 F X tm hs
 obtain⟨X2,w2,q2,e2⟩:=s2 F X1 tm q1
 exact⟨X2,w2.trans w1,q2,e1.trans e2⟩
theorem Lj{i:Nat}{x:Bk}(h:(!big i)=true):Agr ρ (dA ρ i x):=fun j hj=>by
 unfold dA
 simp only
 rw[if_neg (fun e=>by rw[e] at hj;rw[hj] at h;cases h)]
theorem Aq{i:Nat}{t:Ty}{h:List (Nat × TB E.T)}:hTo E.toEnc (dA ρ i ⟨0,true,[]⟩) ((i,.vec i t [])::h)=hTo E.toEnc (dA ρ i ⟨0,true,[]⟩) h:=fH E.toEnc h (by simp[a8,dA])
theorem Sv{g:Gh}{σ:TS E.T}{K:TS E.T→Prop}(h:(ghT E g σ).holds K):∃τ,K τ∧GhOk σ τ:=by
 unfold ghT at h
 split at h
 ·rename_i s i t
  split at h
  ·rename_i hl hc
   rw[Bool.and_eq_true] at hc
   refine⟨_,h,fun ρ hi=>⟨dA ρ i ⟨0,true,[]⟩,Lj hc.2,iZ hi hc.1 fun e=> ?_,fun F X tm hs=>⟨X,rfl,?_,Ext.refl F X⟩⟩⟩
   ·simp[a8,dA] at e
   ·rw[← TS.updB_to (y:=⟨0,true,[]⟩) hc.1] at hs
    refine hs.le3 rfl (fun t' u hu=> ?_) (fun k cs' hk=>⟨cs',by rw[← hk];exact(congrArg (fun l=>look l k) Aq).symm,LeL.refl _⟩) (fun p hp=>by cases hp)
    simp only[TS.to,bD,ab] at hu ⊢
    split at hu
    ·rename_i e;subst e
     cases hu
     refine⟨_,by rw[hl];rfl,.inl ?_⟩
     show Le1 (.v (.slice none 0 0)) (.v (vecV _ _ _))
     simp[vecV,dA,pf]
     exact .refl _
    ·exact⟨u,hu,.inl (.refl _)⟩
  ·cases h
 ·rename_i k o i t
  split at h
  ·rename_i cs hl hc
   rw[Bool.and_eq_true,Bool.and_eq_true] at hc
   split at h
   ·rename_i ho
    have hki:k≠i:=fun e=>by rw[e] at hc;simp at hc
    refine⟨_,h,fun ρ hi=> ?_⟩
    have hn:(⟨σ.n,σ.t,(k,.cs (cs.set o (.raw (.slice none 0 0))))::σ.h,σ.e⟩:TS E.T).noId i=true:=by
     have h0:=hc.1.1
     unfold TS.noId at h0 ⊢
     simp only[Bool.and_eq_true] at h0 ⊢
     refine⟨⟨h0.1.1,?_⟩,h0.2⟩
     have:=List.all_eq_true.1 h0.1.2 _ (cI hl)
     simp only[List.all_cons,Bool.and_eq_true] at this ⊢
     refine⟨⟨this.1,?_⟩,h0.1.2⟩
     have e:cs.set o (.raw (.slice none 0 0))=cs:=by
      apply List.ext_getElem?
      intro j
      rw[List.getElem?_set]
      split
      ·rename_i e;subst e
       split
       ·exact ho.symm
       ·rename_i hlt;rw[List.getElem?_eq_none (by omega)]
      ·rfl
     rw[e];exact this.2
    have hi1:Inj ρ ((k,.cs (cs.set o (.raw (.slice none 0 0))))::σ.h):=kJ hi hl rfl
    have hi2:=iZ (b:=.vec i t []) (x:=⟨0,true,[]⟩) (σ:=⟨σ.n,σ.t,(k,.cs (cs.set o (.raw (.slice none 0 0))))::σ.h,σ.e⟩) hi1 hn (fun e=>by simp[a8,dA] at e)
    refine⟨dA ρ i ⟨0,true,[]⟩,Lj hc.1.2,hi2.sub fun p hp=> ?_,fun F X tm hs=>⟨X,rfl,?_,Ext.refl F X⟩⟩
    ·rcases List.mem_cons.1 hp with rfl|hp
     ·exact⟨_,List.mem_cons_self,rfl,rfl⟩
     ·rcases List.mem_cons.1 hp with rfl|hp
      ·exact⟨_,List.mem_cons_of_mem _ List.mem_cons_self,rfl,rfl⟩
      ·exact⟨p,List.mem_cons_of_mem _ (List.mem_cons_of_mem _ hp),rfl,rfl⟩
    ·rw[← TS.updB_to (y:=⟨0,true,[]⟩) hc.1.1] at hs
     refine hs.le3 rfl (fun t' u hu=>⟨u,hu,.inl (.refl _)⟩) (fun k' cs' hk=>⟨cs',?_,LeL.refl _⟩) (fun p hp=>by cases hp)
     have hk':look (hTo E.toEnc (dA ρ i ⟨0,true,[]⟩) ((k,.cs (cs.set o (.vec t i 0)))::σ.h)) k'=some cs':=by rw[← hk];exact(congrArg (fun l=>look l k') Aq).symm
     rw[dQ _ _ rfl,ab] at hk'
     split at hk'
     ·rename_i e
      subst e
      cases hk'
      have hi3:Inj (dA ρ i ⟨0,true,[]⟩) σ.h:=hi2.sub fun p hp=>⟨p,List.mem_cons_of_mem _ (List.mem_cons_of_mem _ hp),rfl,rfl⟩
      have:=dc E.toEnc hi3 hl rfl
      refine this.trans (congrArg some ?_)
      show cs.map _=(cs.set o (.vec t i 0)).map _
      apply List.ext_getElem?
      intro j
      rw[List.getElem?_map,List.getElem?_map,List.getElem?_set]
      split
      ·rename_i e;subst e
       have hlt:=(List.getElem?_eq_some_iff.1 ho).1
       rw[ho,if_pos hlt]
       simp[TA.to,vecV,dA,pf]
      ·rfl
     ·exact hk'
   ·cases h
  ·cases h
 ·rename_i i c s
  split at h
  ·rename_i b x hb hx
   obtain⟨y,hk,hy,hcl⟩:=Lw (bo h)
   refine⟨_,hk,fun ρ hi=> ?_⟩
   obtain⟨hm,hr⟩:=hcl ρ
   obtain⟨hi',h1⟩:=Kj hi hb hm
   refine⟨ρ,Agr.refl ρ,hi',fun F X tm hs=> ?_⟩
   obtain⟨X',h2,h3,h4,h5⟩:=h1 F X tm hs
   refine⟨X',h2,h3.retell rfl (fun t u hu=> ?_) (fun k cs' hk=>.inl ⟨cs',hk,LeL.refl _⟩) (fun p hp=>by cases hp),h5⟩
   simp only[TS.to,bD,ab] at hu ⊢
   split at hu
   ·rename_i e;subst e
    cases hu
    right
    refine⟨hr X' _ (h3.slot t _ ?_) h4,TA.plain_to _ _ hy⟩
    simp only[TS.to,bD,hx];rfl
   ·exact .inl ⟨u,hu,.inl (.refl _)⟩
  ·cases h
 ·rename_i i c k o
  split at h
  ·rename_i b cs hb hcs hne
   have hki:k≠i:=fun e=>by rw[e,Nat.beq_refl] at hne;cases hne
   split at h
   ·rename_i x hx hp
    obtain⟨y,hk,hy,hcl⟩:=Lw (bo h)
    refine⟨_,hk,fun ρ hi=> ?_⟩
    obtain⟨hm,hr⟩:=hcl ρ
    obtain⟨hi',h1⟩:=Kj hi hb hm
    have hlk:look (dropHH [i] σ.h) k=some (.cs cs):=by rw[nc hki];exact hcs
    refine⟨ρ,Agr.refl ρ,kJ hi' hlk rfl,fun F X tm hs=> ?_⟩
    obtain⟨X',h2,h3,h4,h5⟩:=h1 F X tm hs
    refine⟨X',h2,h3.retell rfl (fun t u hu=>.inl ⟨u,hu,.inl (.refl _)⟩) (fun k' cs' hk'=> ?_) (fun p hp=>by cases hp),h5⟩
    simp only[TS.to] at hk'
    rw[dQ _ _ rfl,ab] at hk'
    split at hk'
    ·rename_i e;subst e
     cases hk'
     right
     have hbx:=h3.box (ρ k) (cs.map (TA.to E.toEnc ρ)) (dc E.toEnc hi' hlk rfl)
     have hnm:fx (cs.map (TA.to E.toEnc ρ))=false:=ge fun u hu=>by
      obtain⟨a,_,rfl⟩:=List.mem_map.1 hu
      exact TA.to_notMp _ _ _
     have e2:(TB.cs (cs.set o y):TB E.T).to E.toEnc ρ=(cs.map (TA.to E.toEnc ρ)).set o (y.to E.toEnc ρ):=by
      show(cs.set o y).map _=_
      rw[List.map_set]
     rw[e2]
     refine⟨((hbx.cells hnm).set (by rw[List.getElem?_map,hx];rfl) fun v hv=>hr X' v hv h4).box,?_⟩
     rw[← List.map_set]
     refine RG (List.all_eq_true.2 fun a ha=> ?_)
     rcases List.mem_or_eq_of_mem_set ha with h6|h6
     ·exact List.all_eq_true.1 hp a h6
     ·rw[h6];exact hy
    ·exact .inl ⟨cs',hk',LeL.refl _⟩
   ·cases h
  ·cases h
theorem Ia:∀ {gs:List Gh} {σ:TS E.T} {K:TS E.T→Prop},(Ox E gs σ).holds K→∃τ,K τ∧GhOk σ τ
 | [],σ,K,h=>⟨σ,h,GhOk.refl σ⟩
 |g::r,σ,K,h=>by
  obtain⟨τ,h1,h2⟩:=Sv (bo h)
  obtain⟨υ,h3,h4⟩:=Ia h1
  exact⟨υ,h3,h2.trans h4⟩
end
def kZ:List Nat→Bool
 | [] =>true
 |a::r=> !ko r a && kZ r
theorem yi:∀ {l:List Nat},kZ l=true→l.Nodup
 | [],_=>List.nodup_nil
 |a::r,h=>by
  simp only[kZ,Bool.and_eq_true,Bool.not_eq_true'] at h
  exact List.nodup_cons.2 ⟨fun hm=>(by rw[d7.2 hm] at h;cases h.1),yi h.2⟩
def kN:List (Nat × Nat)→Nat→Option Nat
 | [],_=>none
 | (a,b)::r,i=>match Nat.beq i a with
   |true=>some b
   |false=>kN r i
def vR(nm:List (Nat × Nat)):List (Nat × Nat):=nm.map fun p=>(p.2,p.1)
def rO(nm:List (Nat × Nat))(i:Nat):Nat:=(kN nm i).getD i
def inK(nm:List (Nat × Nat))(i:Nat):Bool:=(kN nm i).isSome
theorem lj:∀ {nm:List (Nat × Nat)} {i j:Nat},kN nm i=some j→(i,j)∈nm
 | [],_,_,h=>by cases h
 | (a,b)::r,i,j,h=>by
   simp only[kN] at h
   cases e:Nat.beq i a with
   |true=>rw[e] at h;cases h;rw[Nat.eq_of_beq_eq_true e];exact List.mem_cons_self
   |false=>rw[e] at h;exact List.mem_cons_of_mem _ (lj h)
theorem kg:∀ {nm:List (Nat × Nat)} {i j:Nat},kZ (nm.map (·.2))=true→(i,j)∈nm→kN (vR nm) j=some i
 | [],_,_,_,h=>by cases h
 | (a,b)::r,i,j,hn,h=>by
   simp only[List.map_cons,kZ,Bool.and_eq_true,Bool.not_eq_true'] at hn
   simp only[vR,List.map_cons,kN]
   rcases List.mem_cons.1 h with h2|h2
   ·cases h2;rw[Nat.beq_refl]
   ·have hne:Nat.beq j b=false:=by
     cases e:Nat.beq j b with
     |false=>rfl
     |true=>
      have:=Nat.eq_of_beq_eq_true e
      subst this
      have:ko (r.map (·.2)) j=true:=d7.2 (List.mem_map.2 ⟨(i,j),h2,rfl⟩)
      rw[this] at hn;cases hn.1
    rw[hne]
    exact kg hn.2 h2
def Wv{T:Nat→Type}(h:List (Nat × TB T))(i:Nat):Bool:=(look h i).isSome
def yB{T:Nat→Type}(h:List (Nat × TB T)):List (Nat × Nat)→List (Nat × Nat)
 | [] =>[]
 |p::r=>match Wv h p.1 with
  |true=>p::yB h r
  |false=>yB h r
def DI(nm:List (Nat × Nat))(j:Nat):Nat:=(kN (vR nm) j).getD j
def okP(nm:List (Nat × Nat))(i:Nat):Bool:=inK nm i || !ko (nm.map (·.2)) i
def okN(nm:List (Nat × Nat)):Bool:=kZ (nm.map (·.2)) && nm.all fun p=> !big p.2
def Ef(ρ:Rn)(nm:List (Nat × Nat)):Rn:=⟨fun j=>match kN (vR nm) j with|some i=>ρ.k i|none=>ρ.k j⟩
theorem wj{nm:List (Nat × Nat)}{i:Nat}(h:ko (nm.map (·.2)) i=false):kN (vR nm) i=none:=by
 cases e:kN (vR nm) i with
 |none=>rfl
 |some j=>
  have:=lj e
  obtain⟨p,hp,hq⟩:=List.mem_map.1 this
  cases hq
  rw[d7.2 (List.mem_map.2 ⟨p,hp,rfl⟩)] at h
  cases h
theorem nT{ρ:Rn}{nm:List (Nat × Nat)}(h:okN nm=true):∀i,okP nm i=true→(Ef ρ nm).k (rO nm i)=ρ.k i:=fun i hi=>by
 unfold okN at h
 rw[Bool.and_eq_true] at h
 unfold Ef rO
 cases e:kN nm i with
 |some b=>simp only[Option.getD_some,kg h.1 (lj e)]
 |none=>
  unfold okP inK at hi
  rw[e] at hi
  simp only[Option.isSome_none,Bool.false_or,Bool.not_eq_true'] at hi
  simp only[Option.getD_none,wj hi]
theorem ER{nm:List (Nat × Nat)}(h:okN nm=true):∀i j,okP nm i=true→okP nm j=true→rO nm i=rO nm j→i=j:=fun i j hi hj e=>by
 have h1:=nT (ρ:=⟨fun k=>⟨k,false,[]⟩⟩) h i hi
 have h2:=nT (ρ:=⟨fun k=>⟨k,false,[]⟩⟩) h j hj
 rw[e,h2] at h1
 exact(congrArg Bk.b h1).symm
theorem E4{ρ:Rn}{nm:List (Nat × Nat)}(h:okN nm=true):Agr ρ (Ef ρ nm):=fun i hi=>by
 unfold okN at h
 rw[Bool.and_eq_true] at h
 unfold Ef
 simp only
 rw[wj]
 cases hm:ko (nm.map (·.2)) i with
 |false=>rfl
 |true=>
  obtain⟨p,hp,e⟩:=List.mem_map.1 (d7.1 hm)
  have:=List.all_eq_true.1 h.2 p hp
  rw[e,hi] at this;cases this
def TS.ren{T:Nat→Type}(m:Nat→Nat)(σ:TS T):TS T:={ n:=σ.n,t:=σ.t.map fun p=>(p.1,p.2.ren m),h:=pU m σ.h,e:=[] }
def Tf{T:Nat→Type}(nm:List (Nat × Nat))(σ:TS T):TS T:=match nm with
 | [] =>σ
 |_=>match okN nm && (σ.t.all fun q=>q.2.ids (okP nm)) && sM (okP nm) σ.h with
  |true=>σ.ren (rO nm)
  |false=>σ
def uW(E:Enc)(σ σ':TS E.T):Prop:=∀ρ,Inj ρ σ.h→∃ρ',Agr ρ ρ'∧Inj ρ' σ'.h∧oz (σ.to E ρ) (σ'.to E ρ')
theorem uW.of{E:Enc}{σ σ':TS E.T}(h:tg E σ σ'):uW E σ σ':=fun ρ hi=>⟨ρ,Agr.refl ρ,h ρ hi⟩
theorem uW.trans{E:Enc}{σ σ1 σ2:TS E.T}(h:uW E σ σ1)(k:uW E σ1 σ2):uW E σ σ2:=fun ρ hi=>by
 obtain⟨ρ1,a1,i1,s1⟩:=h ρ hi
 obtain⟨ρ2,a2,i2,s2⟩:=k ρ1 i1
 exact⟨ρ2,a1.trans a2,i2,s1.trans s2⟩
theorem MQ{E:Env}(nm:List (Nat × Nat))(σ:TS E.T):uW E.toEnc σ (Tf nm σ):=by
 unfold Tf
 split
 ·exact uW.of (tg.refl σ)
 ·split
  ·rename_i hc
   simp only[Bool.and_eq_true] at hc
   obtain⟨⟨h1,h2⟩,h3⟩:=hc
   intro ρ hi
   refine⟨Ef ρ nm,E4 h1,tx (nT h1) (ER h1) h3 hi,fun F X tm hs=> ?_⟩
   have et:tTo E.toEnc (Ef ρ nm) (σ.t.map fun p=>(p.1,p.2.ren (rO nm)))=tTo E.toEnc ρ σ.t:=by
    unfold tTo
    rw[List.map_map]
    exact List.map_congr_left fun p hp=>by
     simp only[Function.comp]
     rw[TV.ren_to (nT h1) (List.all_eq_true.1 h2 p hp)]
   have eh:hTo E.toEnc (Ef ρ nm) (pU (rO nm) σ.h)=hTo E.toEnc ρ σ.h:=tz (nT h1) h3
   refine hs.le3 rfl (fun t u hu=>⟨u,?_,.inl (.refl _)⟩) (fun k cs hk=>⟨cs,?_,LeL.refl _⟩) (fun p hp=>by cases hp)
   ·simp only[TS.to,TS.ren,et] at hu;exact hu
   ·simp only[TS.to,TS.ren,eh] at hk;exact hk
  ·exact uW.of (tg.refl σ)
def Ji{T:Nat→Type}(nm:List (Nat × Nat))(u:TV T)(h:List (Nat × TB T)):TV T × List (Nat × TB T):=match nm with
 | [] =>(u,h)
 |_=>match okN nm && u.ids (okP nm) && sM (okP nm) h with
  |true=>(u.ren (rO nm),pU (rO nm) h)
  |false=>(u,h)
theorem Pk{E:Env}(nm:List (Nat × Nat)){u:TV E.T}{h:List (Nat × TB E.T)}{ρ:Rn}(hi:Inj ρ h):∃ρ',Agr ρ ρ'∧Inj ρ' (Ji nm u h).2∧(Ji nm u h).1.to E.toEnc ρ'=u.to E.toEnc ρ∧hTo E.toEnc ρ' (Ji nm u h).2=hTo E.toEnc ρ h:=by
 unfold Ji
 split
 ·exact⟨ρ,Agr.refl ρ,hi,rfl,rfl⟩
 ·split
  ·rename_i hc
   simp only[Bool.and_eq_true] at hc
   obtain⟨⟨h1,h2⟩,h3⟩:=hc
   exact⟨Ef ρ nm,E4 h1,tx (nT h1) (ER h1) h3 hi,TV.ren_to (nT h1) h2,tz (nT h1) h3⟩
  ·exact⟨ρ,Agr.refl ρ,hi,rfl,rfl⟩
inductive It2 where
 |c (c:Code)
 |b (id:Nat)
 |l (c:Code)
 |r (id:Nat) (ops:Array Oper) (draw:Bool)
 |k (c:Code)
inductive RL (T:Nat→Type) where
 |ret (u:TV T) (h:List (Nat × TB T))
 |pan (v:Value)
inductive Lf (T:Nat→Type) where
 |go (ks:List It2) (σ:TS T)
 |done (r:RL T)
def Rs:List Nat→Nat→Bool
 | [],_=>false
 |k::r,i=>match Nat.beq i k with|true=>true|false=>Rs r i
structure Kp where
 t:List (Nat × Bool)
 p:List (Nat × Nat)
 h:List (Nat × (Option Nat × List Nat))
 m:List (Nat × Nat)
structure Lvs where
 r:List (Nat × Kp)
 l:List (Nat × Kp)
 cut:List Nat
 p:List (Nat × Nat)
 own:Bool
 ph:List (Nat × (Option Nat × List Nat))
 kb:List Nat
 g:List (Nat × List Gh)
 m:List (Nat × Nat)
def G6(E:Env)(i:Nat)(u:TV E.T):TV E.T:=
 match u with
 |.ag l=>match E.pk i l with
  |some (z,[])=>.ag (E.unp i z)
  |_=>u
 |u=>u
def Hy(E:Env)(ps:List (Nat × Nat)):List (Nat × TV E.T)→List (Nat × TV E.T)
 | [] =>[]
 | (k,u)::r=>(k,match look ps k with|some i=>G6 E i u|none=>u)::Hy E ps r
def Nx{T:Nat→Type}:TA T→TA T
 |.tt=>.d .bool true
 |.ff=>.d .bool false
 |x=>x
def Hw{T:Nat→Type}(ws:List Nat):Nat→List (TA T)→List (TA T)
 |_,[] =>[]
 |i,x::r=>(match Rs ws i with|true=>Nx x.rd|false=>Nx x)::Hw ws (i+1) r
def xl(E:Env)(m:Option Nat × List Nat)(b:TB E.T):TB E.T:=
 match b with
 |.cs l=>match m with
  | (some i,_)=>match E.pk i l with
    |some (z,[])=>.cs (E.unp i z)
    |_=>b
  | (none,ws)=>.cs (Hw ws 0 l)
 |b=>b
def Bc(E:Env)(ms:List (Nat × (Option Nat × List Nat))):List (Nat × TB E.T)→List (Nat × TB E.T)
 | [] =>[]
 | (k,b)::r=>(k,match look ms k with|some m=>xl E m b|none=>b)::Bc E ms r
def qL:Code→Nat
 |.region id _ _=>id
 |.seq a _=>qL a
 |.cond _ a _=>qL a
 |.block _ c=>qL c
 |.loop c=>qL c
 |_=>0
def D5:Code→Nat
 |.seq a _=>D5 a
 |.cond _ a _=>D5 a
 |.block _ c=>D5 c
 |.loop c=>D5 c+1
 |_=>0
def rg(c:Code):Nat:=qL c+1000 * D5 c
def TS.pack(E:Env)(σ:TS E.T)(k:Kp):TS E.T:={ n:=σ.n,t:=Hy E k.p σ.t,h:=Bc E k.h σ.h,e:=σ.e }
def pv(E:Env)(lv:List (Nat × Kp))(id:Nat)(σ:TS E.T):TS E.T:=
 match look lv id with
 |some k=>(Tf (yB σ.h k.m) (σ.canon k.t (k.h.map fun p=>DI (yB σ.h k.m) p.1))).pack E k
 |none=>σ
def UN(g:List (Nat × List Gh))(id:Nat):List Gh:=match look g id with
 |some l=>l
 |none=>[]
def sE(id:Nat):List It2→Option (List It2)
 | [] =>none
 |.c _::ks=>sE id ks
 |.l _::ks=>sE id ks
 |.b j::ks=>match Nat.beq id j with
  |true=>some ks
  |false=>sE id ks
 |_::_=>none
def SH{T:Nat→Type}:TV T→Option (TC T)
 |.a x=>match nrm (.a x.rd) with
  |.a y=>some (.a y)
  |_=>none
 |.ag l=>some (.ag l)
 |_=>none
def Fe{P:Program}{T:Nat→Type}(Y:Tys P)(σ:TS T):ResultVar→Option (TC T)
 |.tmp s=>match look σ.t s with
  |some u=>SH u
  |none=>none
 |.cell s ty=>match look σ.t s with
  |some (.a (.box k 0))=>match look σ.h k,look Y.ty ty with
   |some (.cs cs),some (.struct _)=>match look Y.sz ty with
    |some (n,_)=>match Nat.beq n cs.length with
     |true=>some (.ag (cs.map TA.rd))
     |false=>none
    |none=>none
   |some (.cs [c]),some d=>match lf d with
    |true=>some (.a (Nx c.rd))
    |false=>none
   |_,_=>none
  |_=>none
def Vv{T:Nat→Type}:TC T→TV T
 |.a x=>.a x
 |.ag l=>.ag l
def SI{P:Program}{T:Nat→Type}(Y:Tys P)(own:Bool)(rs:List ResultVar)(σ:TS T):Option (TV T):=
 match rs with
 | [.tmp t] =>match look σ.t t with
   |some u=>some (vW (!own) u)
   |none=>none
 | [r] =>match Fe Y σ r with
   |some x=>some (Vv x)
   |none=>none
 | [r,r'] =>match Fe Y σ r,Fe Y σ r' with
   |some x,some x'=>some (.tu [x,x'])
   |_,_=>none
 | [r,r',r''] =>match Fe Y σ r,Fe Y σ r',Fe Y σ r'' with
   |some x,some x',some x''=>some (.tu [x,x',x''])
   |_,_,_=>none
 | [] =>some (.tu [])
 |_=>none
section
variable {P:Program} (Y:Tys P) (E:Env) (G:Gam E) (lv:Lvs) (rs:List ResultVar)
def PT(σ:TS E.T):Tree (Lf E.T):=match SI Y lv.own rs (σ.pack E ⟨[],lv.p,lv.ph,[]⟩) with
 |some u=>.leaf (.done (.ret (Ji (yB σ.h lv.m) u (cW (σ.pack E ⟨[],lv.p,lv.ph,[]⟩).h (lv.kb.map (DI (yB σ.h lv.m))))).1 (Ji (yB σ.h lv.m) u (cW (σ.pack E ⟨[],lv.p,lv.ph,[]⟩).h (lv.kb.map (DI (yB σ.h lv.m))))).2))
 |none=>.fail
def stp:List It2→TS E.T→Tree (Lf E.T)
 | [],σ=>PT Y E lv rs σ
 |.b _::ks,σ=>.leaf (.go ks σ)
 |.l c::ks,σ=>.leaf (.go (.k c::ks) (pv E lv.l (rg c) σ))
 |.k c::ks,σ=>.leaf (.go (.c c::.l c::ks) σ)
 |.r _ ops draw::ks,σ=>(evR Y E G ops.toList draw σ).bind fun
  |.st σ'=>.leaf (.go ks σ')
  |.pan v=>.leaf (.done (.pan v))
 |.c c::ks,σ=>match c with
  |.skip=>.leaf (.go ks σ)
  |.label _=>.leaf (.go ks σ)
  |.seq a b=>.leaf (.go (.c a::.c b::ks) σ)
  |.block id c=>.leaf (.go (.c c::.b id::ks) σ)
  |.loop c=>.leaf (.go (.l c::ks) σ)
  |.cond (.tmp t) a b=>match look σ.t t with
   |some (.a .tt)=>.leaf (.go (.c a::ks) σ)
   |some (.a .ff)=>.leaf (.go (.c b::ks) σ)
   |some (.a (.d .bool v))=>.cond v (.leaf (.go (.c a::ks) (σ.know t .tt))) (.leaf (.go (.c b::ks) (σ.know t .ff)))
   |_=>.fail
  |.exit id=>match sE id ks with
   |some ks'=>.leaf (.go ks' σ)
   |none=>.fail
  |.ret=>PT Y E lv rs σ
  |.region id ops draw=>(Ox E (UN lv.g id) (pv E lv.r id σ)).bind fun τ=>.leaf (.go (.r id ops draw::ks) τ)
  |_=>.fail
def Ve:List Nat→Nat→Bool
 | [],_=>false
 |k::r,i=>match Nat.beq i k with|true=>true|false=>Ve r i
def TD(cut:List Nat):List It2→Bool
 |.k _::_=>true
 |.r id _ _::_=>Ve cut id
 |_=>false
def evM:Nat→Bool→List It2→TS E.T→Tree (Lf E.T)
 |0,_,ks,σ=>.leaf (.go ks σ)
 |m+1,fst,ks,σ=>match fst,TD lv.cut ks with
  |false,true=>.leaf (.go ks σ)
  |_,_=>(stp Y E G lv rs ks σ).bind fun
   |.go ks' σ'=>evM m false ks' σ'
   |.done r=>.leaf (.done r)
def EY{T:Nat→Type}(F:List It2→TS T→Prop)(K:RL T→Prop):Lf T→Prop
 |.go ks σ=>F ks σ
 |.done r=>K r
def Fin(K:RL E.T→Prop):Nat→List It2→TS E.T→Prop
 |0,_,_=>False
 |n+1,ks,σ=>(stp Y E G lv rs ks σ).holds (EY (Fin K n) K)
def eN(K:RL E.T→Prop)(ks:List It2)(σ:TS E.T):Prop:=∃n,Fin Y E G lv rs K n ks σ
def Sq(K:RL E.T→Prop):Lf E.T→Prop
 |.go ks σ=>eN Y E G lv rs K ks σ
 |.done r=>K r
end
section
variable {P:Program} {Y:Tys P} {E:Env} {G:Gam E} {lv:Lvs} {rs:List ResultVar} {K:RL E.T→Prop}
theorem kp{L:Type}{R:Nat→L→Prop}(hR:∀n m x,n≤m→R n x→R m x):∀ {t:Tree L},t.holds (fun x=>∃n,R n x)→∃n,t.holds (R n)
 |.leaf x,h=>h
 |.cond true s t,h=>by
  obtain⟨n,h⟩:=kp hR (h.1 rfl)
  exact⟨n,fun _=>h,fun e=>by cases e⟩
 |.cond false s t,h=>by
  obtain⟨n,h⟩:=kp hR (h.2 rfl)
  exact⟨n,(fun e=>by cases e),fun _=>h⟩
 |.bnd o k,⟨z,h1,h2⟩=>by
  obtain⟨n,h⟩:=kp hR h2
  exact⟨n,z,h1,h⟩
 |.sm (.ok z) k p,h=>by
  obtain⟨n,h⟩:=kp hR (h.1 z rfl)
  exact⟨n,(fun z' e=>by cases e;exact h),fun v e=>by cases e⟩
 |.sm (.pan v) k p,h=>by
  obtain⟨n,h⟩:=kp hR (h.2 v rfl)
  exact⟨n,(fun z' e=>by cases e),fun v' e=>by cases e;exact h⟩
 |.nl [] s t,h=>by
  obtain⟨n,h1⟩:=kp hR (h.1 rfl)
  obtain⟨m,h2⟩:=kp hR h.2
  exact⟨n+m,fun _=>h1.mono fun x=>hR _ _ x (by omega),h2.mono fun x=>hR _ _ x (by omega)⟩
 |.nl (_::_) s t,h=>by
  obtain⟨m,h2⟩:=kp hR h.2
  exact⟨m,(fun e=>by cases e),h2⟩
 |.fail,h=>h.elim
theorem NQ:∀ (n:Nat) (ks:List It2) (σ:TS E.T),Fin Y E G lv rs K n ks σ→Fin Y E G lv rs K (n+1) ks σ
 |0,_,_,h=>h.elim
 |n+1,ks,σ,h=>Tree.holds.mono (fun x hx=>by
  cases x with
  |go ks' σ'=>exact NQ n ks' σ' hx
  |done r=>exact hx) h
theorem LX{n m:Nat}(h:n≤m){ks:List It2}{σ:TS E.T}(hf:Fin Y E G lv rs K n ks σ):Fin Y E G lv rs K m ks σ:=by
 induction h with
 |refl=>exact hf
 |step _ ih=>exact NQ _ _ _ ih
theorem I6{ks:List It2}{σ:TS E.T}(h:(stp Y E G lv rs ks σ).holds (Sq Y E G lv rs K)):eN Y E G lv rs K ks σ:=by
 have h':(stp Y E G lv rs ks σ).holds (fun x=>∃n,EY (Fin Y E G lv rs K n) K x):=h.mono fun x hx=>by
  cases x with
  |go ks' σ'=>exact hx
  |done r=>exact⟨0,hx⟩
 obtain⟨n,hn⟩:=kp (R:=fun n x=>EY (Fin Y E G lv rs K n) K x) (fun n m x hnm hx=>by
  cases x with
  |go ks' σ'=>exact LX hnm hx
  |done r=>exact hx) h'
 exact⟨n+1,hn⟩
theorem MH:∀ (m:Nat) (fst:Bool) (ks:List It2) (σ:TS E.T),(evM Y E G lv rs m fst ks σ).holds (Sq Y E G lv rs K)→eN Y E G lv rs K ks σ
 |0,_,ks,σ,h=>h
 |m+1,fst,ks,σ,h=>by
  simp only[evM] at h
  split at h
  ·exact h
  ·refine I6 ((bo h).mono fun x hx=> ?_)
   cases x with
   |go ks' σ'=>exact MH m false ks' σ' hx
   |done r=>exact hx
def QX(P:Program)(fn:Func)(post:AOut→List (Nat × List AV)→Prop):Exit→AS→Prop
 |.ret,σ|.normal,σ=>∀ (F:Nat→Prop) (X:GW) (tm:Array Value),SimE F X σ tm→∃v u H',(results fn tm).run P X.w=.ok v X.w∧post (.ret u) H'∧SimE F X ⟨1,[(0,u)],H',[]⟩ #[v]
 |.panic chain,σ=>∃v,chain=[⟨v,false,false⟩] ∧post (.pan v) σ.h
 |_,_=>False
theorem BQ{P:Program}{fn:Func}{f:FuncId}{c:Code}{us:List AV}{H:List (Nat × List AV)}{post:AOut→List (Nat × List AV)→Prop}(hf:P.funcs[f]? =some fn)(hn:(fn.name== "runtime.NumGoroutine")=false)(hb:fn.body=some c)(hus:Nat.ble us.length fn.ntmps=true)
  (h:aY P (QX P fn post) [.c c] ⟨fn.ntmps,slotsOf 0 us,H,[]⟩):ai P f us H post:=by
 refine⟨⟨fn,hf,hn,by rw[hb];rfl⟩,fun F X vs hs=>calls_of_wp hf hb ?_⟩
 have hle:=Nat.le_of_ble_eq_true hus
 have h2:=h F X { tmps:=vs++Array.replicate (fn.ntmps - vs.size) undef,defers:=[] } (hs.enter hle) [] rfl
 refine wp_mono h2 fun e a' w' hp=> ?_
 obtain⟨p1,X',σ',p2,p3,p4,p5⟩:=hp
 subst p2
 have fin:QX P fn post .ret σ'→a'.defers=[] ∧∃v,(results fn a'.tmps).run P X'.w=.ok v X'.w∧(∃ (X'':GW) (out:AOut) (H':List (Nat × List AV)),X''.w=X'.w∧post out H'∧qQ F X'' (.returned v) out H'∧Ext F X X''):=by
  intro hq
  obtain⟨v,u,H2,k1,k2,k3⟩:=hq F X' a'.tmps p4
  exact⟨p1,v,k1,X',.ret u,H2,rfl,k2,⟨v,rfl,k3⟩,p5⟩
 cases e with
 |normal=>exact fin p3
 |ret=>exact fin p3
 |panic chain=>
  obtain⟨v,rfl,p3⟩:=p3
  exact⟨p1,X',.pan v,σ'.h,rfl,p3,⟨rfl,p4.panEnd⟩,p5⟩
 |exit id=>exact p3.elim
 |goto l=>exact p3.elim
 |outgrown=>exact p3.elim
def bQ(E:Env)(ρ0:Rn)(K:RL E.T→Prop):AOut→List (Nat × List AV)→Prop:=fun out H=>∃r ρ,K r∧Agr ρ0 ρ∧match r with
 |.ret u h=>out=.ret (u.to E.toEnc ρ)∧H=hTo E.toEnc ρ h∧Inj ρ h
 |.pan v=>out=.pan v∧H=[]
def tr(Y:Tys P)(E:Env)(G:Gam E)(lv:Lvs)(rs:List ResultVar)(K:RL E.T→Prop)(ρ0:Rn)(n:Nat):List It2→List It
 | [] =>[]
 |.c c::ks=>.c c::tr Y E G lv rs K ρ0 n ks
 |.b id::ks=>.b id::tr Y E G lv rs K ρ0 n ks
 |.l c::ks=>.l (fun σ'=>∃m τ ρ,m < n∧(Agr ρ0 ρ∧Inj ρ τ.h)∧oz σ' (τ.to E.toEnc ρ)∧Fin Y E G lv rs K m (.k c::ks) τ)::tr Y E G lv rs K ρ0 n ks
 |.r id ops draw::ks=>.c (.region id ops draw)::tr Y E G lv rs K ρ0 n ks
 |.k c::ks=>.c (.loop c)::tr Y E G lv rs K ρ0 n ks
inductive ItLe:List It→List It→Prop
 |nil:ItLe [] []
 |same (i:It) {ks ks':List It}:ItLe ks ks'→ItLe (i::ks) (i::ks')
 |l {I J:AS→Prop} {ks ks':List It}:(∀σ,I σ→J σ)→ItLe ks ks'→ItLe (.l I::ks) (.l J::ks')
theorem ItLe.refl:∀ks,ItLe ks ks
 | [] =>.nil
 |i::ks=>.same i (ItLe.refl ks)
theorem wa{ρ0:Rn}{n m:Nat}(h:m≤n):∀ks,ItLe (tr Y E G lv rs K ρ0 m ks) (tr Y E G lv rs K ρ0 n ks)
 | [] =>.nil
 |.c c::ks=>.same _ (wa h ks)
 |.b id::ks=>.same _ (wa h ks)
 |.l c::ks=>.l (fun σ ⟨q,τ,ρ,h1,h2⟩=>⟨q,τ,ρ,Nat.lt_of_lt_of_le h1 h,h2⟩) (wa h ks)
 |.r id ops draw::ks=>.same _ (wa h ks)
 |.k c::ks=>.same _ (wa h ks)
theorem R4{Q:Exit→AS→Prop}:∀ {ks ks':List It},ItLe ks ks'→∀e σ,Stk P Q ks e σ→Stk P Q ks' e σ:=by
 intro ks ks' h
 induction h with
 |nil=>exact fun _ _ h=>h
 |same i h ih=>
  intro e σ hs
  cases i with
  |c c=>
   cases e with
   |normal=>exact Awp.mono hs (fun e σ=>ih e σ)
   |_=>exact ih _ _ hs
  |b id=>
   cases e with
   |exit id'=>
    simp only[Stk] at hs ⊢
    split
    ·rename_i e;rw[if_pos e] at hs;exact ih _ _ hs
    ·rename_i e;rw[if_neg e] at hs;exact ih _ _ hs
   |_=>exact ih _ _ hs
  |l I=>
   cases e with
   |normal=>exact hs
   |_=>exact ih _ _ hs
  |o l k r=>
   cases e with
   |normal=>exact fun F X a hsim D hd=>iV (fun e a w hp=>hp.mono fun e σ=>ih e σ) _ _ _ (hs F X a hsim D hd)
   |_=>exact ih _ _ hs
 |l hIJ h ih=>
  intro e σ hs
  cases e with
  |normal=>exact hIJ σ hs
  |_=>exact ih _ _ hs
theorem Fs{Q:Exit→AS→Prop}{ks ks':List It}{σ:AS}(h:ItLe ks ks')(hr:aY P Q ks σ):aY P Q ks' σ:=R4 h _ _ hr
theorem q9{Q:Exit→AS→Prop}{ρ0:Rn}{n:Nat}:∀ (ks:List It2) {σ:AS},Q .ret σ→Stk P Q (tr Y E G lv rs K ρ0 n ks) .ret σ
 | [],σ,h=>h
 |.c c::ks,σ,h=>q9 ks h
 |.b id::ks,σ,h=>q9 ks h
 |.l c::ks,σ,h=>q9 ks h
 |.r id ops draw::ks,σ,h=>q9 ks h
 |.k c::ks,σ,h=>q9 ks h
theorem rG{Q:Exit→AS→Prop}{ρ0:Rn}{n:Nat}{v:Value}:∀ (ks:List It2),(∀n,Q (.panic [⟨v,false,false⟩]) ⟨n,[],[],[]⟩)→F4 P Q (tr Y E G lv rs K ρ0 n ks) v
 | [],h=>h
 |.c c::ks,h=>rG ks h
 |.b id::ks,h=>rG ks h
 |.l c::ks,h=>rG ks h
 |.r id ops draw::ks,h=>rG ks h
 |.k c::ks,h=>rG ks h
theorem uv{Q:Exit→AS→Prop}{ρ0:Rn}{n id:Nat}:∀ (ks:List It2) {ks':List It2} {σ:AS},sE id ks=some ks'→aY P Q (tr Y E G lv rs K ρ0 n ks') σ→Stk P Q (tr Y E G lv rs K ρ0 n ks) (.exit id) σ
 | [],_,_,h,_=>by cases h
 |.c c::ks,_,_,h,hr=>uv ks h hr
 |.l c::ks,_,_,h,hr=>uv ks h hr
 |.b j::ks,ks',σ,h,hr=>by
  simp only[sE] at h
  simp only[tr,Stk]
  split at h
  ·rename_i e
   cases h
   rw[if_pos (kT e)]
   exact hr
  ·rename_i e
   rw[if_neg (fun e2=>by subst e2;rw[Nat.beq_refl] at e;cases e)]
   exact uv ks h hr
 |.r _ _ _::_,_,_,h,_=>by cases h
 |.k _::_,_,_,h,_=>by cases h
theorem Py{ρ:Rn}{u:TV E.T}{x:TC E.T}(h:SH u=some x):x.to E.toEnc ρ=(u.to E.toEnc ρ).rd:=by
 unfold SH at h
 split at h
 ·rename_i a
  split at h
  ·rename_i y hy
   cases h
   have:=pA E.toEnc ρ (.a a.rd:TV E.T)
   rw[hy] at this
   exact this.trans (TA.rd_to _ _ _)
  ·cases h
 ·cases h;rfl
 ·cases h
theorem Eu(i:Nat)(u:TV E.T)(ρ:Rn):LeV (u.to E.toEnc ρ) ((G6 E i u).to E.toEnc ρ):=by
 unfold G6
 split
 ·split
  ·rename_i l _ z hz
   have h:=E.pk_to i _ z [] ρ hz
   simp only[List.map_nil,List.append_nil] at h
   refine .inr ⟨fun X v hv=> ?_,rfl⟩
   have e:(TV.ag (E.unp i z):TV E.T).to E.toEnc ρ=.ag (E.enc i z):=by
    show AV.ag ((E.unp i z).map _)=_
    rw[E.unp_to]
   rw[e]
   exact Aw hv ((lA (ρ:=ρ) l).trans h)
  ·exact .inl (.refl _)
 ·exact .inl (.refl _)
theorem yL(ps:List (Nat × Nat))(ρ:Rn):∀ (t:List (Nat × TV E.T)) (k:Nat) (u':AV),look (tTo E.toEnc ρ (Hy E ps t)) k=some u'→∃u,look (tTo E.toEnc ρ t) k=some u∧LeV u u'
 | [],k,u',h=>by cases h
 | (j,u)::r,k,u',h=>by
   simp only[Hy,tTo,List.map_cons,ab] at h ⊢
   split at h
   ·rename_i e
    rw[if_pos e]
    cases h
    refine⟨_,rfl,?_⟩
    split
    ·exact Eu _ u ρ
    ·exact .inl (.refl _)
   ·rename_i e
    rw[if_neg e]
    exact yL ps ρ r k u' h
theorem E6(ws:List Nat)(ρ:Rn):∀ (i:Nat) (l:List (TA E.T)),LeL (l.map (TA.to E.toEnc ρ)) ((Hw ws i l).map (TA.to E.toEnc ρ))
 |_,[] =>.nil
 |i,x::r=>by
  have hn:∀y:TA E.T,(Nx y).to E.toEnc ρ=y.to E.toEnc ρ:=fun y=>by cases y<;> rfl
  simp only[Hw,List.map_cons]
  refine .cons ?_ (E6 ws ρ (i+1) r)
  split
  ·rw[hn,TA.rd_to];exact qv _
  ·rw[hn];exact .refl _
theorem KR(m:Option Nat × List Nat)(b:TB E.T)(ρ:Rn):LeL (b.to E.toEnc ρ) ((xl E m b).to E.toEnc ρ):=by
 unfold xl
 split
 ·rename_i l
  split
  ·rename_i i ws
   split
   ·rename_i z hz
    have h:=E.pk_to i _ z [] ρ hz
    simp only[List.map_nil,List.append_nil] at h
    show LeL (l.map _) ((E.unp i z).map _)
    rw[E.unp_to]
    exact(lA (ρ:=ρ) l).trans h
   ·exact LeL.refl _
  ·exact E6 _ ρ 0 l
 ·exact LeL.refl _
theorem wb(m:Option Nat × List Nat)(b:TB E.T):tM b (xl E m b):=by
 unfold xl
 split
 ·split
  ·split
   ·exact fun _=>rfl
   ·exact .refl _
  ·exact fun _=>rfl
 ·exact .refl _
theorem Ak(ms:List (Nat × (Option Nat × List Nat))):∀ (h:List (Nat × TB E.T)),∀p∈Bc E ms h,∃q∈h,q.1=p.1∧tM q.2 p.2
 | [],p,hp=>by cases hp
 | (j,b)::r,p,hp=>by
   rcases List.mem_cons.1 hp with rfl|hp
   ·refine⟨_,List.mem_cons_self,rfl,?_⟩
    simp only
    split
    ·exact wb _ b
    ·exact .refl _
   ·obtain⟨q,h1,h2,h3⟩:=Ak ms r p hp
    exact⟨q,List.mem_cons_of_mem _ h1,h2,h3⟩
theorem sN(ms:List (Nat × (Option Nat × List Nat)))(ρ:Rn):∀ (h:List (Nat × TB E.T)) (k:Nat) (cs':List AV),look (hTo E.toEnc ρ (Bc E ms h)) k=some cs'→∃cs,look (hTo E.toEnc ρ h) k=some cs∧LeL cs cs'
 | [],k,u',h=>by cases h
 | (j,b)::r,k,cs',h=>by
   have key:∀b':TB E.T,tM b b'→LeL (b.to E.toEnc ρ) (b'.to E.toEnc ρ)→look (hTo E.toEnc ρ ((j,b')::Bc E ms r)) k=some cs'→∃cs,look (hTo E.toEnc ρ ((j,b)::r)) k=some cs∧LeL cs cs':=fun b' hsm hle h=>by
    cases hl:a8 ρ b with
    |false=>
     rw[fH _ _ (by rw[← hsm ρ];exact hl)] at h
     rw[fH _ _ hl]
     exact sN ms ρ r k cs' h
    |true=>
     rw[dQ _ _ (by rw[← hsm ρ];exact hl),ab] at h
     rw[dQ _ _ hl,ab]
     split at h
     ·rename_i e
      rw[if_pos e]
      cases h
      exact⟨_,rfl,hle⟩
     ·rename_i e
      rw[if_neg e]
      exact sN ms ρ r k cs' h
   simp only[Bc] at h
   split at h
   ·exact key _ (wb _ b) (KR _ b ρ) h
   ·exact key _ (.refl _) (LeL.refl _) h
theorem DR(σ:TS E.T)(k:Kp):tg E.toEnc σ (σ.pack E k):=fun ρ hi=>by
 refine⟨hi.sub fun p hp=>let ⟨q,h1,h2,h3⟩:=Ak k.h σ.h p hp;⟨q,h1,h2,h3 ρ⟩,fun F X tm hs=> ?_⟩
 exact hs.le3 rfl (fun t u' hu=>yL k.p ρ σ.t t u' hu) (fun q cs' hq=>sN k.h ρ σ.h q cs' hq) (fun p hp=>hp)
theorem PM(y:TA E.T)(ρ:Rn):(Nx y).to E.toEnc ρ=y.to E.toEnc ρ:=by cases y<;> rfl
theorem PY(x:TC E.T)(ρ:Rn):(Vv x).to E.toEnc ρ=x.to E.toEnc ρ:=by cases x<;> rfl
theorem rC{ρ:Rn}{σ:TS E.T}(hi:Inj ρ σ.h){r:ResultVar}{x:TC E.T}(h:Fe Y σ r=some x):mU Y (tTo E.toEnc ρ σ.t) (hTo E.toEnc ρ σ.h) r=some (x.to E.toEnc ρ):=by
 unfold Fe at h
 split at h
 ·split at h
  ·rename_i u hu
   simp only[mU,bD,hu,Option.map_some,Py h]
  ·cases h
 ·split at h
  ·rename_i s ty _ k hs
   have hs':look (tTo E.toEnc ρ σ.t) s=some (.v (.pointer (some ⟨ρ k,0,none⟩))):=by simp only[bD,hs,Option.map_some];rfl
   split at h
   ·rename_i cs fs hh hy
    have hh':look (hTo E.toEnc ρ σ.h) (ρ k)=some (cs.map (TA.to E.toEnc ρ)):=dc E.toEnc hi hh rfl
    split at h
    ·rename_i n b hz
     split at h
     ·rename_i hn
      cases h
      rw[BZ hs' hh' hy hz (by simpa using hn) (sB cs)]
      simp only[TC.to,List.map_map]
      exact congrArg (fun l=>some (AV.ag l)) (List.map_congr_left fun y _=>(TA.rd_to _ _ y).symm)
     ·cases h
    ·cases h
   ·rename_i c d hno hh hy
    have hh':look (hTo E.toEnc ρ σ.h) (ρ k)=some [c.to E.toEnc ρ] :=dc E.toEnc hi hh rfl
    split at h
    ·rename_i h1
     cases h
     rw[I0 hs' hh' hy h1 (TA.to_notMp _ _ c)]
     simp only[TC.to,PM,TA.rd_to]
    ·cases h
   ·cases h
  ·cases h
theorem NF{own:Bool}{fn:Func}{ρ:Rn}{σ:TS E.T}{u:TV E.T}(hrs:fn.results.toList=rs)(hi:Inj ρ σ.h)(h:SI Y own rs σ=some u)(F:Nat→Prop)(X:GW)(tm:Array Value)(hs:SimE F X (σ.to E.toEnc ρ) tm){H2:List (Nat × List AV)}(hH:∀k cs,look H2 k=some cs→look (σ.to E.toEnc ρ).h k=some cs):∃v,(results fn tm).run P X.w=.ok v X.w∧SimE F X ⟨1,[(0,u.to E.toEnc ρ)],H2,[]⟩ #[v] :=by
 have cells:Ar Y (tTo E.toEnc ρ σ.t) (hTo E.toEnc ρ σ.h) rs=some (u.to E.toEnc ρ)→∃v,(results fn tm).run P X.w=.ok v X.w∧SimE F X ⟨1,[(0,u.to E.toEnc ρ)],H2,[]⟩ #[v] :=fun hc=>by
  obtain⟨k0,v,k1,k2⟩:=LC (F:=F) (tm:=tm) (fn:=fn) hs.slot hs.box (hrs ▸ hc)
  exact⟨v,k1,hs.retEnd hH k2 k0⟩
 unfold SI at h
 split at h
 ·rename_i t
  split at h
  ·rename_i u0 hu
   cases h
   have hr:F5 fn.results.toList (σ.to E.toEnc ρ)=some (u0.to E.toEnc ρ):=by rw[hrs];simp only[F5,TS.to,bD,hu,Option.map_some]
   obtain⟨v,k1,k2⟩:=Bn (P:=P) (fn:=fn) hs hr
   refine⟨v,k1,k2.le2 rfl (fun s u' hu'=> ?_) (fun q cs' hq=>⟨cs',hH q cs' hq,LeL.refl _⟩) (fun p hp=>by cases hp)⟩
   simp only[ab] at hu'
   split at hu'
   ·rename_i e;subst e;cases hu'
    refine⟨_,aH,?_⟩
    cases own with
    |true=>simp only[Bool.not_true,vW,pA];exact .refl _
    |false=>simp only[Bool.not_false,vW,pA,TV.rd_to];exact qv _
   ·cases hu'
  ·cases h
 ·split at h
  ·rename_i x hx
   cases h
   refine cells ?_
   rw[PY]
   exact rC hi hx
  ·cases h
 ·split at h
  ·rename_i x x' hx hx'
   cases h
   exact cells (by simp only[Ar,rC hi hx,rC hi hx'];rfl)
  ·cases h
 ·split at h
  ·rename_i x x' x'' hx hx' hx''
   cases h
   exact cells (by simp only[Ar,rC hi hx,rC hi hx',rC hi hx''];rfl)
  ·cases h
 ·cases h;exact cells rfl
 ·cases h
theorem sO{T:Nat→Type}{h:List (Nat × TB T)}:∀ {ids:List Nat},∀p∈cW h ids,∃q∈h,q.1=p.1∧tM q.2 p.2
 | [],p,hp=>by cases hp
 |k::ks,p,hp=>by
  simp only[cW] at hp
  split at hp
  ·rename_i b hb
   rcases List.mem_cons.1 hp with rfl|hp
   ·exact⟨_,cI hb,rfl,.refl _⟩
   ·exact sO p hp
  ·exact sO p hp
theorem NO{fn:Func}(hrs:fn.results.toList=rs){ρ0 ρ:Rn}(ha:Agr ρ0 ρ){σ:TS E.T}(hi:Inj ρ σ.h){e:Exit}(he:e=.ret∨e=.normal){F:List It2→TS E.T→Prop}(h:(PT Y E lv rs σ).holds (EY F K)):QX P fn (bQ E ρ0 K) e (σ.to E.toEnc ρ):=by
 unfold PT at h
 split at h
 ·rename_i u hu
  obtain⟨k1,k2⟩:=DR σ ⟨[],lv.p,lv.ph,[]⟩ ρ hi
  have:∀ (F:Nat→Prop) (X:GW) (tm:Array Value),SimE F X (σ.to E.toEnc ρ) tm→∃v u H',(results fn tm).run P X.w=.ok v X.w∧bQ E ρ0 K (.ret u) H'∧SimE F X ⟨1,[(0,u)],H',[]⟩ #[v] :=fun F X tm hs=>by
   obtain⟨v,k3,k4⟩:=NF (Y:=Y) hrs k1 hu F X tm (k2 F X tm hs) (H2:=hTo E.toEnc ρ (cW (σ.pack E ⟨[],lv.p,lv.ph,[]⟩).h (lv.kb.map (DI (yB σ.h lv.m))))) (pc k1 _)
   obtain⟨ρ',q1,q2,q3,q4⟩:=Pk (E:=E) (yB σ.h lv.m) (u:=u) (h:=cW (σ.pack E ⟨[],lv.p,lv.ph,[]⟩).h (lv.kb.map (DI (yB σ.h lv.m)))) (ρ:=ρ) (k1.sub fun p hp=>let ⟨q,h1,h2,h3⟩:=sO p hp;⟨q,h1,h2,h3 ρ⟩)
   exact⟨v,_,_,k3,⟨_,ρ',h,ha.trans q1,by rw[q3],q4.symm,q2⟩,k4⟩
  rcases he with rfl|rfl
  ·exact this
  ·exact this
 ·cases h
theorem qu(lvl:List (Nat × Kp))(id:Nat)(σ:TS E.T):uW E.toEnc σ (pv E lvl id σ):=by
 unfold pv
 split
 ·exact((uW.of (Jd σ _ _)).trans (MQ _ _)).trans (uW.of (DR _ _))
 ·exact uW.of (tg.refl σ)
theorem OP{fn:Func}{ρ0:Rn}(hrs:fn.results.toList=rs)(hm:P.follows .mixedOrders=true)(hG:GOk P Y E G):∀ (n:Nat) (ks:List It2) (σ:TS E.T) (ρ:Rn),Agr ρ0 ρ→Inj ρ σ.h→Fin Y E G lv rs K n ks σ→aY P (QX P fn (bQ E ρ0 K)) (tr Y E G lv rs K ρ0 n ks) (σ.to E.toEnc ρ):=by
 intro n
 induction n using Nat.strongRecOn with
 |_ n ih=>
  intro ks σ ρ ha hi h
  cases n with
  |zero=>cases h
  |succ n=>
   have up:∀ {ks:List It2} {σ:TS E.T} {ρ:Rn},Agr ρ0 ρ→Inj ρ σ.h→Fin Y E G lv rs K n ks σ→aY P (QX P fn (bQ E ρ0 K)) (tr Y E G lv rs K ρ0 (n+1) ks) (σ.to E.toEnc ρ):=fun ha hi h=>Fs (wa (Nat.le_succ n) _) (ih n (Nat.lt_succ_self n) _ _ _ ha hi h)
   cases ks with
   |nil=>exact NO hrs ha (F:=Fin Y E G lv rs K n) hi (.inr rfl) h
   |cons it ks=>
    cases it with
    |b id=>exact iI (up (ks:=ks) ha hi h)
    |l c=>
     have h':Fin Y E G lv rs K n (.k c::ks) (pv E lv.l (rg c) σ):=h
     obtain⟨ρ',q1,k1,k2⟩:=qu lv.l (rg c) σ ρ hi
     exact⟨n,_,ρ',Nat.lt_succ_self n,⟨ha.trans q1,k1⟩,k2,h'⟩
    |k c=>
     refine Mw (fun y:Nat × TS E.T × Rn=>y.2.1.to E.toEnc y.2.2) (fun y=>(Agr ρ0 y.2.2∧Inj y.2.2 y.2.1.h)∧Fin Y E G lv rs K y.1 (.k c::ks) y.2.1∧y.1≤n+1) (fun y=>y.1) (n+1,σ,ρ) (fun _ _ _ h=>h) ⟨⟨ha,hi⟩,h,Nat.le_refl _⟩ ?_
     rintro⟨m,τ,ρ'⟩ ⟨⟨ha',hi'⟩,hf,hle⟩
     cases m with
     |zero=>cases hf
     |succ m=>
      have hf':Fin Y E G lv rs K m (.c c::.l c::ks) τ:=hf
      have hr:=ih m (by simp only at hle;omega) _ τ ρ' ha' hi' hf'
      refine Fs (.same _ (.l ?_ (wa (by simp only at hle;omega) ks))) hr
      rintro σ' ⟨q,τ',ρ'',h1,h2,h3,h4⟩
      exact⟨(q,τ',ρ''),h3,⟨h2,h4,by simp only at hle ⊢;omega⟩,by simp only;omega⟩
    |r id ops draw=>
     refine TG (Y:=Y) hm hG hi ?_
     have h':((evR Y E G ops.toList draw σ).bind fun
      |.st σ'=>Tree.leaf (Lf.go ks σ')
      |.pan v=>.leaf (.done (.pan v))).holds (EY (Fin Y E G lv rs K n) K):=h
     refine(bo h').mono fun x hx=> ?_
     cases x with
     |st σ'=>exact fun ρ' hi' ha'=>up (ha.trans ha') hi' hx
     |pan v=>exact rG ks fun n=>⟨v,rfl,⟨.pan v,ρ0,hx,Agr.refl ρ0,rfl,rfl⟩⟩
    |c c=>
     cases c with
     |skip=>exact gk (up (ks:=ks) ha hi h)
     |label q=>exact M1 (up (ks:=ks) ha hi h)
     |seq a b=>exact iH (up (ks:=.c a::.c b::ks) ha hi h)
     |block id c=>exact eH (up (ks:=.c c::.b id::ks) ha hi h)
     |loop c=>
      have h':Fin Y E G lv rs K n (.l c::ks) σ:=h
      cases n with
      |zero=>cases h'
      |succ n'=>
       have h2:Fin Y E G lv rs K n' (.k c::ks) (pv E lv.l (rg c) σ):=h'
       obtain⟨ρ',q1,k1,k2⟩:=qu lv.l (rg c) σ ρ hi
       refine w9 k2 ?_
       exact Fs (wa (by omega) (.k c::ks)) (ih n' (by omega) (.k c::ks) _ ρ' (ha.trans q1) k1 h2)
     |cond x a b=>
      cases x with
      |tmp t=>
       have h':(match look σ.t t with
        |some (.a .tt)=>Tree.leaf (Lf.go (.c a::ks) σ)
        |some (.a .ff)=>.leaf (.go (.c b::ks) σ)
        |some (.a (.d .bool v))=>.cond v (.leaf (.go (.c a::ks) (σ.know t .tt))) (.leaf (.go (.c b::ks) (σ.know t .ff)))
        |_=>.fail).holds (EY (Fin Y E G lv rs K n) K):=h
       split at h'
       ·rename_i hl
        exact bU (b:=true) (by simp only[TS.to,bD,hl];rfl) rfl (up (ks:=.c a::ks) ha hi h')
       ·rename_i hl
        exact bz (b:=false) (by simp only[TS.to,bD,hl];rfl) rfl (up (ks:=.c b::ks) ha hi h')
       ·rename_i v hl
        cases hv:v with
        |true=>exact bU (b:=v) (by simp only[TS.to,bD,hl];rfl) hv (w9 (o3 (x:=.tt) (b:=v) (by rw[hv];rfl) hl) (up (ks:=.c a::ks) (σ:=σ.know t .tt) ha hi (h'.1 hv)))
        |false=>exact bz (b:=v) (by simp only[TS.to,bD,hl];rfl) hv (w9 (o3 (x:=.ff) (b:=v) (by rw[hv];rfl) hl) (up (ks:=.c b::ks) (σ:=σ.know t .ff) ha hi (h'.2 hv)))
       ·cases h'
      |_=>cases h
     |exit id=>
      have h':(match sE id ks with
       |some ks'=>Tree.leaf (Lf.go ks' σ)
       |none=>.fail).holds (EY (Fin Y E G lv rs K n) K):=h
      split at h'
      ·rename_i ks' hks
       exact gh (uv ks hks (up ha hi h'))
      ·cases h'
     |ret=>
      exact SO (q9 ks (NO hrs ha (F:=Fin Y E G lv rs K n) hi (.inl rfl) h))
     |region id ops draw=>
      obtain⟨ρ1,q0,k1,k2⟩:=qu lv.r id σ ρ hi
      refine w9 k2 ?_
      have h':((Ox E (UN lv.g id) (pv E lv.r id σ)).bind fun τ=>Tree.leaf (Lf.go (.r id ops draw::ks) τ)).holds (EY (Fin Y E G lv rs K n) K):=h
      obtain⟨τ,q1,q2⟩:=Ia (bo h')
      obtain⟨ρ',q3,q4,q5⟩:=q2 ρ1 k1
      exact Ew (up (ks:=.r id ops draw::ks) ((ha.trans q0).trans q3) q4 q1) q5
     |_=>cases h
def slotsT{T:Nat→Type}:Nat→List (TV T)→List (Nat × TV T)
 |_,[] =>[]
 |k,u::us=>(k,u)::slotsT (k+1) us
theorem AB{ρ:Rn}:∀ (us:List (TV E.T)) (k:Nat),tTo E.toEnc ρ (slotsT k us)=slotsOf k (us.map (TV.to E.toEnc ρ))
 | [],_=>rfl
 |u::us,k=>by simp only[slotsT,tTo,List.map_cons,slotsOf];exact congrArg _ (AB us (k+1))
theorem fA{f:FuncId}{fn:Func}(c:Code)(n:Nat)(hm:P.follows .mixedOrders=true)(hG:GOk P Y E G)(hf:P.funcs[f]? =some fn)(hn:(fn.name== "runtime.NumGoroutine")=false)(hb:fn.body=some c)(hnt:fn.ntmps=n)(hrs:fn.results.toList=rs){us:List (TV E.T)}(hus:Nat.ble us.length n=true){h0:List (Nat × TB E.T)}
  (h:eN Y E G lv rs K [.c c] ⟨n,slotsT 0 us,h0,[]⟩) (ρ:Rn) (hi:Inj ρ h0):ai P f (us.map (TV.to E.toEnc ρ)) (hTo E.toEnc ρ h0) (bQ E ρ K):=by
 subst hnt
 refine BQ hf hn hb (by simpa using hus) ?_
 obtain⟨m,hm'⟩:=h
 have hr:=OP hrs hm hG m _ _ ρ (Agr.refl ρ) hi hm'
 have hst:(TS.to E.toEnc ρ (⟨fn.ntmps,slotsT 0 us,h0,[]⟩:TS E.T))=⟨fn.ntmps,slotsOf 0 (us.map (TV.to E.toEnc ρ)),hTo E.toEnc ρ h0,[]⟩:=by
  simp only[TS.to,AB];rfl
 rw[hst] at hr
 exact hr
theorem ip{f:FuncId}{fn:Func}(c:Code)(n:Nat)(hm:P.follows .mixedOrders=true)(hG:GOk P Y E G)(hf:P.funcs[f]? =some fn)(hn:(fn.name== "runtime.NumGoroutine")=false)(hb:fn.body=some c)(hnt:fn.ntmps=n)(hrs:fn.results.toList=rs){us:List (TV E.T)}(hus:Nat.ble us.length n=true)
  (h:eN Y E G lv rs K [.c c] ⟨n,slotsT 0 us,[],[]⟩) (ρ:Rn):ai P f (us.map (TV.to E.toEnc ρ)) [] (bQ E ρ K):=
 fA c n hm hG hf hn hb hnt hrs hus h ρ (fun p hp=>by cases hp)
theorem bQ.ret{ρ:Rn}{u:TV E.T}(hu:(u.ids big)=true){out:AOut}{H:List (Nat × List AV)}(h:bQ E ρ (fun r=>r=.ret u []) out H):out=.ret (u.to E.toEnc ρ)∧H=[] :=by
 obtain⟨r,ρ',rfl,ha,h1,h2,_⟩:=h
 exact⟨by rw[h1,TV.ids_to ha hu],h2⟩
theorem bQ.retH{ρ:Rn}{u:TV E.T}{hh:List (Nat × TB E.T)}(hu:(u.ids big)=true)(hb:sM big hh=true){out:AOut}{H:List (Nat × List AV)}(h:bQ E ρ (fun r=>r=.ret u hh) out H):out=.ret (u.to E.toEnc ρ)∧H=hTo E.toEnc ρ hh:=by
 obtain⟨r,ρ',rfl,ha,h1,h2,_⟩:=h
 exact⟨by rw[h1,TV.ids_to ha hu],by rw[h2,Cr ha hb]⟩
def xX(id:Nat):Code→List It2→Option (List It2)
 |.region j ops draw,ks=>match Nat.beq id j with
  |true=>some (.r j ops draw::ks)
  |false=>none
 |.seq a b,ks=>match xX id a (.c b::ks) with
  |some x=>some x
  |none=>xX id b ks
 |.cond _ a b,ks=>match xX id a ks with
  |some x=>some x
  |none=>xX id b ks
 |.block i c,ks=>xX id c (.b i::ks)
 |.loop c,ks=>xX id c (.l c::ks)
 |_,_=>none
def y3(key:Nat):Code→List It2→Option (List It2)
 |.seq a b,ks=>match y3 key a (.c b::ks) with
  |some x=>some x
  |none=>y3 key b ks
 |.cond _ a b,ks=>match y3 key a ks with
  |some x=>some x
  |none=>y3 key b ks
 |.block i c,ks=>y3 key c (.b i::ks)
 |.loop c,ks=>match Nat.beq key (rg c) with
  |true=>some (.k c::ks)
  |false=>y3 key c (.l c::ks)
 |_,_=>none
def atR(id:Nat)(c:Code):List It2:=(xX id c []).getD []
def atL(key:Nat)(c:Code):List It2:=(y3 key c []).getD []
def Tree.map1{L R:Type}:Tree (L × Option R)→Tree L
 |.leaf x=>.leaf x.1
 |.cond b t f=>.cond b t.map1 f.map1
 |.bnd o k=>.bnd o fun z=>(k z).map1
 |.sm x k p=>.sm x (fun z=>(k z).map1) fun v=>(p v).map1
 |.nl l t f=>.nl l t.map1 f.map1
 |.fail=>.fail
def Tree.run{L R:Type}:Tree (L × Option R)→Option R
 |.leaf x=>x.2
 |.cond b t f=>bif b then t.run else f.run
 |.bnd o k=>o.bind fun z=>(k z).run
 |.sm x k p=>match x with
  |.ok z=>(k z).run
  |.pan v=>(p v).run
 |.nl _ _ f=>f.run
 |.fail=>none
def Tree.all{L R:Type}(K:L × Option R→Prop):Tree (L × Option R)→Prop
 |.leaf x=>K x
 |.cond _ t f=>t.all K∧f.all K
 |.bnd _ k=>∀z,(k z).all K
 |.sm _ k p=>(∀z,(k z).all K)∧∀v,(p v).all K
 |.nl l t f=>(l=[] →∀r,f.run=some r→t.run=some r)∧t.all K∧f.all K
 |.fail=>True
theorem iY{L R:Type}{K:L→Prop}{r:R}:∀ {t:Tree (L × Option R)},t.run=some r→t.all (fun p=>p.2=some r→K p.1)→t.map1.holds K
 |.leaf x,h,ha=>ha h
 |.cond true t f,h,ha=>⟨fun _=>iY h ha.1,fun e=>by cases e⟩
 |.cond false t f,h,ha=>⟨(fun e=>by cases e),fun _=>iY h ha.2⟩
 |.bnd none k,h,ha=>by cases h
 |.bnd (some z) k,h,ha=>⟨z,rfl,iY h (ha z)⟩
 |.nl l t f,h,ha=>⟨fun e=>iY (ha.1 e _ h) ha.2.1,iY h ha.2.2⟩
 |.sm (.ok z) k p,h,ha=>⟨(fun z' e=>by cases e;exact iY h (ha.1 z)),fun v e=>by cases e⟩
 |.sm (.pan v) k p,h,ha=>⟨(fun z' e=>by cases e),fun v' e=>by cases e;exact iY h (ha.2 v)⟩
 |.fail,h,ha=>by cases h
def nlR{L:Type}:Nat→Tree L→Tree L
 |0,a=>a
 |n+1,a=>.nl ([] :List Nat) a (nlR n a)
theorem HI{L R:Type}{a:Tree (L × Option R)}:∀n,(nlR n a).run=a.run
 |0=>rfl
 |n+1=>HI n
theorem Ce{L R:Type}{K:L × Option R→Prop}{a:Tree (L × Option R)}{n:Nat}(h:a.all K):(nlR n a).all K:=by
 induction n with
 |zero=>exact h
 |succ n ih=>exact⟨fun _ r hr=>by rw[HI] at hr;exact hr,h,ih⟩
theorem am{R:Type}{r:R}{g:Option R}{m:Nat}{ks:List It2}{σ:TS E.T}{t:Tree (Lf E.T × Option R)}(hev:evM Y E G lv rs m true ks σ=t.map1)(hrun:g=t.run)(hg:g=some r)(ha:t.all (fun p=>p.2=some r→Sq Y E G lv rs K p.1)):eN Y E G lv rs K ks σ:=
 MH m true ks σ (by rw[hev];exact iY (hrun ▸ hg) ha)
theorem S4{α β:Type}{off n:Nat}{l:List α}{k:List α→Option β}{r:β}(e:(l.drop off).take n=[])(h:(JJ off n l).bind k=some r):k [] =some r:=by
 obtain⟨m,hm,h⟩:=Option.bind_eq_some_iff.1 h
 have:=(As hm).2
 rw[e] at this
 subst this
 exact h
theorem ay{R:Type}{enc:R→RL E.T}{r r':R}{u:RL E.T}(e:u=enc r')(h:some r'=some r):u=enc r:=by cases h;exact e
end
def aa:Nat→Func→Code
 |0,fn=>match fn.body with
  |some c=>c
  |none=>.skip
 |n+1,fn=>aa n fn
def eB{T:Nat→Type}(t:Ty):TV T→Option (Den T t)
 |.a x=>asD t x
 |_=>none
def y5(E:Env)(i:Nat):TV E.T→Option (E.T i)
 |.ag l=>match E.pk i l with
  |some (z,[])=>some z
  |_=>none
 |_=>none
theorem bb{E:Env}{t:Ty}{u:TV E.T}{x:Den E.T t}(h:eB t u=some x)(ρ:Rn):LeV (u.to E.toEnc ρ) ((TV.a (.d t x):TV E.T).to E.toEnc ρ):=by
 unfold eB at h
 split at h
 ·rename_i a
  have:=xQ E.toEnc ρ h
  rw[TA.rd_to] at this
  exact .inl ((qv _).trans this)
 ·cases h
theorem mm{E:Env}{i:Nat}{u:TV E.T}{z:E.T i}(h:y5 E i u=some z)(ρ:Rn):LeV (u.to E.toEnc ρ) ((TV.ag (E.unp i z):TV E.T).to E.toEnc ρ):=by
 unfold y5 at h
 split at h
 ·rename_i l
  split at h
  ·rename_i z' hz
   cases h
   have:=Eu (E:=E) i (.ag l) ρ
   unfold G6 at this
   simp only[hz] at this
   exact this
  ·cases h
 ·cases h
theorem DK{P:Program}{E:Env}{f:FuncId}{us us':List (TV E.T)}{ρ:Rn}{post:AOut→List (Nat × List AV)→Prop}(h:ai P f (us'.map (TV.to E.toEnc ρ)) [] post)(hl:us.length=us'.length)(hr:∀ (i:Nat) u u',us[i]? =some u→us'[i]? =some u'→LeV (u.to E.toEnc ρ) (u'.to E.toEnc ρ)):ai P f (us.map (TV.to E.toEnc ρ)) [] post:=
 h.args (by simpa using hl) fun i u u' hu hu'=>by
  simp only[List.getElem?_map,Option.map_eq_some_iff] at hu hu'
  obtain⟨v,hv,rfl⟩:=hu
  obtain⟨v',hv',rfl⟩:=hu'
  exact hr i v v' hv hv'
def y6(E:Env)(ρ:Rn):List (TV E.T)→List (TV E.T)→Prop
 | [],[] =>True
 |u::us,u'::us'=>LeV (u.to E.toEnc ρ) (u'.to E.toEnc ρ)∧y6 E ρ us us'
 |_,_=>False
theorem y6.get{E:Env}{ρ:Rn}:∀ {us us':List (TV E.T)},y6 E ρ us us'→us.length=us'.length∧∀ (i:Nat) u u',us[i]? =some u→us'[i]? =some u'→LeV (u.to E.toEnc ρ) (u'.to E.toEnc ρ)
 | [],[],_=>⟨rfl,fun i u u' h=>by simp at h⟩
 |u::us,u'::us',h=>by
  obtain⟨h1,h2⟩:=y6.get h.2
  refine⟨by simp[h1],fun i v v' hv hv'=> ?_⟩
  cases i with
  |zero=>simp at hv hv';subst hv hv';exact h.1
  |succ i=>exact h2 i v v' (by simpa using hv) (by simpa using hv')
 | [],_::_,h=>h.elim
 |_::_,[],h=>h.elim
theorem bq{P:Program}{E:Env}{f:FuncId}{us us':List (TV E.T)}{ρ:Rn}{post:AOut→List (Nat × List AV)→Prop}(hr:y6 E ρ us us')(h:ai P f (us'.map (TV.to E.toEnc ρ)) [] post):ai P f (us.map (TV.to E.toEnc ρ)) [] post:=DK h hr.get.1 hr.get.2
abbrev w64(n:Int):Int:=IntKind.wrap .i64 n
abbrev toB(n:Int):UInt8:=UInt8.ofNat n.toNat
abbrev b2i(b:UInt8):Int:=((UInt8.toNat b:Nat):Int)
def Si:List Nat→Nat→Nat→Nat
 | [],_,_=>0
 |i::r,k,j=>match Nat.beq j k with
  |true=>i
  |false=>Si r (k+1) j
def nmS(ids:List Nat)(j:Nat):Nat:=match Nat.ble 200000 j with
 |true=>Si ids 200000 j
 |false=>Si ids 100000 j
def oA(ρ:Rn)(ids:List Nat):Rn:=⟨fun j=>ρ.k (nmS ids j)⟩
def AL{E:Env}(us:List (TV E.T))(ρ ρ':Rn):Nat→List (TV E.T)→Prop
 |k,[] =>us.length=k
 |k,u'::r=>(∀u,us[k]? =some u→LeV (u.to E.toEnc ρ) (u'.to E.toEnc ρ'))∧AL us ρ ρ' (k+1) r
theorem AL.get{E:Env}{us:List (TV E.T)}{ρ ρ':Rn}:∀ {us':List (TV E.T)} {k:Nat},AL us ρ ρ' k us'→us.length=k+us'.length∧∀ (i:Nat) u u',us[k+i]? =some u→us'[i]? =some u'→LeV (u.to E.toEnc ρ) (u'.to E.toEnc ρ')
 | [],k,h=>⟨h,fun i u u' _ h'=>by simp at h'⟩
 |v::r,k,h=>by
  obtain⟨h1,h2⟩:=AL.get (us':=r) h.2
  refine⟨by simp only[List.length_cons];omega,fun i u u' hu hu'=> ?_⟩
  cases i with
  |zero=>simp at hu';subst hu';exact h.1 u hu
  |succ i=>exact h2 i u u' (by rw[show k+1+i=k+ (i+1) by omega];exact hu) (by simpa using hu')
def BL{E:Env}(hs:List (Nat × TB E.T))(ρ ρ':Rn):List Nat→List (Nat × TB E.T)→Prop
 | [],[] =>True
 |i::is,q::r=>ρ' q.1=ρ i∧(∃b,look hs i=some b∧LeL (b.to E.toEnc ρ) (q.2.to E.toEnc ρ')∧a8 ρ b=a8 ρ' q.2)∧BL hs ρ ρ' is r
 |_,_=>False
theorem BL.look{E:Env}{hs:List (Nat × TB E.T)}{ρ ρ':Rn}:∀ {ids:List Nat} {h0:List (Nat × TB E.T)},BL hs ρ ρ' ids h0→∀k cs',look (hTo E.toEnc ρ' h0) k=some cs'→∃cs,Go.Proofs.YtobacplonkjigaaDoor.look (hTo E.toEnc ρ (cW hs ids)) k=some cs∧LeL cs cs'
 | [],[],_,k,cs',h=>by cases h
 |i::is,q::r,h,k,cs',hk=>by
  obtain⟨h1,⟨b,h2,h3,h5⟩,h4⟩:=h
  obtain⟨qn,qb⟩:=q
  simp only at h1 h3 h5
  simp only[cW,h2]
  cases hl:a8 ρ b with
  |false=>
   rw[fH _ _ (by rw[← h5];exact hl)] at hk
   rw[fH _ _ hl]
   exact BL.look h4 k cs' hk
  |true=>
   rw[dQ _ _ (by rw[← h5];exact hl),ab,h1] at hk
   rw[dQ _ _ hl,ab]
   split at hk
   ·rename_i e
    rw[if_pos e]
    cases hk
    exact⟨_,rfl,h3⟩
   ·rename_i e
    rw[if_neg e]
    exact BL.look h4 k cs' hk
 | [],_::_,h,_,_,_=>h.elim
 |_::_,[],h,_,_,_=>h.elim
theorem Nn{P:Program}{E:Env}{f:FuncId}{us us':List (TV E.T)}{hs h0:List (Nat × TB E.T)}{ids:List Nat}{ρ ρ':Rn}{post post':AOut→List (Nat × List AV)→Prop}(ha:AL us ρ ρ' 0 us')(hb:BL hs ρ ρ' ids h0)(hc:ai P f (us'.map (TV.to E.toEnc ρ')) (hTo E.toEnc ρ' h0) post)(hp:∀out H,post out H→post' out H):ai P f (us.map (TV.to E.toEnc ρ)) (hTo E.toEnc ρ (cW hs ids)) post':=by
 have h1:ai P f (us.map (TV.to E.toEnc ρ)) (hTo E.toEnc ρ (cW hs ids)) post:=by
  obtain⟨hl,hr⟩:=ha.get
  refine⟨hc.1,fun F X vs hs'=>hc.2 F X vs ?_⟩
  refine hs'.le3 (by simp[hl]) (fun t u' hu=> ?_) (fun k cs' hk=>hb.look k cs' hk) (fun p hp=>hp)
  obtain⟨_,h2⟩:=cY (us'.map (TV.to E.toEnc ρ')) 0 t u' hu
  simp only[Nat.sub_zero,List.getElem?_map,Option.map_eq_some_iff] at h2
  obtain⟨v',hv',rfl⟩:=h2
  have hlt:t < us.length:=by rw[hl];have:=(List.getElem?_eq_some_iff.1 hv').1;omega
  have e:us[0+t]? =some us[t] :=by simp[hlt]
  refine⟨us[t].to E.toEnc ρ,?_,hr t _ _ e hv'⟩
  have key:∀ (us:List AV) (k t:Nat) (u:AV),us[t]? =some u→look (slotsOf k us) (k+t)=some u:=by
   intro us
   induction us with
   |nil=>intro k t u h;simp at h
   |cons a us ih=>
    intro k t u h
    simp only[slotsOf,ab]
    cases t with
    |zero=>simp at h;subst h;simp
    |succ t=>
     rw[if_neg (by omega),show k+ (t+1)=(k+1)+t by omega]
     exact ih (k+1) t u (by simpa using h)
  simpa using key (us.map (TV.to E.toEnc ρ)) 0 t (us[t].to E.toEnc ρ) (by simp[hlt])
 exact h1.mono hp
theorem xT{T:Nat→Type}{hs:List (Nat × TB T)}:∀ {ids:List Nat},b9 hs ids=true→ids.Nodup
 | [],_=>List.nodup_nil
 |i::r,h=>by
  simp only[b9] at h
  split at h
  ·rename_i hm
   exact List.nodup_cons.2 ⟨fun hi=>(by rw[d7.2 hi] at hm;cases hm),xT h⟩
  ·cases h
theorem BL.mem{E:Env}{hs:List (Nat × TB E.T)}{ρ ρ':Rn}:∀ {ids:List Nat} {h0:List (Nat × TB E.T)},BL hs ρ ρ' ids h0→ids.length=h0.length∧∀ (j:Nat) (h1:j < ids.length) (h2:j < h0.length),ρ' h0[j].1=ρ ids[j] ∧∃b,Go.Proofs.YtobacplonkjigaaDoor.look hs ids[j] =some b∧a8 ρ b=a8 ρ' h0[j].2
 | [],[],_=>⟨rfl,fun j h1=>by simp at h1⟩
 |i::is,q::r,h=>by
  obtain⟨h1,⟨b,h2,h3,h5⟩,h4⟩:=h
  obtain⟨k1,k2⟩:=BL.mem h4
  refine⟨by simp[k1],fun j hj1 hj2=> ?_⟩
  cases j with
  |zero=>exact⟨h1,b,h2,h5⟩
  |succ j=>exact k2 j (by simpa using hj1) (by simpa using hj2)
 | [],_::_,h=>absurd h id
 |_::_,[],h=>absurd h id
theorem BL.inj{E:Env}{hs h0:List (Nat × TB E.T)}{ρ ρ':Rn}{ids:List Nat}(hi:Inj ρ hs)(hg:b9 hs ids=true)(hb:BL hs ρ ρ' ids h0)(hn:kZ (h0.map (·.1))=true):Inj ρ' h0:=by
 obtain⟨hl,hm⟩:=hb.mem
 have hnd:=List.pairwise_iff_getElem.1 (xT hg)
 have hn0:=List.pairwise_iff_getElem.1 (yi hn)
 intro p hp q hq
 obtain⟨a,ha,rfl⟩:=List.getElem_of_mem hp
 obtain⟨b,hb',rfl⟩:=List.getElem_of_mem hq
 obtain⟨e1,b1,l1,m1⟩:=hm a (by omega) ha
 obtain⟨e2,b2,l2,m2⟩:=hm b (by omega) hb'
 constructor
 ·intro v1 v2 e
  have:=(hi _ (cI l1) _ (cI l2)).1 (by rw[m1];exact v1) (by rw[m2];exact v2) (by rw[← e1,← e2];exact e)
  simp only at this
  rcases Nat.lt_trichotomy a b with hlt|heq|hgt
  ·exact absurd this (hnd _ _ (by omega) (by omega) hlt)
  ·subst heq;rfl
  ·exact absurd this.symm (hnd _ _ (by omega) (by omega) hgt)
 ·intro e
  rcases Nat.lt_trichotomy a b with hlt|heq|hgt
  ·exact absurd (by rw[List.getElem_map,List.getElem_map];exact e) (hn0 a b (by simpa using ha) (by simpa using hb') hlt)
  ·subst heq;rfl
  ·exact absurd (by rw[List.getElem_map,List.getElem_map];exact e.symm) (hn0 b a (by simpa using hb') (by simpa using ha) hgt)
theorem xK{P:Program}{E:Env}{f:FuncId}{us us':List (TV E.T)}{hs h0:List (Nat × TB E.T)}{ids:List Nat}{ρ ρ':Rn}{post post':AOut→List (Nat × List AV)→Prop}(hi:Inj ρ hs)(hg:b9 hs ids=true)(hn:kZ (h0.map (·.1))=true)(ha:AL us ρ ρ' 0 us')(hb:BL hs ρ ρ' ids h0)(hc:Inj ρ' h0→ai P f (us'.map (TV.to E.toEnc ρ')) (hTo E.toEnc ρ' h0) post)(hp:∀out H,post out H→post' out H):ai P f (us.map (TV.to E.toEnc ρ)) (hTo E.toEnc ρ (cW hs ids)) post':=
 Nn ha hb (hc (hb.inj hi hg hn)) hp
def Jq(ρ ρ':Rn):List Nat→List Nat→Prop
 |i::is,k::ks=>(big k=false∨ρ'.k k=ρ.k i)∧Jq ρ ρ' is ks
 | [],[] =>True
 |_,_=>False
def mvL:List Nat→List Nat→List Nat
 |i::is,k::ks=>match big k with
  |true=>mvL is ks
  |false=>i::mvL is ks
 |_,_=>[]
theorem Jq.get{ρ ρ':Rn}:∀ {ids ks:List Nat},Jq ρ ρ' ids ks→∀i∈ids,i ∉ mvL ids ks→∃k,(k,i)∈ks.zip ids∧big k=true∧ρ'.k k=ρ.k i
 | [],[],_,i,hi,_=>by cases hi
 |j::is,k::ks,h,i,hi,hn=>by
  simp only[mvL] at hn
  cases hb:big k with
  |true=>
   rw[hb] at hn
   rcases List.mem_cons.1 hi with rfl|hi
   ·exact⟨k,List.mem_cons_self,hb,h.1.resolve_left (by rw[hb];decide)⟩
   ·obtain⟨k',h1,h2,h3⟩:=Jq.get h.2 i hi hn
    exact⟨k',List.mem_cons_of_mem _ h1,h2,h3⟩
  |false=>
   rw[hb] at hn
   rcases List.mem_cons.1 hi with rfl|hi
   ·exact absurd List.mem_cons_self hn
   ·obtain⟨k',h1,h2,h3⟩:=Jq.get h.2 i hi fun hc=>hn (List.mem_cons_of_mem _ hc)
    exact⟨k',List.mem_cons_of_mem _ h1,h2,h3⟩
 | [],_::_,h,_,_,_=>absurd h id
 |_::_,[],h,_,_,_=>absurd h id
def qS{T:Nat→Type}{Z:Type}(u:Z→TV T)(h:Z→List (Nat × TB T)):PR Z→RL T
 |.ok z=>.ret (u z) (h z)
 |.pan v=>.pan v
theorem jo{P:Program}{E:Env}{f:FuncId}{us us':List (TV E.T)}{hs h0:List (Nat × TB E.T)}{ids ks:List Nat}{ex:List (Nat × Nat)}{ρ ρ':Rn}{Z:Type}{p:PR Z}{uc u:Z→TV E.T}{hc h:Z→List (Nat × TB E.T)}(hi:Inj ρ hs)(hg:b9 hs ids=true)(hn:kZ (h0.map (·.1))=true)(ha:AL us ρ ρ' 0 us')(hb:BL hs ρ ρ' ids h0)(hf:Jq ρ ρ' ids ks)(hv:kZ ((ks.zip ids++ex).map (·.2))=true)
  (hk:Inj ρ' h0→ai P f (us'.map (TV.to E.toEnc ρ')) (hTo E.toEnc ρ' h0) (bQ E ρ' fun r=>r=qS uc hc p))
  (hu:∀z,(uc z).ren (rO (ks.zip ids++ex))=u z∧pU (rO (ks.zip ids++ex)) (hc z)=h z∧(uc z).ids (inK (ks.zip ids++ex))=true∧sM (inK (ks.zip ids++ex)) (hc z)=true):
  ai P f (us.map (TV.to E.toEnc ρ)) (hTo E.toEnc ρ (cW hs ids)) fun out H=>match(generalizing:=false) p with
   |.ok z=>∃ρ3:Rn,(∀i∈ids,i ∉ mvL ids ks→ρ3.k i=ρ.k i)∧out=.ret ((u z).to E.toEnc ρ3)∧H=hTo E.toEnc ρ3 (h z)∧Inj ρ3 (h z)
   |.pan v=>out=.pan v:=by
 refine Nn ha hb (hk (hb.inj hi hg hn)) ?_
 rintro out H ⟨r,ρ2,rfl,hagr,hr⟩
 cases p with
 |pan v=>exact hr.1
 |ok z=>
  obtain⟨h1,h2,h3⟩:=hr
  obtain⟨k1,k2,k3,k4⟩:=hu z
  have key:∀j,inK (ks.zip ids++ex) j=true→(⟨fun i=>match kN (vR (ks.zip ids++ex)) i with|some j=>ρ2.k j|none=>ρ.k i⟩:Rn).k (rO (ks.zip ids++ex) j)=ρ2.k j:=fun j hj=>by
   unfold inK at hj
   obtain⟨b,hb⟩:=Option.isSome_iff_exists.1 hj
   have:=kg hv (lj hb)
   simp only[rO,hb,Option.getD_some,this]
  have kinj:∀i j,inK (ks.zip ids++ex) i=true→inK (ks.zip ids++ex) j=true→rO (ks.zip ids++ex) i=rO (ks.zip ids++ex) j→i=j:=fun i j hi hj e=>by
   unfold inK at hi hj
   obtain⟨a,ha⟩:=Option.isSome_iff_exists.1 hi
   obtain⟨b,hb⟩:=Option.isSome_iff_exists.1 hj
   simp only[rO,ha,hb,Option.getD_some] at e
   subst e
   have e1:=kg hv (lj ha)
   have e2:=kg hv (lj hb)
   rw[e1] at e2;cases e2;rfl
  refine⟨⟨fun i=>match kN (vR (ks.zip ids++ex)) i with|some j=>ρ2.k j|none=>ρ.k i⟩,fun i hi hm=> ?_,?_,?_,?_⟩
  ·obtain⟨k,q1,q2,q3⟩:=hf.get i hi hm
   have:=kg hv (List.mem_append_left ex q1)
   simp only[this]
   rw[hagr k q2,q3]
  ·rw[h1,← k1,TV.ren_to key k3]
  ·rw[h2,← k2,tz key k4]
  ·rw[← k2];exact tx key kinj k4 h3
def bnX{T:Nat→Type}{α:Type}(o:Option α)(k:α→XR T):XR T:=match o with
 |some x=>k x
 |none=>.bad
theorem ah{P:Program}{E:Env}{f:FuncId}{us:List (TV E.T)}{hs:List (Nat × TB E.T)}{α:Type}{o:Option α}{k:α→XR E.T}(h:∀x,o=some x→(k x).ok P f us hs):(bnX o k).ok P f us hs:=by
 cases o with
 |none=>trivial
 |some x=>exact h x rfl
def gdX{T:Nat→Type}(b:Bool)(x:XR T):XR T:=match b with
 |true=>x
 |false=>.bad
theorem aQ{P:Program}{E:Env}{f:FuncId}{us:List (TV E.T)}{hs:List (Nat × TB E.T)}{b:Bool}{x:XR E.T}(h:b=true→x.ok P f us hs):(gdX b x).ok P f us hs:=by
 cases b with
 |false=>trivial
 |true=>exact h rfl
section
variable {E:Env} {us:List (TV E.T)} {hs:List (Nat × TB E.T)} {l:List (TA E.T)} {k i j:Nat} {t:Ty} {ρ ρ':Rn}
def gJ{α:Type}(us:List α)(n:Nat):Bool:=Nat.beq us.length n
theorem bY{α:Type}{us:List α}{n:Nat}(h:gJ us n=true):us.length=n:=Nat.eq_of_beq_eq_true h
def aD{T:Nat→Type}(t:Ty)(us:List (TV T))(k:Nat):Option (Den T t):=match us[k]? with
 |some u=>eB t u
 |none=>none
def aS(E:Env)(i:Nat)(us:List (TV E.T))(k:Nat):Option (E.T i):=match us[k]? with
 |some u=>y5 E i u
 |none=>none
def aB{T:Nat→Type}(us:List (TV T))(k:Nat):Option Nat:=match us[k]? with
 |some (.a (.box i 0))=>some i
 |_=>none
def aF{T:Nat→Type}(f:FuncId)(us:List (TV T))(k:Nat):Option (List (TA T)):=match us[k]? with
 |some (.fn g l)=>match Nat.beq g f with
  |true=>some l
  |false=>none
 |some (.a (.raw (.func (.func g) ⟨[]⟩ ⟨[]⟩)))=>match Nat.beq g f with
  |true=>some []
  |false=>none
 |_=>none
theorem la{x:Den E.T t}(h:aD t us k=some x):∀u,us[k]? =some u→LeV (u.to E.toEnc ρ) ((TV.a (.d t x):TV E.T).to E.toEnc ρ'):=fun u hu=>by
 unfold aD at h
 rw[hu] at h
 exact bb h ρ
theorem LF{n:Nat}{x:E.T n}(h:aS E n us k=some x):∀u,us[k]? =some u→LeV (u.to E.toEnc ρ) ((TV.ag (E.unp n x):TV E.T).to E.toEnc ρ'):=fun u hu=>by
 unfold aS at h
 rw[hu] at h
 have:=mm h ρ
 have e:(TV.ag (E.unp n x):TV E.T).to E.toEnc ρ'=(TV.ag (E.unp n x):TV E.T).to E.toEnc ρ:=by
  show AV.ag ((E.unp n x).map _)=AV.ag ((E.unp n x).map _)
  rw[E.unp_to,E.unp_to]
 rw[e]
 exact this
theorem oC(h:aB us k=some i)(e:ρ' j=ρ i):∀u,us[k]? =some u→LeV (u.to E.toEnc ρ) ((TV.a (.box j 0):TV E.T).to E.toEnc ρ'):=fun u hu=>by
 unfold aB at h
 rw[hu] at h
 split at h
 ·rename_i i' hu'
  cases hu';cases h
  left
  show Le1 (.v (.pointer (some ⟨ρ i,0,none⟩))) (.v (.pointer (some ⟨ρ' j,0,none⟩)))
  rw[e];exact .refl _
 ·cases h
theorem GN{f:FuncId}{is js:List Nat}(h:aF f us k=some l)(hc:cbs l=some is)(e:(is.map fun i=>ρ i)=js.map fun i=>ρ' i):∀u,us[k]? =some u→LeV (u.to E.toEnc ρ) ((TV.fn f (js.map fun i=>.box i 0):TV E.T).to E.toEnc ρ'):=fun u hu=>by
 unfold aF at h
 rw[hu] at h
 split at h
 ·rename_i g l' hu'
  split at h
  ·rename_i hg
   cases hu';cases h
   have:=Nat.eq_of_beq_eq_true hg
   subst this
   left
   rw[Ck hc]
   simp only[TV.to,List.map_map]
   have e2:is.map ((TA.to E.toEnc ρ) ∘ fun i=>(TA.box i 0:TA E.T))=js.map ((TA.to E.toEnc ρ') ∘ fun i=>(TA.box i 0:TA E.T)):=by
    have:∀ (is:List Nat) (ρ:Rn),is.map ((TA.to E.toEnc ρ) ∘ fun i=>(TA.box i 0:TA E.T))=(is.map ρ).map fun k=>AV.v (.pointer (some ⟨k,0,none⟩)):=fun is ρ=>by
     rw[List.map_map];rfl
    rw[this,this,e]
   rw[e2]
   exact .refl _
  ·cases h
 ·rename_i g hu'
  split at h
  ·rename_i hg
   cases hu';cases h
   have:=Nat.eq_of_beq_eq_true hg
   subst this
   cases hc
   have hj:js=[] :=by
    cases js with
    |nil=>rfl
    |cons a b=>cases e
   subst hj
   right
   refine⟨fun X v hr=> ?_,rfl⟩
   have:=bF hr
   subst this
   exact .fn g [] #[] rfl (fun i u x hu hx=>by simp at hu)
  ·cases h
 ·cases h
def bS(E:Env)(n:Nat)(hs:List (Nat × TB E.T))(i:Nat):Option (E.T n):=match look hs i with
 |some (.cs l)=>match E.pk n l with
  |some (z,[])=>some z
  |_=>none
 |_=>none
def bC{T:Nat→Type}(hs:List (Nat × TB T))(i:Nat):Option (List (TA T)):=match look hs i with
 |some (.cs l)=>some l
 |_=>none
def cD{T:Nat→Type}(t:Ty)(l:List (TA T))(k:Nat):Option (Den T t):=match l[k]? with
 |some a=>asD t a.rd
 |none=>none
def CL{E:Env}(l:List (TA E.T))(ρ ρ':Rn):Nat→List (TA E.T)→Prop
 |k,[] =>l.length=k
 |k,u'::r=>(∀u,l[k]? =some u→Le1 (u.to E.toEnc ρ) (u'.to E.toEnc ρ'))∧CL l ρ ρ' (k+1) r
theorem CL.le:∀ {l':List (TA E.T)} {l:List (TA E.T)} {k:Nat},CL l ρ ρ' k l'→LeL ((l.drop k).map (TA.to E.toEnc ρ)) (l'.map (TA.to E.toEnc ρ'))
 | [],l,k,h=>by
   have h':l.length=k:=h
   rw[List.drop_eq_nil_of_le (by omega)];exact .nil
 |u'::r,l,k,h=>by
  have hlen:∀ (r:List (TA E.T)) (k:Nat),CL l ρ ρ' k r→l.length=k+r.length:=by
   intro r
   induction r with
   |nil=>intro k h;exact h
   |cons a r ih=>intro k h;have:=ih _ h.2;simp only[List.length_cons];omega
  have hk:k < l.length:=by have:=hlen _ _ h;simp only[List.length_cons] at this;omega
  rw[List.drop_eq_getElem_cons hk]
  exact .cons (h.1 _ (List.getElem?_eq_getElem hk)) (CL.le h.2)
theorem o7{l':List (TA E.T)}(h:bC hs i=some l)(hc:CL l ρ ρ' 0 l'):∃b,look hs i=some b∧LeL (b.to E.toEnc ρ) ((TB.cs l':TB E.T).to E.toEnc ρ')∧a8 ρ b=a8 ρ' (TB.cs l':TB E.T):=by
 unfold bC at h
 split at h
 ·rename_i l0 hl
  cases h
  refine⟨_,hl,?_,rfl⟩
  show LeL (l.map _) (l'.map _)
  simpa using hc.le
 ·cases h
theorem ep{x:Den E.T t}(h:cD t l k=some x):∀u,l[k]? =some u→Le1 (u.to E.toEnc ρ) ((TA.d t x:TA E.T).to E.toEnc ρ'):=fun u hu=>by
 unfold cD at h
 rw[hu] at h
 have:=xQ E.toEnc ρ h
 rw[TA.rd_to,TA.rd_to] at this
 have e:((u.to E.toEnc ρ).rd).rd=(u.to E.toEnc ρ).rd:=by rw[← TA.rd_to,← TA.rd_to];cases u<;> rfl
 rw[e] at this
 exact(qv _).trans this
theorem bQ.pan{v:Value}{out:AOut}{H:List (Nat × List AV)}(h:bQ E ρ (fun r=>r=.pan v) out H):out=.pan v:=by
 obtain⟨r,ρ',rfl,ha,h1,h2⟩:=h
 exact h1
def bV{T:Nat→Type}(t:Ty)(hs:List (Nat × TB T))(i:Nat):Option (List (Den T t)):=pL hs t i
theorem ns{x:List (Den E.T t)}(h:bV t hs i=some x)(e:ρ'.k j=ρ.k i):∃b,look hs i=some b∧LeL (b.to E.toEnc ρ) ((TB.vec j t x:TB E.T).to E.toEnc ρ')∧a8 ρ b=a8 ρ' (TB.vec j t x:TB E.T):=by
 have hb:=i4 (σ:=⟨0,[],hs,[]⟩) h
 refine⟨_,hb,?_,?_⟩
 ·simp only[TB.to,e];exact LeL.refl _
 ·simp only[a8,e]
def isV{T:Nat→Type}(t:Ty):TA T→Option (Nat × Nat)
 |.vec t' i n=>match decide (t'=t) with
  |true=>some (i,n)
  |false=>none
 |_=>none
theorem DY{T:Nat→Type}{t:Ty}{p:Nat × Nat}{a:TA T}(h:isV t a=some p):a=.vec t p.1 p.2:=by
 unfold isV at h
 split at h
 ·split at h
  ·rename_i hb
   have:=of_decide_eq_true hb
   subst this
   cases h;rfl
  ·cases h
 ·cases h
def cV{T:Nat→Type}(t:Ty)(l:List (TA T))(k:Nat):Option (Nat × Nat):=match l[k]? with
 |some a=>isV t a
 |none=>none
theorem Vl{n:Nat}(h:cV t l k=some (i,n))(e:ρ'.k j=ρ.k i):∀u,l[k]? =some u→Le1 (u.to E.toEnc ρ) ((TA.vec t j n:TA E.T).to E.toEnc ρ'):=fun u hu=>by
 unfold cV at h
 rw[hu] at h
 rw[DY h]
 simp only[TA.to,e];exact .refl _
def aV{T:Nat→Type}(t:Ty)(us:List (TV T))(k:Nat):Option (Nat × Nat):=match us[k]? with
 |some (.a a)=>isV t a
 |_=>none
theorem UM{n:Nat}(h:aV t us k=some (i,n))(e:ρ'.k j=ρ.k i):∀u,us[k]? =some u→LeV (u.to E.toEnc ρ) ((TV.a (.vec t j n):TV E.T).to E.toEnc ρ'):=fun u hu=>by
 unfold aV at h
 rw[hu] at h
 split at h
 ·rename_i a hu'
  cases hu'
  rw[DY h]
  left
  simp only[TV.to,TA.to,e];exact .refl _
 ·cases h
def cVi{T:Nat→Type}(t:Ty)(l:List (TA T))(k:Nat):Option Nat:=match cV t l k with
 |some p=>some p.1
 |none=>none
def cVn{T:Nat→Type}(t:Ty)(l:List (TA T))(k:Nat):Option Nat:=match cV t l k with
 |some p=>some p.2
 |none=>none
theorem lC{n:Nat}(h:cVi t l k=some i)(h2:cVn t l k=some n)(e:ρ'.k j=ρ.k i):∀u,l[k]? =some u→Le1 (u.to E.toEnc ρ) ((TA.vec t j n:TA E.T).to E.toEnc ρ'):=by
 unfold cVi at h;unfold cVn at h2
 cases hc:cV t l k with
 |none=>rw[hc] at h;cases h
 |some p=>
  rw[hc] at h h2
  cases h;cases h2
  exact Vl hc e
def aVi{T:Nat→Type}(t:Ty)(us:List (TV T))(k:Nat):Option Nat:=match aV t us k with
 |some p=>some p.1
 |none=>none
def aVn{T:Nat→Type}(t:Ty)(us:List (TV T))(k:Nat):Option Nat:=match aV t us k with
 |some p=>some p.2
 |none=>none
theorem Tg{n:Nat}(h:aVi t us k=some i)(h2:aVn t us k=some n)(e:ρ'.k j=ρ.k i):∀u,us[k]? =some u→LeV (u.to E.toEnc ρ) ((TV.a (.vec t j n):TV E.T).to E.toEnc ρ'):=by
 unfold aVi at h;unfold aVn at h2
 cases hc:aV t us k with
 |none=>rw[hc] at h;cases h
 |some p=>
  rw[hc] at h h2
  cases h;cases h2
  exact UM hc e
def aM{T:Nat→Type}(us:List (TV T))(k:Nat):Option Nat:=match us[k]? with
 |some (.a (.mpr i))=>some i
 |_=>none
theorem Ro(h:aM us k=some i)(e:ρ' j=ρ i):∀u,us[k]? =some u→LeV (u.to E.toEnc ρ) ((TV.a (.mpr j):TV E.T).to E.toEnc ρ'):=fun u hu=>by
 unfold aM at h
 rw[hu] at h
 split at h
 ·rename_i i' hu'
  cases hu';cases h
  left
  show Le1 (.v (.map (some (ρ i)))) (.v (.map (some (ρ' j))))
  rw[e];exact .refl _
 ·cases h
def bI{T:Nat→Type}(t:Ty)(hs:List (Nat × TB T))(i:Nat):Option (List (Int × Den T t)):=match look hs i with
 |some (.imap t' l)=>if h:t'=t then some (h ▸ l) else none
 |_=>none
theorem Rf{x:List (Int × Den E.T t)}(h:bI t hs i=some x):∃b,look hs i=some b∧LeL (b.to E.toEnc ρ) ((TB.imap t x:TB E.T).to E.toEnc ρ')∧a8 ρ b=a8 ρ' (TB.imap t x:TB E.T):=by
 unfold bI at h
 split at h
 ·rename_i t' l hl
  split at h
  ·rename_i e;subst e;cases h;exact⟨_,hl,LeL.refl _,rfl⟩
  ·cases h
 ·cases h
def aN{T:Nat→Type}(us:List (TV T))(k:Nat):Bool:=match us[k]? with
 |some (.a (.raw (.slice none 0 0)))=>true
 |_=>false
theorem VI(h:aN us k=true):∀u,us[k]? =some u→LeV (u.to E.toEnc ρ) ((TV.a (.raw (.slice none 0 0)):TV E.T).to E.toEnc ρ'):=fun u hu=>by
 unfold aN at h
 rw[hu] at h
 split at h
 ·rename_i hu'
  cases hu'
  exact .inl (.refl _)
 ·cases h
def isU{T:Nat→Type}(t:Ty):TA T→Option (Nat × Nat × Nat)
 |.vsl t' i off n=>match decide (t'=t) with
  |true=>some (i,off,n)
  |false=>none
 |.vec t' i n=>match decide (t'=t) with
  |true=>some (i,0,n)
  |false=>none
 |_=>none
theorem Pm(b:Bk)(sz n:Nat):vecV b sz n=pn b sz 0 n:=by
 unfold vecV pn
 rw[Nat.zero_add]
 split
 ·rfl
 ·rw[Nat.zero_mul,ite_self]
theorem Ml{E:Env}{ρ:Rn}{t:Ty}{p:Nat × Nat × Nat}{a:TA E.T}(h:isU t a=some p):a.to E.toEnc ρ=(TA.vsl t p.1 p.2.1 p.2.2:TA E.T).to E.toEnc ρ:=by
 unfold isU at h
 split at h
 ·split at h
  ·rename_i hb
   have:=of_decide_eq_true hb
   subst this
   cases h;rfl
  ·cases h
 ·split at h
  ·rename_i hb
   have:=of_decide_eq_true hb
   subst this
   cases h
   simp only[TA.to,Pm]
  ·cases h
 ·cases h
def aU{T:Nat→Type}(t:Ty)(us:List (TV T))(k:Nat):Option (Nat × Nat × Nat):=match us[k]? with
 |some (.a a)=>isU t a
 |_=>none
def aUi{T:Nat→Type}(t:Ty)(us:List (TV T))(k:Nat):Option Nat:=match aU t us k with
 |some p=>some p.1
 |none=>none
def aUo{T:Nat→Type}(t:Ty)(us:List (TV T))(k:Nat):Option Nat:=match aU t us k with
 |some p=>some p.2.1
 |none=>none
def aUn{T:Nat→Type}(t:Ty)(us:List (TV T))(k:Nat):Option Nat:=match aU t us k with
 |some p=>some p.2.2
 |none=>none
theorem UX{off n:Nat}(h:aUi t us k=some i)(h2:aUo t us k=some off)(h3:aUn t us k=some n)(e:ρ'.k j=ρ.k i):∀u,us[k]? =some u→LeV (u.to E.toEnc ρ) ((TV.a (.vsl t j off n):TV E.T).to E.toEnc ρ'):=fun u hu=>by
 unfold aUi at h;unfold aUo at h2;unfold aUn at h3
 cases hc:aU t us k with
 |none=>rw[hc] at h;cases h
 |some p=>
  rw[hc] at h h2 h3
  cases h;cases h2;cases h3
  unfold aU at hc
  rw[hu] at hc
  split at hc
  ·rename_i a hu'
   cases hu'
   left
   have e2:(TV.a a:TV E.T).to E.toEnc ρ=(TV.a (.vsl t p.1 p.2.1 p.2.2):TV E.T).to E.toEnc ρ:=Ml hc
   rw[e2]
   simp only[TV.to,TA.to,e];exact .refl _
  ·cases hc
def xOf{T:Nat→Type}(h:List (TV T)→PV T):List (TV T)→List (Nat × TB T)→XR T:=fun us hs=>match h us with
 |.one u=>.ret (some ()) [] (fun _=>u) fun _=>[]
 |.opt o u=>.ret o [] u fun _=>[]
 |.bad=>.bad
end
theorem Nk{P:Program}{E:Env}{f:FuncId}{h:List (TV E.T)→PV E.T}(hf:∀us,(h us).ok fun u=>∀ρ,ai P f (us.map (TV.to E.toEnc ρ)) [] (fun out H=>out=.ret (u.to E.toEnc ρ)∧H=[])):XOk P E f (xOf h):=fun us hs=>by
 have hu:=hf us
 unfold xOf
 cases hh:h us with
 |one u=>rw[hh] at hu;exact fun z hz=>⟨rfl,fun ρ hi=>hu ρ⟩
 |opt o u=>rw[hh] at hu;exact fun z hz=>⟨rfl,fun ρ hi=>hu z hz ρ⟩
 |bad=>trivial
theorem Qs{l:List Nat}(h:l.length=0):l=[] :=List.length_eq_zero_iff.1 h
end Go.Proofs.YtobacplonkjigaaDoor
