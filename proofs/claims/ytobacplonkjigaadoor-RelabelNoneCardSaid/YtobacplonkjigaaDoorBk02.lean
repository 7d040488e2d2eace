import Derived.Test.YtobacplonkjigaaDoorBk01
import Derived.Conc.EntryLaws
import Derived.BigQuiet
import Derived.Laws.BitsLemmas
import Derived.Laws.Tables
import Derived.Laws.AppendOwn
import Derived.MapKept
import Derived.Laws.MakeOwn
import Derived.Recover
set_option linter.unusedSimpArgs false
set_option linter.unusedVariables false
namespace Go.Proofs.YtobacplonkjigaaDoor
open Go.RowKit P
inductive AOut where
 |ret (u:AV)
 |pan (x:Value)
def slotsOf:Nat→List AV→List (Nat × AV)
 |_,[] =>[]
 |k,u::us=>(k,u)::slotsOf (k+1) us
theorem cY:∀ (us:List AV) (k t:Nat) (u:AV),look (slotsOf k us) t=some u→k≤t∧us[t - k]? =some u
 | [],_,_,_,h=>by cases h
 |u0::us,k,t,u,h=>by
  simp only[slotsOf,ab] at h
  split at h
  ·rename_i e;subst e;cases h;exact⟨Nat.le_refl _,by simp⟩
  ·rename_i e
   obtain⟨h1,h2⟩:=cY us (k+1) t u h
   refine⟨by omega,?_⟩
   rw[show t - k=(t - (k+1))+1 by omega];simpa using h2
def qQ(F:Nat→Prop)(X':GW)(e:Ending)(out:AOut)(H':List (Nat × List AV)):Prop:=
 match out with
 |.ret u=>∃v,e=.returned v∧SimE F X' ⟨1,[(0,u)],H',[]⟩ #[v]
 |.pan x=>e=.panicked [{ v:=x,recovered:=false }] ∧SimE F X' ⟨1,[],H',[]⟩ #[undef]
def IQ(P:Program)(f:FuncId):Prop:=∃fn,P.funcs[f]? =some fn∧(fn.name== "runtime.NumGoroutine")=false∧fn.body.isNone=false
def ai(P:Program)(f:FuncId)(us:List AV)(H:List (Nat × List AV))(post:AOut→List (Nat × List AV)→Prop):Prop:=
 IQ P f∧∀F X (vs:Array Value),SimE F X ⟨us.length,slotsOf 0 us,H,[]⟩ vs→Calls P f vs X.w fun e w'=>∃ (X':GW) (out:AOut) (H':List (Nat × List AV)),X'.w=w'∧post out H'∧qQ F X' e out H'∧Ext F X X'
section
variable {P:Program} {Q:Exit→AS→Prop} {ks:List It} {T:Tys P} {σ:AS} {t u ty e:TypeId} {x y z:Operand} {pos:String} {af:Array Edge} {g:Option (Nat × Bool)} {F:Nat→Prop} {X:GW}
theorem ai.mono{f:FuncId}{us:List AV}{H:List (Nat × List AV)}{post post':AOut→List (Nat × List AV)→Prop}(h:ai P f us H post)(hp:∀out H',post out H'→post' out H'):ai P f us H post':=
 ⟨h.1,fun F X vs hs=>(h.2 F X vs hs).mono fun _ _ ⟨X',out,H',h1,h2,h3,h4⟩=>⟨X',out,H',h1,hp _ _ h2,h3,h4⟩⟩
def F5(rs:List ResultVar)(σ:AS):Option AV:=
 match rs with
 | [.tmp t] =>look σ.t t
 | [.tmp t,.tmp t'] =>match look σ.t t,look σ.t t' with|some u,some u'=>some (.tu [u.rd,u'.rd])|_,_=>none
 | [.tmp t,.tmp t',.tmp t''] =>match look σ.t t,look σ.t t',look σ.t t'' with|some u,some u',some u''=>some (.tu [u.rd,u'.rd,u''.rd])|_,_,_=>none
 | [] =>some (.tu [])
 |_=>none
def Dx(rs:List ResultVar)(post:AOut→List (Nat × List AV)→Prop):Exit→AS→Prop
 |.ret,σ|.normal,σ=>∃u,F5 rs σ=some u∧post (.ret u) σ.h
 |.panic [⟨v,false,false⟩],σ=>post (.pan v) σ.h
 |_,_=>False
theorem SimE.other{F':Nat→Prop}{σ':AS}{tm tm':Array Value}(h:SimE F X σ tm)(hsize:tm'.size=σ'.n)(hfb:∀b,F' b→b < X.w.heap.size)(hslot:∀t u,look σ'.t t=some u→Rel X u (tm'.getD t undef))
  (hbox:∀k cs,look σ'.h k=some cs→look σ.h k=some cs∧¬F' k) (he:σ'.e=[]) (f:Root→Root)
  (hf:∀r sz l,σ'.own r=some (sz,l)→(rootV tm' X.w r=some (.slice none 0 0)∧l=[])∨(σ.own (f r)=some (sz,l)∧rootV tm' X.w r=rootV tm X.w (f r)∧∀a n c,rootV tm' X.w r=some (.slice (some a) n c)→¬F' a.block))
  (hinj:∀r r' a n c a' n' c',r≠r'→σ'.own r≠none→σ'.own r'≠none→rootV tm' X.w r=some (.slice (some a) n c)→rootV tm' X.w r'=some (.slice (some a') n' c')→f r≠f r'):SimE F' X σ' tm':=by
 refine⟨⟨hsize,h.gb,hfb,hslot,fun k cs hk=> ?_,(by rw[he];intro x r hx;cases hx),fun r sz l ho=> ?_,fun r r' sz l sz' l' a n c a' n' c' hne ho ho' hr hr'=> ?_⟩,(by rw[he];intro p hp;cases hp)⟩
 ·obtain⟨h1,h2⟩:=hbox k cs hk
  exact(h.box k cs h1).keep ⟨rfl,rfl,h2⟩ (mH.refl X)
 ·rcases hf r sz l ho with ⟨h1,h2⟩| ⟨h1,h2,h3⟩
  ·exact⟨_,h1,.inl ⟨rfl,h2⟩⟩
  ·obtain⟨v,k1,k2⟩:=h.own _ _ _ h1
   rw[k1] at h2
   exact⟨v,h2,k2.keep fun b n c hv=>⟨rfl,rfl,h3 ⟨b,0,none⟩ n c (by rw[h2,hv])⟩⟩
 ·rcases hf r sz l ho with ⟨h1,h2⟩| ⟨h1,h2,h3⟩
  ·rw[h1] at hr;cases hr
  ·rcases hf r' sz' l' ho' with ⟨k1,k2⟩| ⟨k1,k2,k3⟩
   ·rw[k1] at hr';cases hr'
   ·have hi:=hinj r r' a n c a' n' c' hne (by rw[ho];simp) (by rw[ho'];simp) hr hr'
    rw[h2] at hr;rw[k2] at hr'
    exact h.disj (f r) (f r') sz l sz' l' a n c a' n' c' hi h1 k1 hr hr'
theorem mK{t sz:Nat}{l:List (List AV)}(h:σ.own (.s t)=some (sz,l)):look σ.t t=some (.sl true sz l):=B9 h
theorem oy{us:List AV}{t:Nat}{u:AV}(h:look (slotsOf 0 us) t=some u):t < us.length:=by
 obtain⟨_,h2⟩:=cY us 0 t u h
 have:=(List.getElem?_eq_some_iff.1 h2).1
 omega
theorem SimE.enter{us:List AV}{H:List (Nat × List AV)}{vs:Array Value}{n:Nat}(h:SimE F X ⟨us.length,slotsOf 0 us,H,[]⟩ vs)(hn:us.length≤n):SimE F X ⟨n,slotsOf 0 us,H,[]⟩ (vs++Array.replicate (n - vs.size) undef):=by
 have hsz:vs.size=us.length:=h.size
 have hget:∀t,t < us.length→(vs++Array.replicate (n - vs.size) undef).getD t undef=vs.getD t undef:=by
  intro t ht
  simp only[Array.getD_eq_getD_getElem?]
  rw[Array.getElem?_append_left (by omega)]
 refine h.other (by simp;omega) h.fb (fun t u hu=> ?_) (fun k cs hk=>⟨hk,(h.box k cs hk).nF⟩) rfl id (fun r sz l ho=>.inr ⟨ho,?_,?_⟩) (fun _ _ _ _ _ _ _ _ hne _ _ _ _=>hne)
 ·rw[hget t (oy hu)];exact h.slot t u hu
 ·cases r with
  |c k o=>rfl
  |s t=>simp only[id,rootV];rw[hget t (oy (mK ho))]
 ·intro a n' c hr
  have hr2:rootV vs X.w r=some (.slice (some a) n' c):=by
   cases r with
   |c k o=>exact hr
   |s t=>simp only[rootV] at hr ⊢;rw[hget t (oy (mK ho))] at hr;exact hr
  obtain⟨v,k1,k2⟩:=h.own r sz l ho
  rw[hr2] at k1;cases k1
  rcases k2 with ⟨k2,_⟩| ⟨b,cap,cs,e,fr,k2,_,_,_,_,k3⟩
  ·cases k2
  ·cases k2;exact k3
theorem jb{u:AV}{H:List (Nat × List AV)}{t sz:Nat}{l:List (List AV)}(h:AS.own ⟨1,[(0,u)],H,[]⟩ (.s t)=some (sz,l)):t=0∧cw (some u)=some (sz,l):=by
 simp only[AS.own,ab,av] at h
 split at h
 ·rename_i e;exact⟨e,h⟩
 ·cases h
theorem SimE.result{tm:Array Value}{u:AV}{v:Value}(h:SimE F X σ tm)(hr:Rel X u v)(ho:∀sz l,cw (some u)=some (sz,l)→∃t,σ.own (.s t)=some (sz,l)∧tm.getD t undef=v):SimE F X ⟨1,[(0,u)],σ.h,[]⟩ #[v] :=by
 have hno:∀r sz l a n c,σ.own r=some (sz,l)→rootV tm X.w r=some (.slice (some a) n c)→¬F a.block:=by
  intro r sz l a n c ho hr2
  obtain⟨w,k1,k2⟩:=h.own r sz l ho
  rw[hr2] at k1;cases k1
  rcases k2 with ⟨k2,_⟩| ⟨b,cap,cs,e,fr,k2,_,_,_,_,k3⟩
  ·cases k2
  ·cases k2;exact k3
 by_cases hu:∃sz l,cw (some u)=some (sz,l)
 ·obtain⟨sz0,l0,hu0⟩:=hu
  obtain⟨t0,h1,h2⟩:=ho sz0 l0 hu0
  refine h.other rfl h.fb (fun t u' hu'=> ?_) (fun k cs hk=>⟨hk,(h.box k cs hk).nF⟩) rfl (fun r=>match r with|.s _=>.s t0|r=>r) (fun r sz l hr2=>.inr ?_) (fun r r' _ _ _ _ _ _ hne ha hb _ _=> ?_)
  ·simp only[ab,av] at hu'
   split at hu'
   ·rename_i e;subst e;cases hu';exact hr
   ·cases hu'
  ·cases r with
   |c k o=>exact⟨hr2,rfl,fun a n c hv=>hno (.c k o) sz l a n c hr2 hv⟩
   |s t=>
    obtain⟨rfl,h3⟩:=jb hr2
    rw[hu0] at h3;cases h3
    refine⟨h1,by simp only[rootV];rw[h2];rfl,fun a n c hv=>hno (.s t0) sz0 l0 a n c h1 ?_⟩
    simp only[rootV] at hv ⊢;rw[h2];exact hv
  ·cases r with
   |s t=>
    cases r' with
    |s t'=>
     obtain⟨p,hp⟩:=Option.ne_none_iff_exists'.1 ha
     obtain⟨p',hp'⟩:=Option.ne_none_iff_exists'.1 hb
     obtain⟨rfl,_⟩:=jb (sz:=p.1) (l:=p.2) hp
     obtain⟨rfl,_⟩:=jb (sz:=p'.1) (l:=p'.2) hp'
     exact absurd rfl hne
    |c k o=>simp
   |c k o=>
    cases r' with
    |s t'=>simp
    |c k' o'=>exact hne
 ·refine h.other rfl h.fb (fun t u' hu'=> ?_) (fun k cs hk=>⟨hk,(h.box k cs hk).nF⟩) rfl id (fun r sz l hr2=>.inr ?_) (fun _ _ _ _ _ _ _ _ hne _ _ _ _=>hne)
  ·simp only[ab,av] at hu'
   split at hu'
   ·rename_i e;subst e;cases hu';exact hr
   ·cases hu'
  ·cases r with
   |c k o=>exact⟨hr2,rfl,fun a n c hv=>hno (.c k o) sz l a n c hr2 hv⟩
   |s t=>
    obtain⟨rfl,h3⟩:=jb hr2
    exact absurd ⟨sz,l,h3⟩ hu
theorem zM{fn:Func}{t:Nat}{tm:Array Value}{w:World}(h:fn.results.toList=[.tmp t]):(results fn tm).run P w=.ok (tm.getD t undef) w:=by
 have:fn.results= #[.tmp t] :=by rw[← Array.toArray_toList (xs:=fn.results),h]
 simp[results,this]
theorem zT{fn:Func}{t t':Nat}{tm:Array Value}{w:World}(h:fn.results.toList=[.tmp t,.tmp t']):(results fn tm).run P w=.ok (.tuple #[tm.getD t undef,tm.getD t' undef]) w:=by
 have:fn.results= #[.tmp t,.tmp t'] :=by rw[← Array.toArray_toList (xs:=fn.results),h]
 simp[results,this]
theorem zP{fn:Func}{t t' t'':Nat}{tm:Array Value}{w:World}(h:fn.results.toList=[.tmp t,.tmp t',.tmp t'']):(results fn tm).run P w=.ok (.tuple #[tm.getD t undef,tm.getD t' undef,tm.getD t'' undef]) w:=by
 have:fn.results= #[.tmp t,.tmp t',.tmp t''] :=by rw[← Array.toArray_toList (xs:=fn.results),h]
 simp[results,this]
theorem zO{fn:Func}{tm:Array Value}{w:World}(h:fn.results.toList=[]):(results fn tm).run P w=.ok (.tuple #[]) w:=by
 have:fn.results= #[] :=by rw[← Array.toArray_toList (xs:=fn.results),h]
 simp[results,this]
theorem Bn{fn:Func}{tm:Array Value}{u:AV}(h:SimE F X σ tm)(hr:F5 fn.results.toList σ=some u):∃v,(results fn tm).run P X.w=.ok v X.w∧SimE F X ⟨1,[(0,u)],σ.h,[]⟩ #[v] :=by
 unfold F5 at hr
 split at hr
 ·rename_i t hrs
  refine⟨_,zM hrs,h.result (h.slot t u hr) fun sz l ho=>⟨t,?_,rfl⟩⟩
  simp only[AS.own];rw[hr];exact ho
 ·rename_i t t' hrs
  split at hr
  ·rename_i u1 u2 h1 h2
   cases hr
   exact⟨_,zT hrs,h.result (.tu _ _ rfl (fun i u v hu hv=>by
    match i with
    |0=>simp at hu hv;subst hu;rw[← hv,← Array.getD_eq_getD_getElem?];exact(h.slot t u1 h1).rd
    |1=>simp at hu hv;subst hu;rw[← hv,← Array.getD_eq_getD_getElem?];exact(h.slot t' u2 h2).rd
    |i+2=>simp at hu)) fun sz l ho=>by cases ho⟩
  ·cases hr
 ·rename_i t t' t'' hrs
  split at hr
  ·rename_i u1 u2 u3 h1 h2 h3
   cases hr
   exact⟨_,zP hrs,h.result (.tu _ _ rfl (fun i u v hu hv=>by
    match i with
    |0=>simp at hu hv;subst hu;rw[← hv,← Array.getD_eq_getD_getElem?];exact(h.slot t u1 h1).rd
    |1=>simp at hu hv;subst hu;rw[← hv,← Array.getD_eq_getD_getElem?];exact(h.slot t' u2 h2).rd
    |2=>simp at hu hv;subst hu;rw[← hv,← Array.getD_eq_getD_getElem?];exact(h.slot t'' u3 h3).rd
    |i+3=>simp at hu)) fun sz l ho=>by cases ho⟩
  ·cases hr
 ·rename_i hrs
  cases hr
  exact⟨_,zO hrs,h.result (.tu _ _ rfl (fun i u v hu hv=>by simp at hu)) fun sz l ho=>by cases ho⟩
 ·cases hr
theorem Ee{rs:List ResultVar}{post:AOut→List (Nat × List AV)→Prop}:∀ {chain:List PanicEntry},Dx rs post (.panic chain) σ→∃v,chain=[⟨v,false,false⟩] ∧post (.pan v) σ.h
 | [⟨v,false,false⟩],h=>⟨v,rfl,h⟩
 | [],h=>h.elim
 | [⟨_,true,_⟩],h=>h.elim
 | [⟨_,false,true⟩],h=>h.elim
 | ⟨_,true,_⟩::_::_,h=>h.elim
 | ⟨_,false,true⟩::_::_,h=>h.elim
 | ⟨_,false,false⟩::_::_,h=>h.elim
theorem Dv{f:FuncId}{fn:Func}{c:Code}{us:List AV}{H:List (Nat × List AV)}{post:AOut→List (Nat × List AV)→Prop}(hf:P.funcs[f]? =some fn)(hn:(fn.name== "runtime.NumGoroutine")=false)(hb:fn.body=some c)(hus:Nat.ble us.length fn.ntmps=true)
  (h:aY P (Dx fn.results.toList post) [.c c] ⟨fn.ntmps,slotsOf 0 us,H,[]⟩):ai P f us H post:=by
 refine⟨⟨fn,hf,hn,by rw[hb];rfl⟩,fun F X vs hs=>calls_of_wp hf hb ?_⟩
 have hle:=Nat.le_of_ble_eq_true hus
 have h2:=h F X { tmps:=vs++Array.replicate (fn.ntmps - vs.size) undef,defers:=[] } (hs.enter hle) [] rfl
 refine wp_mono h2 fun e a' w' hp=> ?_
 obtain⟨p1,X',σ',p2,p3,p4,p5⟩:=hp
 subst p2
 have fin:∀ (u:AV),F5 fn.results.toList σ'=some u→post (.ret u) σ'.h→a'.defers=[] ∧∃v,(results fn a'.tmps).run P X'.w=.ok v X'.w∧(∃ (X'':GW) (out:AOut) (H':List (Nat × List AV)),X''.w=X'.w∧post out H'∧qQ F X'' (.returned v) out H'∧Ext F X X''):=by
  intro u hu hpost
  obtain⟨v,k1,k2⟩:=Bn (P:=P) (fn:=fn) p4 hu
  exact⟨p1,v,k1,X',.ret u,σ'.h,rfl,hpost,⟨v,rfl,k2⟩,p5⟩
 cases e with
 |normal=>
  simp only[Stk,Dx] at p3
  obtain⟨u,h3,h4⟩:=p3
  exact fin u h3 h4
 |ret=>
  simp only[Stk,Dx] at p3
  obtain⟨u,h3,h4⟩:=p3
  exact fin u h3 h4
 |panic chain=>
  obtain⟨v,rfl,p3⟩:=Ee p3
  ·refine⟨p1,X',.pan v,σ'.h,rfl,p3,⟨rfl,?_⟩,p5⟩
   refine p4.other rfl p4.fb (fun t u hu=>by cases hu) (fun k cs hk=>⟨hk,(p4.box k cs hk).nF⟩) rfl id (fun r sz l ho=>.inr ?_) (fun _ _ _ _ _ _ _ _ hne _ _ _ _=>hne)
   cases r with
   |s t=>simp only[AS.own,av,cw] at ho;cases ho
   |c k o=>
    refine⟨ho,rfl,fun a n c hr=> ?_⟩
    obtain⟨v',k1,k2⟩:=p4.own (.c k o) sz l ho
    have hr':rootV a'.tmps X'.w (.c k o)=some (.slice (some a) n c):=hr
    rw[hr'] at k1;cases k1
    rcases k2 with ⟨k2,_⟩| ⟨b,cap,cs,e,fr,k2,_,_,_,_,k3⟩
    ·cases k2
    ·cases k2;exact k3
 |exit id=>exact p3.elim
 |goto l=>exact p3.elim
 |outgrown=>exact p3.elim
end
section
variable {P:Program} {Q:Exit→AS→Prop} {ks:List It} {T:Tys P} {σ:AS} {ty:TypeId} {pos:String} {af:Array Edge} {g:Option (Nat × Bool)} {F:Nat→Prop} {X:GW}
inductive PArg (σ:AS):Operand→AV→Option Root→Prop
 |rd {x:Operand} {u u':AV} (h:opV σ x=some u) (hl:Le1 u u') (ho:cw (some u')=none):PArg σ x u' none
 |nil {x:Operand} {sz:Nat} (h:opV σ x=some (.v (.slice none 0 0))):PArg σ x (.sl true sz []) none
 |own {s:Nat} {r:Root} {sz:Nat} {l:List (List AV)} (h:kI σ s=some r) (ho:σ.own r=some (sz,l)):PArg σ (.tmp s) (.sl true sz l) (some r)
inductive PArgs (σ:AS):List Operand→List AV→List (Option Root)→Prop
 |nil:PArgs σ [] [] []
 |cons {x:Operand} {u:AV} {ρ:Option Root} {xs:List Operand} {us:List AV} {ρs:List (Option Root)} (h:PArg σ x u ρ) (hs:PArgs σ xs us ρs):PArgs σ (x::xs) (u::us) (ρ::ρs)
theorem PArgs.len{xs us ρs}(h:PArgs σ xs us ρs):us.length=xs.length∧ρs.length=xs.length:=by
 induction h with
 |nil=>exact⟨rfl,rfl⟩
 |cons _ _ ih=>simp[ih.1,ih.2]
theorem PArgs.get{xs us ρs}(h:PArgs σ xs us ρs):∀ (i:Nat) u,us[i]? =some u→∃x ρ,xs[i]? =some x∧ρs[i]? =some ρ∧PArg σ x u ρ:=by
 induction h with
 |nil=>intro i u h;simp at h
 |cons h _ ih=>
  intro i u hu
  cases i with
  |zero=>simp at hu;subst hu;exact⟨_,_,rfl,rfl,h⟩
  |succ i=>simpa using ih i u (by simpa using hu)
theorem bt{a:Act}{x:Operand}{u:AV}(hs:SimE F X σ a.tmps)(h:opV σ x=some u):Rel X u (a.eval x):=by
 cases x with
 |tmp t=>exact hs.slot t u h
 |const v=>cases h;exact nH X v
 |func f=>cases h;exact .v _
 |global g=>cases h;exact .v _
theorem PArg.rel{a:Act}{x:Operand}{u:AV}{ρ:Option Root}(hs:SimE F X σ a.tmps)(h:PArg σ x u ρ):Rel X u (a.eval x):=by
 cases h with
 |rd h hl ho=>exact hl.rel (bt hs h)
 |nil h=>rw[bF (bt hs h)];exact .nil _ _
 |own h ho=>exact wX hs ho (nq hs h)
def dn:List (Option Root)→AS→AS
 | [],σ=>σ
 |none::ρs,σ=>dn ρs σ
 |some r::ρs,σ=>dn ρs (σ.lay r)
theorem SimE.layAll{tm:Array Value}:∀ (ρs:List (Option Root)) (σ:AS),SimE F X σ tm→SimE F X (dn ρs σ) tm
 | [],_,h=>h
 |none::ρs,σ,h=>SimE.layAll ρs σ h
 |some r::ρs,σ,h=>SimE.layAll ρs _ (h.lay r)
theorem wY{σ:AS}{r r':Root}{q:Nat × List (List AV)}(h:(σ.lay r).own r'=some q):r'≠r∧σ.own r'=some q:=by
 by_cases e:r'=r
 ·subst e;rw[mo] at h;cases h
 ·rw[sF e] at h;exact⟨e,h⟩
theorem s8:∀ (ρs:List (Option Root)) (σ:AS) {r':Root} {q:Nat × List (List AV)},(dn ρs σ).own r'=some q→σ.own r'=some q∧∀r,some r∈ρs→r'≠r
 | [],_,_,_,h=>⟨h,by simp⟩
 |none::ρs,σ,r',q,h=>by
  obtain⟨h1,h2⟩:=s8 ρs σ h
  exact⟨h1,fun r hr=>h2 r (by simpa using hr)⟩
 |some r0::ρs,σ,r',q,h=>by
  obtain⟨h1,h2⟩:=s8 ρs _ h
  obtain⟨k1,k2⟩:=wY h1
  refine⟨k2,fun r hr=> ?_⟩
  rcases List.mem_cons.1 hr with e|e
  ·cases e;exact k1
  ·exact h2 r e
theorem Ra(σ:AS)(r:Root):(σ.lay r).n=σ.n:=by cases r<;> rfl
theorem yr:∀ (ρs:List (Option Root)) (σ:AS),(dn ρs σ).n=σ.n
 | [],_=>rfl
 |none::ρs,σ=>yr ρs σ
 |some r::ρs,σ=>by simp only[dn];rw[yr,Ra]
theorem SimE.across{F F1:Nat→Prop}{X X':GW}{tm:Array Value}(h:SimE F X σ tm)(hx:Ext F1 X X')(hg:∀b n,X'.g b=some n→b < X'.w.heap.size)(hown:∀r sz l a n c,σ.own r=some (sz,l)→rootV tm X.w r=some (.slice (some a) n c)→F1 a.block)(hbox:∀k cs,look σ.h k=some cs→F1 k)(hal:∀p∈σ.e,∀b o,p.2≠.c b o):SimE F X' σ tm:=by
 have hcs:∀k o sz l,σ.own (.c k o)=some (sz,l)→F1 k:=fun k o sz l ho=>by
  obtain⟨cs,hc,_⟩:=iB ho
  exact hbox k cs hc
 have hroot:∀r sz l,σ.own r=some (sz,l)→rootV tm X'.w r=rootV tm X.w r:=by
  intro r sz l ho
  cases r with
  |s t=>rfl
  |c k o=>simp only[rootV];rw[cN (hx.frame k (hcs k o sz l ho)).1]
 have heq:lM σ.e tm X'.w:=by
  intro p hp
  have h1:=h.eqm p hp
  cases hr:p.2 with
  |s t=>rw[hr] at h1;exact h1
  |c k o=>exact absurd hr (hal p hp k o)
 refine⟨⟨h.size,hg,fun b hb=>Nat.lt_of_lt_of_le (h.fb b hb) hx.size,fun t u hu=>(h.slot t u hu).mono hx.pres,fun k cs hk=> ?_,heq.look,fun r sz l ho=> ?_,fun r r' sz l sz' l' a n c a' n' c' hne ho ho' hr hr'=> ?_⟩,heq⟩
 ·have:=hx.frame k (hbox k cs hk)
  have hb:=h.box k cs hk
  exact hb.keep ⟨this.1,this.2,hb.nF⟩ hx.pres
 ·obtain⟨v,k1,k2⟩:=h.own r sz l ho
  refine⟨v,by rw[hroot r sz l ho];exact k1,k2.keep fun b n c hv=> ?_⟩
  have h2:=hown r sz l ⟨b,0,none⟩ n c ho (by rw[k1,hv])
  exact⟨(hx.frame b h2).1,(hx.frame b h2).2,(k2.lt hv).2⟩
 ·rw[hroot r sz l ho] at hr
  rw[hroot r' sz' l' ho'] at hr'
  exact h.disj r r' sz l sz' l' a n c a' n' c' hne ho ho' hr hr'
theorem lY{α:Type}:∀ (a b:List (Nat × α)) (k:Nat),look (a++b) k=match look a k with|some x=>some x|none=>look b k
 | [],b,k=>rfl
 | (k0,x)::r,b,k=>by
   simp only[List.cons_append,ab]
   split
   ·rfl
   ·exact lY r b k
theorem SimE.own_nF{tm:Array Value}(h:SimE F X σ tm){r sz l a n c}(ho:σ.own r=some (sz,l))(hr:rootV tm X.w r=some (.slice (some a) n c)):¬F a.block∧(∃n,X.g a.block=some n)∧a.block < X.w.heap.size:=by
 obtain⟨w,k1,k2⟩:=h.own r sz l ho
 rw[hr] at k1;cases k1
 rcases k2 with ⟨k2,_⟩| ⟨b,cap,cs,e,fr,k2,k4,k5,_,_,k3⟩
 ·cases k2
 ·cases k2;exact⟨k3,⟨_,k4⟩,(Array.getElem?_eq_some_iff.1 k5).1⟩
theorem pZ{n:Nat}{t:List (Nat × AV)}{H1 H2:List (Nat × List AV)}{e:List (Nat × Root)}{r:Root}{q:Nat × List (List AV)}(h:AS.own ⟨n,t,H1++H2,e⟩ r=some q):AS.own ⟨n,t,H2,e⟩ r=some q∨∃k o,r=.c k o∧AS.own ⟨1,[],H1,[]⟩ r=some q:=by
 cases r with
 |s t0=>exact .inl h
 |c k o=>
  simp only[AS.own,lY] at h ⊢
  cases hl:look H1 k with
  |none=>rw[hl] at h;exact .inl h
  |some cs=>rw[hl] at h;exact .inr ⟨k,o,rfl,by simpa using h⟩
theorem SimE.join{F F1:Nat→Prop}{tm:Array Value}{n:Nat}{t:List (Nat × AV)}{e:List (Nat × Root)}{Hr H':List (Nat × List AV)}{u:AV}{v:Value}(h:SimE F X ⟨n,t,Hr,e⟩ tm)(h':SimE F1 X ⟨1,[(0,u)],H',[]⟩ #[v])(hF:∀b,F b→F1 b)
  (hown:∀r sz l a n' c,AS.own ⟨n,t,Hr,e⟩ r=some (sz,l)→rootV tm X.w r=some (.slice (some a) n' c)→F1 a.block) (hbox:∀k cs,look Hr k=some cs→F1 k):SimE F X ⟨n,t,H'++Hr,e⟩ tm∧
  (∀sz l,cw (some u)=some (sz,l)→gl F X sz l v)∧
  (∀r sz l sz' l' a n' c a' n'' c',AS.own ⟨n,t,H'++Hr,e⟩ r=some (sz,l)→cw (some u)=some (sz',l')→rootV tm X.w r=some (.slice (some a) n' c)→v=.slice (some a') n'' c'→a.block≠a'.block):=by
 have hH':∀k o sz l,AS.own ⟨1,[],H',[]⟩ (.c k o)=some (sz,l)→AS.own ⟨1,[(0,u)],H',[]⟩ (.c k o)=some (sz,l):=fun _ _ _ _ h=>h
 have hu0:∀sz l,cw (some u)=some (sz,l)→AS.own ⟨1,[(0,u)],H',[]⟩ (.s 0)=some (sz,l):=fun sz l h=>by simp only[AS.own,ab];exact h
 have toF:∀ {sz l y},gl F1 X sz l y→gl F X sz l y:=fun hk=>hk.keep fun b n c hv=>⟨rfl,rfl,fun hb=>(hk.lt hv).2 (hF b hb)⟩
 refine⟨⟨⟨h.size,h.gb,h.fb,h.slot,fun k cs hk=> ?_,h.eqs,fun r sz l ho=> ?_,fun r r' sz l sz' l' a n c a' n' c' hne ho ho' hr hr'=> ?_⟩,h.eqm⟩,fun sz l hu=> ?_,fun r sz l sz' l' a n' c a' n'' c' ho hu hr hv=> ?_⟩
 ·simp only at hk
  rw[lY] at hk
  cases hl:look H' k with
  |none=>rw[hl] at hk;exact h.box k cs hk
  |some cs'=>
   rw[hl] at hk;cases hk
   have hb:=h'.box k cs hl
   exact hb.keep ⟨rfl,rfl,fun hb2=>hb.nF (hF k hb2)⟩ (mH.refl X)
 ·rcases pZ ho with h1| ⟨k,o,rfl,h1⟩
  ·exact h.own r sz l h1
  ·obtain⟨y,k1,k2⟩:=h'.own (.c k o) sz l (hH' k o sz l h1)
   exact⟨y,k1,toF k2⟩
 ·rcases pZ ho with h1| ⟨k,o,rfl,h1⟩
  ·rcases pZ ho' with h2| ⟨k',o',rfl,h2⟩
   ·exact h.disj r r' sz l sz' l' a n c a' n' c' hne h1 h2 hr hr'
   ·intro e1
    have:=hown r sz l a n c h1 hr
    exact(h'.own_nF (hH' k' o' sz' l' h2) hr').1 (by rw[← e1];exact this)
  ·rcases pZ ho' with h2| ⟨k',o',rfl,h2⟩
   ·intro e1
    have:=hown r' sz' l' a' n' c' h2 hr'
    exact(h'.own_nF (hH' k o sz l h1) hr).1 (by rw[e1];exact this)
   ·exact h'.disj (.c k o) (.c k' o') sz l sz' l' a n c a' n' c' hne (hH' k o sz l h1) (hH' k' o' sz' l' h2) hr hr'
 ·obtain⟨y,k1,k2⟩:=h'.own (.s 0) sz l (hu0 sz l hu)
  simp only[rootV] at k1
  cases k1
  exact toF k2
 ·have hv0:rootV #[v] X.w (.s 0)=some (.slice (some a') n'' c'):=by simp only[rootV];rw[← hv];rfl
  rcases pZ ho with h1| ⟨k,o,rfl,h1⟩
  ·intro e1
   have:=hown r sz l a n' c h1 hr
   exact(h'.own_nF (hu0 sz' l' hu) hv0).1 (by rw[← e1];exact this)
  ·exact h'.disj (.c k o) (.s 0) sz l sz' l' a n' c a' n'' c' (by simp) (hH' k o sz l h1) (hu0 sz' l' hu) hr hv0
def dT(σ:AS)(ρs:List (Option Root))(Hr H':List (Nat × List AV)):AS:={ n:=σ.n,t:=(dn ρs σ).t,h:=H'++Hr,e:=(dn ρs σ).dropC.e }
theorem lh{f:FuncId}{args:Array Value}{w:World}(h:IQ P f):(callFunc f args).run P w=.ok (.enter f args) w:=by
 obtain⟨fn,h1,h2,h3⟩:=h
 have hb:¬fn.body=none:=by intro e;rw[e] at h3;cases h3
 have hn:¬fn.name= "runtime.NumGoroutine" :=by simpa using h2
 simp[callFunc,program,Sem.run,h1,hn,hb]
def Sx(ρs:List (Option Root))(Hp:List (Nat × List AV))(r:Root):Prop:=some r∈ρs∨∃k o,r=.c k o∧look Hp k≠none
theorem Gl{σ:AS}{r:Root}{k:Nat}{cs:List AV}(h:look (σ.lay r).h k=some cs):∃cs0,look σ.h k=some cs0:=by
 cases r with
 |s t=>exact⟨cs,h⟩
 |c k0 o=>
  simp only[AS.lay] at h
  cases hl:look σ.h k0 with
  |none=>rw[hl] at h;exact⟨cs,h⟩
  |some cs0=>
   rw[hl] at h
   simp only[ab] at h
   split at h
   ·rename_i e;subst e;exact⟨cs0,hl⟩
   ·exact⟨cs,h⟩
theorem n8:∀ (ρs:List (Option Root)) (σ:AS) {k:Nat} {cs:List AV},look (dn ρs σ).h k=some cs→∃cs0,look σ.h k=some cs0
 | [],_,_,_,h=>⟨_,h⟩
 |none::ρs,σ,_,_,h=>n8 ρs σ h
 |some r::ρs,σ,_,_,h=>by
  obtain⟨c1,h1⟩:=n8 ρs _ h
  exact Gl h1
inductive PVal (σ:AS) (X:GW) (tm:Array Value):Value→AV→Option Root→Prop
 |rd {v:Value} {u:AV} (h:Rel X u v) (ho:cw (some u)=none):PVal σ X tm v u none
 |nil {sz:Nat}:PVal σ X tm (.slice none 0 0) (.sl true sz []) none
 |own {v:Value} {r:Root} {sz:Nat} {l:List (List AV)} (h:rootV tm X.w r=some v) (ho:σ.own r=some (sz,l)):PVal σ X tm v (.sl true sz l) (some r)
theorem PArg.val{a:Act}{x:Operand}{u:AV}{ρ:Option Root}(hs:SimE F X σ a.tmps)(h:PArg σ x u ρ):PVal σ X a.tmps (a.eval x) u ρ:=by
 cases h with
 |rd h hl ho=>exact .rd (hl.rel (bt hs h)) ho
 |nil h=>rw[bF (bt hs h)];exact .nil
 |own h ho=>exact .own (nq hs h) ho
theorem PVal.rel{tm:Array Value}{v:Value}{u:AV}{ρ:Option Root}(hs:SimE F X σ tm)(h:PVal σ X tm v u ρ):Rel X u v:=by
 cases h with
 |rd h ho=>exact h
 |nil=>exact .nil _ _
 |own h ho=>exact wX hs ho h
theorem pq{f:FuncId}{tm:Array Value}{vs:Array Value}{d:Nat}{us:List AV}{ρs:List (Option Root)}{Hp Hr:List (Nat × List AV)}{post:AOut→List (Nat × List AV)→Prop}(hs:SimE F X σ tm)(hc:ai P f us Hp post)(hvsz:vs.size=us.length)(ha:∀ (i:Nat) u,us[i]? =some u→∃ρ,ρs[i]? =some ρ∧PVal σ X tm (vs.getD i undef) u ρ)
  (hnd:∀ (i j:Nat) r,ρs[i]? =some (some r)→ρs[j]? =some (some r)→i=j) (hroot:∀k o,some (Root.c k o)∈ρs→look Hp k=none) (hHp:∀k cs,look Hp k=some cs→look σ.h k=some cs) (hHr:∀k cs,look Hr k=some cs→look (dn ρs σ).h k=some cs∧look Hp k=none)
  (hd:d < σ.n):Calls P f vs X.w fun e w'=>∃ (X':GW) (out:AOut) (H':List (Nat × List AV)),X'.w=w'∧post out H'∧Ext F X X'∧SimE F X' (dT σ ρs Hr H') tm∧(match out with
   |.ret u=>∃v,e=.returned v∧SimE F X' ((dT σ ρs Hr H').put d u) (tm.setIfInBounds d v)
   |.pan x=>e=.panicked [{ v:=x,recovered:=false }])∧∀k cs,look H' k=some cs→look Hr k=none:=by
 let τ:AS:=⟨us.length,slotsOf 0 us,Hp,[]⟩
 let F1:Nat→Prop:=fun b=>b < X.w.heap.size∧(∀r sz l q n c,Sx ρs Hp r→σ.own r=some (sz,l)→rootV tm X.w r=some (.slice (some q) n c)→q.block≠b)∧look Hp b=none
 have hroot1:∀ (i sz:Nat) l,τ.own (.s i)=some (sz,l)→(rootV vs X.w (.s i)=some (.slice none 0 0)∧l=[])∨∃r,ρs[i]? =some (some r)∧σ.own r=some (sz,l)∧rootV tm X.w r=rootV vs X.w (.s i):=by
  intro i sz l ho
  have h1:=mK ho
  obtain⟨_,h2⟩:=cY us 0 i _ h1
  obtain⟨ρ,hρ,hp⟩:=ha i _ h2
  have hvv:rootV vs X.w (.s i)=some (vs.getD i undef):=rfl
  generalize vs.getD i undef=v at hp hvv
  cases hp with
  |rd h ho=>cases ho
  |nil=>left;exact⟨hvv,rfl⟩
  |own h ho=>right;exact⟨_,hρ,ho,by rw[h,hvv]⟩
 have hcown:∀k o sz l,τ.own (.c k o)=some (sz,l)→σ.own (.c k o)=some (sz,l)∧Sx ρs Hp (.c k o):=by
  intro k o sz l ho
  obtain⟨cs,hk,h1⟩:=iB ho
  have hk':look Hp k=some cs:=hk
  refine⟨by simp only[AS.own];rw[hHp k cs hk'];exact h1,.inr ⟨k,o,rfl,by rw[hk'];simp⟩⟩
 have hτ:SimE F1 X τ vs:=by
  refine hs.other hvsz (fun b hb=>hb.1) (fun i u hu=> ?_) (fun k cs hk=>⟨hHp k cs hk,fun hb=>by have:=hb.2.2;rw[show look Hp k=some cs from hk] at this;cases this⟩) rfl (fun r=>match r with|.s i=>(match ρs[i]? with|some (some r)=>r|_=>.s i)|.c k o=>.c k o) (fun r sz l ho=> ?_) (fun r r' q1 n1 c1 q2 n2 c2 hne h1 h2 hv1 hv2=> ?_)
  ·obtain⟨_,h2⟩:=cY us 0 i u hu
   obtain⟨ρ,hρ,hp⟩:=ha i u h2
   exact hp.rel hs
  ·cases r with
   |s i=>
    rcases hroot1 i sz l ho with h1| ⟨r,h1,h2,h3⟩
    ·exact .inl h1
    ·right
     simp only[h1]
     refine⟨h2,h3.symm,fun q n c hq hb=> ?_⟩
     rw[← h3] at hq
     exact hb.2.1 r sz l q n c (.inl (List.mem_of_getElem? h1)) h2 hq rfl
   |c k o=>
    right
    obtain⟨h3,h4⟩:=hcown k o sz l ho
    exact⟨h3,rfl,fun q n c hq hb=>hb.2.1 _ sz l q n c h4 h3 hq rfl⟩
  ·obtain⟨⟨sz1,l1⟩,ho1⟩:=Option.ne_none_iff_exists'.1 h1
   obtain⟨⟨sz2,l2⟩,ho2⟩:=Option.ne_none_iff_exists'.1 h2
   cases r with
   |s i=>
    rcases hroot1 i sz1 l1 ho1 with ⟨k1,_⟩| ⟨r1,k1,k2,k3⟩
    ·rw[hv1] at k1;cases k1
    ·cases r' with
     |s j=>
      rcases hroot1 j sz2 l2 ho2 with ⟨m1,_⟩| ⟨r2,m1,m2,m3⟩
      ·rw[hv2] at m1;cases m1
      ·simp only[k1,m1]
       intro e1
       subst e1
       exact hne (by rw[hnd i j r1 k1 m1])
     |c k o=>
      simp only[k1]
      intro e1
      subst e1
      have:=hroot k o (List.mem_of_getElem? k1)
      obtain⟨cs,hk,_⟩:=iB ho2
      rw[show look Hp k=some cs from hk] at this;cases this
   |c k o=>
    cases r' with
    |s j=>
     rcases hroot1 j sz2 l2 ho2 with ⟨m1,_⟩| ⟨r2,m1,m2,m3⟩
     ·rw[hv2] at m1;cases m1
     ·simp only[m1]
      intro e1
      subst e1
      have:=hroot k o (List.mem_of_getElem? m1)
      obtain⟨cs,hk,_⟩:=iB ho1
      rw[show look Hp k=some cs from hk] at this;cases this
    |c k' o'=>exact hne
 have hF1:∀b,F b→F1 b:=by
  intro b hb
  refine⟨hs.fb b hb,fun r sz l q n c _ ho hr e1=>(hs.own_nF ho hr).1 (by rw[e1];exact hb),?_⟩
  cases hl:look Hp b with
  |none=>rfl
  |some cs=>exact absurd hb (hs.box b cs (hHp b cs hl)).nF
 refine(hc.2 F1 X vs hτ).mono fun e w' ⟨X',out,H',p1,p2,p3,p4⟩=> ?_
 refine⟨X',out,H',p1,p2,p4.mono hF1,?_⟩
 have hl:=hs.layAll ρs
 have hr0:SimE F X ⟨σ.n,(dn ρs σ).t,Hr,(dn ρs σ).dropC.e⟩ tm:=hl.dropC.sub (yr ρs σ).symm (fun _ _ h=>h) (fun k cs hk=>(hHr k cs hk).1) (fun _ h=>h)
 have hrown:∀r sz l,AS.own ⟨σ.n,(dn ρs σ).t,Hr,(dn ρs σ).dropC.e⟩ r=some (sz,l)→σ.own r=some (sz,l)∧¬Sx ρs Hp r:=by
  intro r sz l ho
  have h1:(dn ρs σ).own r=some (sz,l):=by
   cases r with
   |s t=>exact ho
   |c k o=>
    obtain⟨cs,hk,h2⟩:=iB ho
    simp only[AS.own];rw[(hHr k cs hk).1];exact h2
  obtain⟨h2,h3⟩:=s8 ρs σ h1
  refine⟨h2,fun hg=> ?_⟩
  rcases hg with hg| ⟨k,o,rfl,hk⟩
  ·exact h3 r hg rfl
  ·obtain⟨cs,hk2,_⟩:=iB ho
   exact hk (hHr k cs hk2).2
 have hrF1:∀r sz l q n c,AS.own ⟨σ.n,(dn ρs σ).t,Hr,(dn ρs σ).dropC.e⟩ r=some (sz,l)→rootV tm X.w r=some (.slice (some q) n c)→F1 q.block:=by
  intro r sz l q n c ho hr
  obtain⟨h1,h2⟩:=hrown r sz l ho
  obtain⟨k1,⟨m,k2⟩,k3⟩:=hs.own_nF h1 hr
  refine⟨k3,fun r' sz' l' q' n' c' hg ho' hr' e1=> ?_,?_⟩
  ·exact hs.disj r' r sz' l' sz l q' n' c' q n c (fun e2=>h2 (by rw[← e2];exact hg)) ho' h1 hr' hr e1
  ·cases hlk:look Hp q.block with
   |none=>rfl
   |some cs=>
    have:=(hs.box _ cs (hHp _ cs hlk)).gn
    rw[k2] at this;cases this
 have hrbox:∀k cs,look Hr k=some cs→F1 k:=by
  intro k cs hk
  obtain⟨h1,h2⟩:=hHr k cs hk
  obtain⟨cs0,h3⟩:=n8 ρs σ h1
  have hb:=hs.box k cs0 h3
  refine⟨hb.lt,fun r sz l q n c _ ho hr e1=> ?_,h2⟩
  obtain⟨_,⟨m,k2⟩,_⟩:=hs.own_nF ho hr
  rw[e1,hb.gn] at k2;cases k2
 have hgb':∀b n,X'.g b=some n→b < X'.w.heap.size:=by
  cases out with
  |ret u=>obtain⟨v,_,hv⟩:=p3;exact hv.gb
  |pan x=>exact p3.2.gb
 have hacross:=hr0.across p4 hgb' hrF1 hrbox (fun p hp b o=>p9 p hp o)
 have hrF1':∀r sz l q n c,AS.own ⟨σ.n,(dn ρs σ).t,Hr,(dn ρs σ).dropC.e⟩ r=some (sz,l)→rootV tm X'.w r=some (.slice (some q) n c)→F1 q.block:=by
  intro r sz l q n c ho hr
  refine hrF1 r sz l q n c ho ?_
  cases r with
  |s t=>exact hr
  |c k o=>
   obtain⟨cs,hk,_⟩:=iB ho
   simp only[rootV] at hr ⊢
   rw[← cN (p4.frame k (hrbox k cs hk)).1];exact hr
 cases out with
 |ret u=>
  obtain⟨v,rfl,hv⟩:=p3
  obtain⟨j1,j2,j3⟩:=SimE.join hacross hv hF1 hrF1' hrbox
  refine⟨j1,⟨v,rfl,j1.put' hd (hv.slot 0 u (by simp[ab])) j2 j3⟩,fun k cs hk=> ?_⟩
  cases hrk:look Hr k with
  |none=>rfl
  |some cs'=>exact absurd (hrbox k cs' hrk) (hv.box k cs hk).nF
 |pan x=>
  have hv0:SimE F1 X' ⟨1,[(0,.v undef)],H',[]⟩ #[undef] :=by
   refine p3.2.other rfl p3.2.fb (fun t u hu=> ?_) (fun k cs hk=>⟨hk,(p3.2.box k cs hk).nF⟩) rfl id (fun r sz l ho=>.inr ?_) (fun _ _ _ _ _ _ _ _ hne _ _ _ _=>hne)
   ·simp only[ab,av] at hu
    split at hu
    ·rename_i e1;subst e1;cases hu;exact .v _
    ·cases hu
   ·cases r with
    |s t=>obtain⟨_,h2⟩:=jb ho;cases h2
    |c k o=>exact⟨ho,rfl,fun q n c hr=>(p3.2.own_nF (r:=.c k o) ho hr).1⟩
  obtain⟨j1,_,_⟩:=SimE.join hacross hv0 hF1 hrF1' hrbox
  refine⟨j1,p3.1,fun k cs hk=> ?_⟩
  cases hrk:look Hr k with
  |none=>rfl
  |some cs'=>exact absurd (hrbox k cs' hrk) (p3.2.box k cs hk).nF
theorem Jh{f:FuncId}{tm:Array Value}{vs:Array Value}{d:Nat}{us:List AV}{ρs:List (Option Root)}{Hp Hr:List (Nat × List AV)}{post:AOut→List (Nat × List AV)→Prop}(hs:SimE F X σ tm)(hc:ai P f us Hp post)(hvsz:vs.size=us.length)(ha:∀ (i:Nat) u,us[i]? =some u→∃ρ,ρs[i]? =some ρ∧PVal σ X tm (vs.getD i undef) u ρ)
  (hnd:∀ (i j:Nat) r,ρs[i]? =some (some r)→ρs[j]? =some (some r)→i=j) (hroot:∀k o,some (Root.c k o)∈ρs→look Hp k=none) (hHp:∀k cs,look Hp k=some cs→look σ.h k=some cs) (hHr:∀k cs,look Hr k=some cs→look (dn ρs σ).h k=some cs∧look Hp k=none)
  (hd:d < σ.n):Calls P f vs X.w fun e w'=>∃ (X':GW) (out:AOut) (H':List (Nat × List AV)),X'.w=w'∧post out H'∧Ext F X X'∧SimE F X' (dT σ ρs Hr H') tm∧match out with
   |.ret u=>∃v,e=.returned v∧SimE F X' ((dT σ ρs Hr H').put d u) (tm.setIfInBounds d v)
   |.pan x=>e=.panicked [{ v:=x,recovered:=false }] :=
 (pq hs hc hvsz ha hnd hroot hHp hHr hd).mono fun e w' ⟨X',out,H',p1,p2,p3,p4,p5,_⟩=>⟨X',out,H',p1,p2,p3,p4,p5⟩
theorem xZ{f:FuncId}{xs:Array Operand}{ats:Array TypeId}{d:Nat}{us:List AV}{ρs:List (Option Root)}{Hp Hr:List (Nat × List AV)}{post:AOut→List (Nat × List AV)→Prop}(hc:ai P f us Hp post)(ha:PArgs σ xs.toList us ρs)
  (hnd:∀ (i j:Nat) r,ρs[i]? =some (some r)→ρs[j]? =some (some r)→i=j) (hroot:∀k o,some (Root.c k o)∈ρs→look Hp k=none) (hHp:∀k cs,look Hp k=some cs→look σ.h k=some cs) (hHr:∀k cs,look Hr k=some cs→look (dn ρs σ).h k=some cs∧look Hp k=none)
  (hd:Nat.ble (d+1) σ.n=true) {R:AS→Prop} (hR:∀out H',post out H'→∃u,out=.ret u∧R ((dT σ ρs Hr H').put d u)):cy P ⟨some d,.call { callee:=.value (.func f),args:=xs,argTypes:=ats },ty,pos,af,g⟩ σ R:=by
 intro F X a hs
 have hlen:=ha.len
 unfold jN
 rw[Conc.execOp_call_func rfl,lh hc.1]
 refine(Jh (vs:=xs.map a.eval) hs hc (by simp[hlen.1]) (fun i u hu=> ?_) hnd hroot hHp hHr (ba hd)).mono fun e w' ⟨X',out,H',p1,p2,p3,_,p4⟩=> ?_
 ·obtain⟨x,ρ,hx,hρ,hp⟩:=ha.get i u hu
  have hx':xs[i]? =some x:=by simpa using hx
  have:(xs.map a.eval).getD i undef=a.eval x:=by simp[hx']
  rw[this];exact⟨ρ,hρ,hp.val hs⟩
 ·obtain⟨u,rfl,hu⟩:=hR out H' p2
  obtain⟨v,rfl,hv⟩:=p4
  exact⟨X',_,p1,hu,hv,p3⟩
end
def jY(l:List UInt8):List (List AV):=l.map fun b=>[AV.v (.int .u8 b.toNat)]
theorem gB(l:List UInt8):(jY l).length=l.length:=by simp[jY]
def bE(m:List (List AV)):Prop:=∀r∈m,∀u∈r,u.one=true
theorem az(l:List UInt8):bE (jY l):=by
 intro r hr u hu
 simp only[jY,List.mem_map] at hr
 obtain⟨b,_,rfl⟩:=hr
 simp at hu;subst hu;rfl
section
variable {P:Program} {Q:Exit→AS→Prop} {ks:List It} {T:Tys P} {σ:AS} {t u ty e:TypeId} {x y z:Operand} {pos:String} {af:Array Edge} {g:Option (Nat × Bool)} {F:Nat→Prop} {X:GW} {l:List Oper} {k:Nat} {rest:List Oper} {d:Nat}
theorem p7{o:Bool}{sz:Nat}{L:List (List AV)}{v:Value}(h:Rel X (.sl o sz L) v):∀r∈L,r.length=sz:=by
 rcases n4 h with ⟨_,rfl⟩| ⟨_,_,_,_,_,_,_,_,_,h1,_⟩
 ·intro r hr;cases hr
 ·intro r hr
  obtain⟨i,hi⟩:=List.getElem?_of_mem hr
  exact h1 i r hi
theorem cb{a:Act}{t u ty:TypeId}{xs ys:Operand}{xv yv v:Value}{w w':World}(h1:a.eval xs=xv)(h2:a.eval ys=yv)(h:(Builtin.append_ #[t,u] ty #[xv,yv]).run P w=.ok v w'):
  (execOp a.eval ⟨some d,.call { callee:=.builtin .append,args:= #[xs,ys],argTypes:= #[t,u] },ty,pos,af,g⟩).run P w=.ok (.value v) w':=by
 subst h1 h2
 simp[execOp,resolve,invoke,builtin,h]
theorem xB{s:Nat}{r:Root}{sz by_:Nat}{L m:List (List AV)}{du:TypeDesc}(hr:kI σ s=some r)(ho:σ.own r=some (sz,L))(ht:look T.ty t=some (.slice e))(hu:look T.ty u=some du)(hnz:du=.string∨∃e',du=.slice e')(hz:look T.sz e=some (sz,by_))(hb:Nat.ble 1 by_=true)
  (hadd:∀F X (a:Act),SimE F X σ a.tmps→∃c,AddsA P X sz m (a.eval y) c) (hfit:(L.length+m.length) * by_≤140737488355328) (hd:Nat.ble (d+1) σ.n=true) {R:AS→Prop} (hR:R ((σ.lay r).dropC.put d (.sl true sz (L++m)))):
  cy P ⟨some d,.call { callee:=.builtin .append,args:= #[.tmp s,y],argTypes:= #[t,u] },ty,pos,af,g⟩ σ R:=by
 intro F X a hs
 obtain⟨i,hi1,hi2,hi3,zv,hi4,hi5⟩:=T.szOk _ _ _ hz
 obtain⟨c',hadd⟩:=hadd F X a hs
 have hxv:=nq hs hr
 have hrel:=wX hs ho hxv
 obtain⟨v,hv1,hown⟩:=hs.own r sz L ho
 rw[hxv] at hv1;cases hv1
 have hs1:=(hs.lay r).dropC
 have howns:∀r' q,(σ.lay r).dropC.own r'=some q→σ.own r'=some q∧r'≠r:=fun r' q h=>by
  have h1:(σ.lay r).own r'=some q:=by cases r'<;> exact h
  exact⟨(wY h1).2,(wY h1).1⟩
 obtain⟨X',yv,hrun,happ⟩:=vS (P:=P) (ty:=ty) hs1 (T.tyOk _ _ ht) (T.tyOk _ _ hu) hnz hi1 hi4 hi5 hi2 hrel hown (p7 hrel) hadd (by rw[hi3];exact hfit) (by rw[hi3];exact Nat.le_of_ble_eq_true hb)
  (fun r' sz' l' q n c q' n' c' ho' hr' hx=>by
   obtain⟨h1,h2⟩:=howns r' _ ho'
   exact hs.disj r' r sz' l' sz L q n c q' n' c' h2 h1 ho hr' (by rw[hxv,hx])) (fun b p hp o=>p9 p hp o)
 refine ci (x:=yv) (w':=X'.w) (cb rfl rfl hrun) ⟨X',_,rfl,hR,?_,happ.ext⟩
 exact happ.sim.put' (by show d < (σ.lay r).n;rw[Ra];exact ba hd) happ.rel (fun sz' l' h=>by cases h;exact happ.own) (fun r' sz' l' sz2 l2 q n c q' n' c' h1 _ h2 h3=>happ.apart r' sz' l' q n c q' n' c' h1 h2 h3)
theorem yC{sz by_:Nat}{m:List (List AV)}{du:TypeDesc}(hx:opV σ x=some (.v (.slice none 0 0)))(ht:look T.ty t=some (.slice e))(hu:look T.ty u=some du)(hnz:du=.string∨∃e',du=.slice e')(hz:look T.sz e=some (sz,by_))(hb:Nat.ble 1 by_=true)
  (hadd:∀F X (a:Act),SimE F X σ a.tmps→∃c,AddsA P X sz m (a.eval y) c) (hfit:m.length * by_≤140737488355328) (hd:Nat.ble (d+1) σ.n=true) {R:AS→Prop} (hR:R (σ.dropC.put d (.sl true sz m))):
  cy P ⟨some d,.call { callee:=.builtin .append,args:= #[x,y],argTypes:= #[t,u] },ty,pos,af,g⟩ σ R:=by
 intro F X a hs
 obtain⟨i,hi1,hi2,hi3,zv,hi4,hi5⟩:=T.szOk _ _ _ hz
 obtain⟨c',hadd⟩:=hadd F X a hs
 have hs1:=hs.dropC
 obtain⟨X',yv,hrun,happ⟩:=vS (P:=P) (ty:=ty) (L:=[]) (sz:=sz) (xv:=.slice none 0 0) hs1 (T.tyOk _ _ ht) (T.tyOk _ _ hu) hnz hi1 hi4 hi5 hi2 (.nil _ _) (.inl ⟨rfl,rfl⟩) (by simp) hadd (by rw[hi3];simpa using hfit) (by rw[hi3];exact Nat.le_of_ble_eq_true hb)
  (fun r' sz' l' q n c q' n' c' ho' hr' hx=>by cases hx) (fun b p hp o=>p9 p hp o)
 refine ci (x:=yv) (w':=X'.w) (cb (bF (bt hs hx)) rfl hrun) ⟨X',_,rfl,hR,?_,happ.ext⟩
 exact happ.sim.put' (ba hd) happ.rel (fun sz' l' h=>by cases h;exact happ.own) (fun r' sz' l' sz2 l2 q n c q' n' c' h1 _ h2 h3=>happ.apart r' sz' l' q n c q' n' c' h1 h2 h3)
theorem QC{o:Bool}{sz:Nat}{m:List (List AV)}(hy:opV σ y=some (.sl o sz m))(h1:bE m):∀F X (a:Act),SimE F X σ a.tmps→∃c,AddsA P X sz m (a.eval y) c:=fun F X a hs=>by
 have h2:=bt hs hy
 exact tv h2 (fun r hr=>⟨p7 h2 r hr,h1 r hr⟩)
theorem LK{sz:Nat}(hy:opV σ y=some (.v (.slice none 0 0))):∀F X (a:Act),SimE F X σ a.tmps→∃c,AddsA P X sz [] (a.eval y) c:=fun F X a hs=>by
 rw[bF (bt hs hy)]
 exact tv (o:=false) (.nil _ _) (by simp)
theorem NP{s:ByteArray}(hy:opV σ y=some (.v (.string s))):∀F X (a:Act),SimE F X σ a.tmps→∃c,AddsA P X 1 (jY (fY s)) (a.eval y) c:=fun F X a hs=>by
 rw[bF (bt hs hy)]
 have hcells:rowCells 1 (jY (fY s)).length (fun i _=>.int .u8 ((fY s).getD i 0).toNat)=(fY s).map (fun b=>Value.int .u8 b.toNat):=by
  apply List.ext_getElem?
  intro q
  simp only[rowCells,gB,Nat.mul_one,List.getElem?_map]
  by_cases hq:q < (fY s).length
  ·simp[hq]
  ·simp[hq]
 refine⟨fun i _=>.int .u8 ((fY s).getD i 0).toNat,⟨?_,fun w' _=> ?_,?_,?_,?_⟩⟩
 ·simp[Builtin.lenOf,gB,iD]
 ·rw[hcells]
  simp only[Builtin.firstCells,gB]
  rw[Da,← iD]
  simp only[List.drop_zero]
  rw[List.take_of_length_le (by rw[iD];exact Nat.le_refl _)]
  simp only[Sem.run_pure,Result.ok.injEq,and_true]
  apply Array.ext'
  simp[mkB,fY]
 ·intro r hr
  simp only[jY,List.mem_map] at hr
  obtain⟨b,_,rfl⟩:=hr;rfl
 ·intro i j r u hr hu
  simp only[jY,List.getElem?_map,Option.map_eq_some_iff] at hr
  obtain⟨b,hb,rfl⟩:=hr
  cases j with
  |zero=>
   simp at hu;subst hu
   rw[List.getD_eq_getElem?_getD,hb];exact .v _
  |succ j=>simp at hu
 ·rw[hcells]
  intro v hv
  simp only[List.mem_map] at hv
  obtain⟨b,_,rfl⟩:=hv;rfl
theorem zA{o:Bool}{L:List UInt8}{dd:Option Tmp}(hx:opV σ x=some (.sl o 1 (jY L)))(ht:look T.ty t=some (.slice e))(he:look T.ty e=some (.int .u8))(hu:look T.ty u=some .string):
  OpV P ⟨dd,.convert t u x,ty,pos,af,g⟩ σ (.v (.string (mkB L))):=by
 refine aG rfl fun F X a hs=>⟨.string (mkB L),?_,.v _⟩
 have e1:=co hs (by simp[Op.operands]) hx
 simp only[execOp]
 refine aW ?_
 rcases n4 e1 with ⟨h,hl⟩| ⟨b,off,cap,n,h,hg,hn,hc,c,c1,c2,c3⟩
 ·obtain⟨a0,c0,h⟩:=h
  rw[h]
  have:L=[] :=by simpa[jY] using hl
  subst this
  rw[run_convert_bytes_string _ _ _ _ _ _ _ (T.tyOk _ _ ht) (T.tyOk _ _ he) (T.tyOk _ _ hu)]
  cases a0<;> rfl
 ·rw[h,gB]
  refine run_convert_bytes_back X.w t u e ⟨b,off,none⟩ cap L (T.tyOk _ _ ht) (T.tyOk _ _ he) (T.tyOk _ _ hu) (fun j hj=> ?_)
  have hr:(jY L)[j]? =some [AV.v (.int .u8 L[j].toNat)] :=by simp[jY,hj]
  have h1:=c2 j 0 _ _ hr rfl
  have h2:=c3 j 0 _ _ hr rfl
  rw[en]
  rw[show off+j=off+j * 1+0 by omega,h1,bF h2]
def uq(σ:AS):List Operand→Option (List AV)
 | [] =>some []
 |x::xs=>match opV σ x,uq σ xs with
  |some u,some us=>some (u::us)
  |_,_=>none
theorem o5:∀ {xs:List Operand} {us:List AV},uq σ xs=some us→us.length=xs.length∧∀ (i:Nat) x,xs[i]? =some x→∃u,us[i]? =some u∧opV σ x=some u
 | [],us,h=>by cases h;exact⟨rfl,fun i x h=>by simp at h⟩
 |x::xs,us,h=>by
  simp only[uq] at h
  split at h
  ·rename_i u us' h1 h2
   cases h
   obtain⟨k1,k2⟩:=o5 h2
   refine⟨by simp[k1],fun i x' hx=> ?_⟩
   cases i with
   |zero=>simp at hx;subst hx;exact⟨u,rfl,h1⟩
   |succ i=>simpa using k2 i x' (by simpa using hx)
  ·cases h
def pm:List (Nat × Operand)→Nat→Bool
 | [],_=>true
 | (i,_)::r,k=>Nat.beq i k && pm r (k+1)
theorem i5:∀ {ps:List (Nat × Operand)} {k:Nat} {ρ:Operand→Value},pm ps k=true→ps.map (fun p=>(p.1,ρ p.2))=((ps.map fun p=>ρ p.2).zipIdx k).map fun p=>(p.2,p.1)
 | [],_,_,_=>rfl
 | (i,x)::r,k,ρ,h=>by
   simp only[pm,Bool.and_eq_true] at h
   have:=Nat.eq_of_beq_eq_true h.1
   subst this
   simp only[List.map_cons,List.zipIdx_cons]
   rw[i5 h.2]
theorem vy(off:Nat):∀ (cs:List Value) (k:Nat) (arr:Array Value),off+k+cs.length≤arr.size→((cs.zipIdx k).foldl (fun a p=>a.setIfInBounds (off+p.2) p.1) arr).size=arr.size∧(∀j,j < cs.length→((cs.zipIdx k).foldl (fun a p=>a.setIfInBounds (off+p.2) p.1) arr)[off+k+j]? =cs[j]?)∧∀q,(q < off+k∨off+k+cs.length≤q)→((cs.zipIdx k).foldl (fun a p=>a.setIfInBounds (off+p.2) p.1) arr)[q]? =arr[q]?
 | [],k,arr,_=>⟨rfl,fun j h=>by simp at h,fun q _=>rfl⟩
 |c::cs,k,arr,h=>by
  simp only[List.length_cons] at h
  obtain⟨h1,h2,h3⟩:=vy off cs (k+1) (arr.setIfInBounds (off+k) c) (by simp;omega)
  simp only[List.zipIdx_cons,List.foldl_cons]
  refine⟨by rw[h1];simp,fun j hj=> ?_,fun q hq=> ?_⟩
  ·cases j with
   |zero=>
    rw[h3 _ (.inl (by omega))]
    simp only[Nat.add_zero,List.getElem?_cons_zero]
    rw[Array.getElem?_setIfInBounds_self_of_lt (by omega)]
   |succ j=>
    rw[show off+k+ (j+1)=off+ (k+1)+j by omega,h2 j (by simpa using hj)];rfl
  ·simp only[List.length_cons] at hq
   rw[h3 q (by omega),Array.getElem?_setIfInBounds_ne (by omega)]
theorem vz(size:Nat):∀ (vs:List Value) (k:Nat) (cells:Array Value),(∀v∈vs,v.cells.size=size)→(k+vs.length) * size≤cells.size→∃cells',Instr.fill (fun i=>some (i * size,size)) cells ((vs.zipIdx k).map fun p=>(p.2,p.1))=some cells'∧cells'.size=cells.size∧
  (∀i j v,vs[i]? =some v→j < size→cells'[(k+i) * size+j]? =v.cells[j]?)∧∀q,q < k * size→cells'[q]? =cells[q]?
 | [],k,cells,_,_=>⟨cells,rfl,rfl,fun i j v h=>by simp at h,fun q _=>rfl⟩
 |v::vs,k,cells,hv,hle=>by
  have hvs:=hv v (by simp)
  simp only[List.length_cons] at hle
  have hk:k * size+size≤cells.size:=by
   have:k * size+size≤(k+ (vs.length+1)) * size:=by rw[← Nat.succ_mul];exact Nat.mul_le_mul_right _ (by omega)
   omega
  obtain⟨f1,f2,f3⟩:=vy (k * size) v.cells.toList 0 cells (by simp[hvs];omega)
  obtain⟨cells',h1,h2,h3,h4⟩:=vz size vs (k+1) ((v.cells.toList.zipIdx 0).foldl (fun a p=>a.setIfInBounds (k * size+p.2) p.1) cells) (fun x hx=>hv x (by simp[hx])) (by rw[f1];rw[show k+1+vs.length=k+ (vs.length+1) by omega];exact hle)
  have hfill:Instr.fill (fun i=>some (i * size,size)) cells (((v::vs).zipIdx k).map fun p=>(p.2,p.1))=some cells':=by
   simp only[List.zipIdx_cons,List.map_cons,Instr.fill,hvs]
   have hn:(decide (size≠size)|| decide (k * size+size > cells.size))=false:=by simp;omega
   simp only[ne_eq,not_true_eq_false,decide_false,Bool.false_or] at hn ⊢
   rw[if_neg (by rw[decide_eq_true_eq];omega)]
   rw[← h1]
   congr 1
   rw[← Array.foldl_toList,Array.toList_zipIdx]
  refine⟨cells',hfill,by rw[h2,f1],fun i j w hw hj=> ?_,fun q hq=> ?_⟩
  ·cases i with
   |zero=>
    simp at hw;subst hw
    rw[h4 _ (by rw[Nat.succ_mul];simp;omega)]
    have:=f2 j (by simp[hvs];exact hj)
    simp only[Nat.add_zero] at this ⊢
    rw[this];simp
   |succ i=>
    rw[show k+ (i+1)=k+1+i by omega]
    exact h3 i j w (by simpa using hw) hj
  ·rw[h4 q (by rw[Nat.succ_mul];omega),f3 q (.inl (by omega))]
def AV.okc:AV→Bool
 |.v (.agg _)=>false
 |_=>true
theorem cP{ps:Array (Nat × Operand)}{len sz by_:Nat}{us:List AV}{dd:Option Tmp}(ht:look T.ty t=some (.slice e))(hz:look T.sz e=some (sz,by_))(hp:pm ps.toList 0=true)(hl:Nat.beq len ps.toList.length=true)(hx:uq σ (ps.toList.map (·.2))=some us)
  (hc:us.all (fun u=>u.okc && Nat.beq u.cells.length sz)=true) (hm:Nat.ble (len * sz) 16777216=true):OpV P ⟨dd,.buildSlice t len ps,ty,pos,af,g⟩ σ (.sl true sz (us.map AV.cells)):=by
 intro F X a hs
 obtain⟨i,hi1,hi2,hi3,zv,hi4,hi5⟩:=T.szOk _ _ _ hz
 have hlen:=Nat.eq_of_beq_eq_true hl
 have hle:=Nat.le_of_ble_eq_true hm
 obtain⟨g1,g2⟩:=o5 hx
 simp only[List.length_map] at g1
 have hmem:∀p∈ps.toList,p.2∈(Op.buildSlice t len ps).operands.toList:=fun p hp=>by simp only[Op.operands];exact List.mem_map.2 ⟨p,hp,rfl⟩
 have hrel:∀ (q:Nat) v,(ps.toList.map fun p=>a.eval p.2)[q]? =some v→∃u,us[q]? =some u∧Rel X u v:=by
  intro q v hv
  simp only[List.getElem?_map,Option.map_eq_some_iff] at hv
  obtain⟨p,hpq,rfl⟩:=hv
  obtain⟨u,h1,h2⟩:=g2 q p.2 (by simp[List.getElem?_map,hpq])
  exact⟨u,h1,co hs (hmem p (List.mem_of_getElem? hpq)) h2⟩
 have hcell:∀ (q:Nat) u,us[q]? =some u→u.okc=true∧u.cells.length=sz:=by
  intro q u hu
  have:=List.all_eq_true.1 hc u (List.mem_of_getElem? hu)
  simp only[Bool.and_eq_true] at this
  exact⟨this.1,Nat.eq_of_beq_eq_true this.2⟩
 have hrc:∀ (q:Nat) u v,us[q]? =some u→Rel X u v→u.cells.length=v.cells.size∧∀ (j:Nat) c y,u.cells[j]? =some c→v.cells[j]? =some y→Rel X c y:=by
  intro q u v hu hr
  refine mE hr fun xs hxs=> ?_
  have hk:=(hcell q u hu).1
  subst hxs
  cases hr with
  |ag us xs hl hr=>exact⟨us,rfl⟩
  |v=>cases hk
 let vs:=ps.toList.map fun p=>a.eval p.2
 have hvl:vs.length=us.length:=by simp[vs,g1]
 have hvs:∀v∈vs,v.cells.size=sz:=by
  intro v hv
  obtain⟨q,hq⟩:=List.getElem?_of_mem hv
  obtain⟨u,h1,h2⟩:=hrel q v hq
  rw[← (hrc q u v h1 h2).1];exact(hcell q u h1).2
 let z0:Array Value:=if len * sz=0 then #[] else zv.cells
 let init:Array Value:=(Array.range (len * sz)).map (z0[· % z0.size]!)
 obtain⟨cells',f1,f2,f3,f4⟩:=vz sz vs 0 init hvs (by simp[init,hvl,g1,hlen])
 have hlv:vs.length=len:=by rw[hvl,g1,hlen]
 have hw:(execOp a.eval ⟨dd,.buildSlice t len ps,ty,pos,af,g⟩).run P X.w=.ok (.value (.slice (some ⟨X.w.heap.size,0,none⟩) len len)) { X.w with heap:=X.w.heap.push (.cells cells' e) }:=by
  simp only[execOp]
  refine aW ?_
  have hparts:(ps.map fun p=>(p.1,a.eval p.2)).toList=(vs.zipIdx 0).map fun p=>(p.2,p.1):=by
   rw[Array.toList_map];exact i5 hp
  have hnot:¬len * sz > 16777216:=by omega
  simp only[init,z0] at f1
  have hparts':(Array.map (fun x=>match x with| (i,x)=>(i,a.eval x)) ps).toList=(vs.zipIdx 0).map fun p=>(p.2,p.1):=hparts
  have hzero:∀w:World,(zeroValue e).run P w=.ok zv w:=fun w=>by simp[zeroValue,typeInfo,hi1,hi4]
  by_cases h0:len * sz=0
  ·simp only[h0,if_true] at f1
   have hpz:ps.toList.map (fun p=>(p.1,a.eval p.2))=(vs.zipIdx 0).map fun p=>(p.2,p.1):=i5 hp
   simp at f1
   simp[Instr.buildSlice,run_underlying (T.tyOk _ _ ht),sizeOf,typeInfo,hi1,hi2,h0,hpz,f1,newRow,newObj,Sem.run]
  ·rw[if_neg h0] at f1
   have hpz:ps.toList.map (fun p=>(p.1,a.eval p.2))=(vs.zipIdx 0).map fun p=>(p.2,p.1):=i5 hp
   simp[Instr.buildSlice,run_underlying (T.tyOk _ _ ht),sizeOf,hzero,typeInfo,hi1,hi2,h0,hle,hpz,f1,newRow,newObj,Sem.run]
 obtain⟨X',h1,h2,h3,h4,h5⟩:=uE (X:=X) (F:=F) (w':={ X.w with heap:=X.w.heap.push (.cells cells' e) }) (cells:=cells') (el:=e) (fr:=(0,0)) (sz:=sz) (cap:=len) (rows:=us.map AV.cells) rfl rfl rfl rfl hs.gb hs.fb (fun r hr=>by
   obtain⟨u,hu,rfl⟩:=List.mem_map.1 hr
   obtain⟨q,hq⟩:=List.getElem?_of_mem hu
   exact(hcell q u hq).2) (by rw[f2];simp[init]) (by simp[← hvl,hlv]) (fun q j r u hr hu=>by
   simp only[List.getElem?_map,Option.map_eq_some_iff] at hr
   obtain⟨u0,hu0,rfl⟩:=hr
   have hql:q < vs.length:=by rw[hvl];exact(List.getElem?_eq_some_iff.1 hu0).1
   obtain⟨u1,k1,k2⟩:=hrel q vs[q] (List.getElem?_eq_getElem hql)
   rw[hu0] at k1;cases k1
   have hj:j < sz:=by rw[← (hcell q u0 hu0).2];exact(List.getElem?_eq_some_iff.1 hu).1
   have h6:=f3 q j vs[q] (List.getElem?_eq_getElem hql) hj
   have hsz:=hvs vs[q] (List.getElem_mem hql)
   have hy:vs[q].cells[j]? =some vs[q].cells[j] :=Array.getElem?_eq_getElem (by omega)
   rw[Nat.zero_add,hy] at h6
   exact⟨_,h6,(hrc q u0 vs[q] hu0 k2).2 j u _ hu hy⟩) (fun j _ _=>by simp)
 refine ci hw ⟨X',h1,h2,h3,?_,?_⟩
 ·have:(us.map AV.cells).length=len:=by simp[← hvl,hlv]
  rw[this] at h4;exact h4
 ·have:(us.map AV.cells).length=len:=by simp[← hvl,hlv]
  rw[this] at h5;exact h5
end
section
variable {P:Program} {Q:Exit→AS→Prop} {ks:List It} {T:Tys P} {σ:AS} {l:List Oper} {k:Nat} {c:Code} {i:Nat} {I:AS→Prop}
theorem OA(K:List Nat)(hk:k=l.length)(h:aY P Q ks (σ.keep K)):aY P Q (.o l k [] ::ks) σ:=by
 intro F X a hs D hd
 subst hk
 rw[Nat.sub_self]
 exact⟨hd,X,σ.keep K,rfl,h,hs.keep K,Ext.refl F X⟩
theorem dq(h:Stk P Q ks (.exit i) σ):Stk P Q (.c c::ks) (.exit i) σ:=h
theorem dm(h:Stk P Q ks (.exit i) σ):Stk P Q (.l I::ks) (.exit i) σ:=h
theorem eb(h:aY P Q ks σ):Stk P Q (.b i::ks) (.exit i) σ:=by simp only[Stk,if_true];exact h
theorem dp{j:Nat}(hj:Nat.beq i j=false)(h:Stk P Q ks (.exit i) σ):Stk P Q (.b j::ks) (.exit i) σ:=by
 have hne:¬i=j:=fun e=>by subst e;rw[Nat.beq_refl] at hj;cases hj
 simp only[Stk];rw[if_neg hne];exact h
theorem d8(h:Stk P Q ks .ret σ):Stk P Q (.c c::ks) .ret σ:=h
theorem ea(h:Stk P Q ks .ret σ):Stk P Q (.l I::ks) .ret σ:=h
theorem d9(h:Stk P Q ks .ret σ):Stk P Q (.b i::ks) .ret σ:=h
theorem gu{e:Exit}(h:Q e σ):Stk P Q [] e σ:=h
theorem kV{f:FuncId}{fn:Func}{us:List AV}{H:List (Nat × List AV)}{post:AOut→List (Nat × List AV)→Prop}(c:Code)(n:Nat)(rs:List ResultVar)(hf:P.funcs[f]? =some fn)(hn:(fn.name== "runtime.NumGoroutine")=false)(hb:fn.body=some c)(hnt:fn.ntmps=n)(hrs:fn.results.toList=rs)(hus:Nat.ble us.length n=true)
  (h:aY P (Dx rs post) [.c c] ⟨n,slotsOf 0 us,H,[]⟩):ai P f us H post:=by
 subst hnt hrs
 exact Dv hf hn hb hus h
end
def bM(o:Oper):List Nat:=(o.after.toList.filter (Region.binds .any)).map (·.on)
def mq:Nat→List Oper→Bool
 |_,[] =>true
 |k,o::r=>(bM o).all (· < k) && mq (k+1) r
theorem i8:∀ (l:List Oper) (k i:Nat) (o:Oper),mq k l=true→l[i]? =some o→∀d∈bM o,d < k+i
 | [],_,_,_,_,h,_,_=>by simp at h
 |o::r,k,0,o',h,ho,d,hd=>by
  simp at ho;subst ho
  simp only[mq,Bool.and_eq_true,List.all_eq_true,decide_eq_true_eq] at h
  exact h.1 d hd
 |o::r,k,i+1,o',h,ho,d,hd=>by
  simp only[mq,Bool.and_eq_true] at h
  have:=i8 r (k+1) i o' h.2 (by simpa using ho) d hd
  omega
theorem ca{o:Oper}{d:Nat}:d∈bM o ↔ ∃e∈o.after,Region.binds .any e=true∧e.on=d:=by
 unfold bM
 simp only[List.mem_map,List.mem_filter,Array.mem_toList_iff]
 constructor
 ·rintro⟨e,⟨h1,h2⟩,h3⟩;exact⟨e,h1,h2,h3⟩
 ·rintro⟨e,h1,h2,h3⟩;exact⟨e,⟨h1,h2⟩,h3⟩
theorem j5(p:Nat→Bool):∀n,(∃i,i < n∧p i=false)→∃i,i < n∧p i=false∧∀j,j < i→p j=true
 |0,⟨i,h,_⟩=>by omega
 |n+1,h=>by
  by_cases h2:∃i,i < n∧p i=false
  ·obtain⟨i,h3,h4,h5⟩:=j5 p n h2
   exact⟨i,by omega,h4,h5⟩
  ·obtain⟨i,h3,h4⟩:=h
   have:i=n:=by
    apply Classical.byContradiction
    intro hne
    exact h2 ⟨i,by omega,h4⟩
   subst this
   refine⟨i,h3,h4,fun j hj=> ?_⟩
   cases hp:p j
   ·exact absurd ⟨j,hj,hp⟩ h2
   ·rfl
theorem fk{listed:Array Bool}{i:Nat}(h:i < listed.size):listed.getD i true=listed.getD i false:=by simp[h]
theorem bf{listed:Array Bool}{i j:Nat}(d:Bool)(h:i < listed.size):(listed.setIfInBounds i true).getD j d=if j=i then true else listed.getD j d:=by
 simp only[Array.getD_eq_getD_getElem?,Array.getElem?_setIfInBounds]
 by_cases e:j=i
 ·subst e;simp[h]
 ·rw[if_neg e,if_neg (fun h2=>e h2.symm)]
theorem mD{listed:Array Bool}{i n:Nat}(hi:i < n)(hs:listed.size=n)(h:listed.getD i true=false):
  ((List.range n).filter (fun j=> !(listed.setIfInBounds i true).getD j true)).length+1≤((List.range n).filter (fun j=> !listed.getD j true)).length:=by
 have hsub:((List.range n).filter (fun j=> !(listed.setIfInBounds i true).getD j true))=((List.range n).filter (fun j=> !listed.getD j true)).filter (fun j=>j != i):=by
  rw[List.filter_filter]
  apply List.filter_congr
  intro j hj
  rw[bf true (by omega)]
  by_cases e:j=i
  ·simp[e]
  ·simp[e]
 rw[hsub]
 have hmem:i∈(List.range n).filter (fun j=> !listed.getD j true):=List.mem_filter.2 ⟨List.mem_range.2 hi,by simp only[h];rfl⟩
 generalize (List.range n).filter (fun j=> !listed.getD j true)=L at hmem
 have:∀L:List Nat,i∈L→(L.filter (fun j=>j != i)).length+1≤L.length:=by
  intro L
  induction L with
  |nil=>intro h;cases h
  |cons x L ih=>
   intro h
   by_cases e:x=i
   ·subst e
    simp only[List.filter_cons,bne_self_eq_false,Bool.false_eq_true,if_false,List.length_cons]
    have:=List.length_filter_le (fun j=>j != x) L
    omega
   ·have h':i∈L:=by simpa[Ne.symm e] using h
    have:=ih h'
    have hx:(x != i)=true:=by simpa using e
    simp only[List.filter_cons,hx,if_true,List.length_cons]
    omega
 exact this L hmem
def sG:List Operand→List Nat
 | [] =>[]
 |.tmp t::r=>t::sG r
 |_::r=>sG r
theorem hZ:∀ {xs:List Operand} {t:Nat},Operand.tmp t∈xs→t∈sG xs
 |x::xs,t,h=>by
  rcases List.mem_cons.1 h with rfl|h'
  ·exact List.mem_cons_self
  ·have ih:=hZ (xs:=xs) h'
   cases x<;> simp only[sG] <;> first|exact List.mem_cons_of_mem _ ih|exact ih
def cO(l:List Oper)(o:Oper):List Nat:=sG o.op.operands.toList++ (match o.guard with|none=>[] |some (j,_)=>match(l[j]?).bind (·.dst) with|some d=>[d] |none=>[])
def fE(l:List Oper)(i:Nat)(o:Oper):List Oper→Nat→Bool
 | [],_=>true
 |p::r,j=>(match p.dst with
   |some d=>if(cO l o).contains d && j != i then(if j < i then(bM o).contains j else(bM p).contains i) else true
   |none=>false) && fE l i o r (j+1)
def mL(l:List Oper):List Oper→Nat→Bool
 | [],_=>true
 |o::r,i=>fE l i o l 0 && mL l r (i+1)
def A2:List Oper→List Nat→Bool
 | [],_=>true
 |o::r,seen=>(match o.dst with|some d=> !seen.contains d && A2 r (d::seen)|none=>false)
def KG(l:List Oper):Bool:=mq 0 l && mL l l 0 && A2 l []
theorem gI{l:List Oper}{i:Nat}{o:Oper}:∀ (r:List Oper) (j q:Nat) (p:Oper),fE l i o r j=true→r[q]? =some p→∃d,p.dst=some d∧(d∈cO l o→j+q≠i→(j+q < i→j+q∈bM o)∧(i < j+q→i∈bM p))
 | [],_,_,_,_,h=>by simp at h
 |p0::r,j,0,p,h,hp=>by
  simp at hp;subst hp
  simp only[fE,Bool.and_eq_true] at h
  cases hd:p0.dst with
  |none=>rw[hd] at h;simp at h
  |some d=>
   rw[hd] at h
   refine⟨d,rfl,fun hs hne=> ?_⟩
   have h1:=h.1
   simp only at h1
   rw[if_pos ⟨by simpa using hs,by simpa using hne⟩] at h1
   by_cases hlt:j < i
   ·rw[if_pos hlt] at h1
    exact⟨fun _=>by simpa using h1,fun h2=>by omega⟩
   ·rw[if_neg hlt] at h1
    exact⟨fun h2=>by omega,fun _=>by simpa using h1⟩
 |p0::r,j,q+1,p,h,hp=>by
  simp only[fE,Bool.and_eq_true] at h
  have:=gI r (j+1) q p h.2 (by simpa using hp)
  rw[show j+ (q+1)=j+1+q by omega];exact this
theorem pM{l:List Oper}:∀ (r:List Oper) (i q:Nat) (o:Oper),mL l r i=true→r[q]? =some o→fE l (i+q) o l 0=true
 | [],_,_,_,_,h=>by simp at h
 |o0::r,i,0,o,h,ho=>by
  simp at ho;subst ho
  simp only[mL,Bool.and_eq_true] at h
  exact h.1
 |o0::r,i,q+1,o,h,ho=>by
  simp only[mL,Bool.and_eq_true] at h
  have:=pM r (i+1) q o h.2 (by simpa using ho)
  rw[show i+ (q+1)=i+1+q by omega];exact this
theorem pj:∀ (r:List Oper) (seen:List Nat),A2 r seen=true→(∀ (q:Nat) o d,r[q]? =some o→o.dst=some d→d ∉ seen)∧∀ (q q':Nat) o o' d,r[q]? =some o→r[q']? =some o'→o.dst=some d→o'.dst=some d→q=q'
 | [],_,_=>⟨fun q o d h=>by simp at h,fun q q' o o' d h=>by simp at h⟩
 |o0::r,seen,h=>by
  simp only[A2] at h
  cases hd:o0.dst with
  |none=>rw[hd] at h;cases h
  |some d0=>
   rw[hd] at h
   simp only[Bool.and_eq_true,Bool.not_eq_true'] at h
   obtain⟨h1,h2⟩:=pj r (d0::seen) h.2
   have h3:d0 ∉ seen:=by have:=h.1;simpa using this
   refine⟨fun q o d hq hod=> ?_,fun q q' o o' d hq hq' hod hod'=> ?_⟩
   ·cases q with
    |zero=>simp at hq;subst hq;rw[hd] at hod;cases hod;exact h3
    |succ q=>exact fun hm=>h1 q o d (by simpa using hq) hod (List.mem_cons_of_mem _ hm)
   ·cases q with
    |zero=>
     simp at hq;subst hq;rw[hd] at hod;cases hod
     cases q' with
     |zero=>rfl
     |succ q'=>exact absurd List.mem_cons_self (h1 q' o' d0 (by simpa using hq') hod')
    |succ q=>
     cases q' with
     |zero=>simp at hq';subst hq';rw[hd] at hod';cases hod';exact absurd List.mem_cons_self (h1 q o d0 (by simpa using hq) hod)
     |succ q'=>rw[h2 q q' o o' d (by simpa using hq) (by simpa using hq') hod hod']
def lz(P:Program)(l:List Oper)(K:AS→Prop):List Oper→AS→Prop
 | [],σ=>K σ
 |o::rest,σ=>∃d u,o.dst=some d∧Nat.ble (d+1) σ.n=true∧((bp l σ o=some true∧OpV P o σ u)∨(pI l σ o∧u=.v undef))∧lz P l K rest (σ.put d u)
section
variable {P:Program} {Q:Exit→AS→Prop} {ks:List It} {T:Tys P} {σ:AS} {K:AS→Prop} {l rest:List Oper} {o:Oper} {d:Nat} {u:AV}
theorem BO(hw:bp l σ o=some true)(hdst:o.dst=some d)(hd:Nat.ble (d+1) σ.n=true)(h:OpV P o σ u)(hn:lz P l K rest (σ.put d u)):lz P l K (o::rest) σ:=⟨d,u,hdst,hd,.inl ⟨hw,h⟩,hn⟩
theorem zo(hw:bp l σ o=some false)(hdst:o.dst=some d)(hd:Nat.ble (d+1) σ.n=true)(hn:lz P l K rest (σ.put d (.v undef))):lz P l K (o::rest) σ:=⟨d,_,hdst,hd,.inr ⟨.inl hw,rfl⟩,hn⟩
theorem C4(hw:fT l σ o=true)(hdst:o.dst=some d)(hd:Nat.ble (d+1) σ.n=true)(hn:lz P l K rest (σ.put d (.v undef))):lz P l K (o::rest) σ:=⟨d,_,hdst,hd,.inr ⟨.inr hw,rfl⟩,hn⟩
theorem VX(h:K σ):lz P l K [] σ:=h
def puts:AS→List Oper→List AV→AS
 |σ,o::os,u::us=>puts (match o.dst with|some d=>σ.put d u|none=>σ) os us
 |σ,_,_=>σ
theorem pu:∀ (os:List Oper) (us:List AV) (σ:AS),(puts σ os us).n=σ.n
 | [],[],_=>rfl
 | [],_::_,_=>rfl
 |_::_,[],_=>rfl
 |o::os,u::us,σ=>by simp only[puts];rw[pu os us];cases o.dst<;> rfl
theorem kz:∀ (os:List Oper) (us:List AV) (σ:AS),(puts σ os us).h=σ.h
 | [],[],_=>rfl
 | [],_::_,_=>rfl
 |_::_,[],_=>rfl
 |o::os,u::us,σ=>by simp only[puts];rw[kz os us];cases o.dst<;> rfl
theorem vk:∀ (os:List Oper) (us:List AV) (σ:AS),σ.e=[] →(puts σ os us).e=[]
 | [],[],_,h=>h
 | [],_::_,_,h=>h
 |_::_,[],_,h=>h
 |o::os,u::us,σ,h=>by
  simp only[puts]
  refine vk os us _ ?_
  cases o.dst with
  |none=>exact h
  |some d=>simp[AS.put,h]
theorem xf:∀ (rest:List Oper) (σ:AS),lz P l K rest σ→∃us:List AV,us.length=rest.length∧K (puts σ rest us)∧
  ∀ (i:Nat) o u,rest[i]? =some o→us[i]? =some u→∃d,o.dst=some d∧Nat.ble (d+1) σ.n=true∧((bp l (puts σ (rest.take i) (us.take i)) o=some true∧OpV P o (puts σ (rest.take i) (us.take i)) u)∨(pI l (puts σ (rest.take i) (us.take i)) o∧u=.v undef))
 | [],σ,h=>⟨[],rfl,h,fun i o u h=>by simp at h⟩
 |o::rest,σ,⟨d,u,h1,h2,h3,h4⟩=>by
  obtain⟨us,k1,k2,k3⟩:=xf rest (σ.put d u) h4
  refine⟨u::us,by simp[k1],by simp only[puts,h1];exact k2,fun i o' u' ho hu=> ?_⟩
  cases i with
  |zero=>simp at ho hu;subst ho hu;exact⟨d,h1,h2,h3⟩
  |succ i=>
   obtain⟨d',m1,m2,m3⟩:=k3 i o' u' (by simpa using ho) (by simpa using hu)
   refine⟨d',m1,m2,?_⟩
   simp only[List.take_succ_cons,puts,h1]
   exact m3
theorem ja:∀ (os:List Oper) (us:List AV) (σ:AS) (t:Nat),us.length=os.length→(∀ (q q':Nat) o o' d,os[q]? =some o→os[q']? =some o'→o.dst=some d→o'.dst=some d→q=q')→
  look (puts σ os us).t t=match(os.zip us).find? (fun p=>p.1.dst==some t) with|some p=>some p.2|none=>look σ.t t
 | [],[],σ,t,_,_=>rfl
 |o::os,u::us,σ,t,hl,hd=>by
  simp only[puts,List.zip_cons_cons,List.find?_cons]
  have hd':∀ (q q':Nat) o o' d,os[q]? =some o→os[q']? =some o'→o.dst=some d→o'.dst=some d→q=q':=fun q q' o1 o2 d h1 h2 h3 h4=>by
   have:=hd (q+1) (q'+1) o1 o2 d (by simpa using h1) (by simpa using h2) h3 h4
   omega
  have ih:=ja os us (match o.dst with|some d=>σ.put d u|none=>σ) t (by simpa using hl) hd'
  rw[ih]
  by_cases he:o.dst=some t
  ·have hb:(o.dst==some t)=true:=by simp[he]
   have hnone:(os.zip us).find? (fun p=>p.1.dst==some t)=none:=by
    rw[List.find?_eq_none]
    intro p hp hb2
    obtain⟨q,hq⟩:=List.getElem?_of_mem (List.of_mem_zip hp).1
    have:=hd 0 (q+1) o p.1 t rfl (by simpa using hq) he (by simpa using hb2)
    omega
   rw[hnone,hb]
   simp only[he,AS.put,ab,if_true]
  ·have hb:(o.dst==some t)=false:=by simp[he]
   rw[hb]
   cases hf:(os.zip us).find? (fun p=>p.1.dst==some t) with
   |some p=>rfl
   |none=>
    simp only
    cases hod:o.dst with
    |none=>rfl
    |some d=>
     have hne:t≠d:=fun e=>he (by rw[hod,e])
     simp only[AS.put,ab]
     rw[if_neg hne]
theorem r9{σ σ':AS}(hn:σ'.n=σ.n)(h:∀j want d,o.guard=some (j,want)→(l[j]?).bind (·.dst)=some d→look σ'.t d=look σ.t d):bp l σ' o=bp l σ o:=by
 unfold bp
 cases hg:o.guard with
 |none=>rfl
 |some p=>
  obtain⟨j,want⟩:=p
  simp only
  cases hd:(l[j]?).bind (·.dst) with
  |none=>rfl
  |some d=>simp only;rw[hn,h j want d hg hd]
theorem lJ{σ σ':AS}(hn:σ'.n=σ.n)(h:∀j want d,o.guard=some (j,want)→(l[j]?).bind (·.dst)=some d→look σ'.t d=look σ.t d):bp l σ' o=bp l σ o∧fT l σ' o=fT l σ o:=by
 refine⟨r9 hn h,?_⟩
 unfold fT
 cases hg:o.guard with
 |none=>rfl
 |some p=>
  obtain⟨j,want⟩:=p
  dsimp only
  cases hj:(l[j]?).bind (·.dst) with
  |none=>rfl
  |some d=>
   dsimp only
   rw[h j want d hg hj,hn]
theorem H6{id:Nat}(hm:P.follows .mixedOrders=true)(hB:KG l=true)(he:σ.e=[])(h:lz P l (fun σ'=>aY P Q ks σ') l σ):aY P Q (.c (.region id l.toArray true)::ks) σ:=by
 intro F X a hs D hdf
 obtain⟨us,hul,hK,hstep⟩:=xf l σ h
 simp only[KG,Bool.and_eq_true] at hB
 obtain⟨⟨hx,hset⟩,hdst⟩:=hB
 have hdd:=(pj l [] hdst).2
 have hdis:∀ (q q':Nat) o o' d,l[q]? =some o→l[q']? =some o'→o.dst=some d→o'.dst=some d→q=q':=hdd
 refine wp_region_any hm ?_
 let Inv:Array Bool→GW→Act→Prop:=fun listed X1 a1=>∃σ1:AS,SimE F X1 σ1 a1.tmps∧σ1.n=σ.n∧σ1.h=σ.h∧
  (∀ (i:Nat) o d u,l[i]? =some o→us[i]? =some u→o.dst=some d→listed.getD i false=true→look σ1.t d=some u)∧
  (∀t,(∀ (i:Nat) o,l[i]? =some o→o.dst=some t→listed.getD i false=false)→look σ1.t t=look σ.t t)
 have key:∀ (fuel:Nat) (listed:Array Bool) (X1:GW) (a1:Act),listed.size=l.length→
   ((List.range l.length).filter (fun i=> !listed.getD i true)).length≤fuel→Ext F X X1→a1.defers=D→Inv listed X1 a1→
   (∀j oj,l[j]? =some oj→listed.getD j false=true→∀d∈bM oj,listed.getD d false=true)→
   wpAny P .any l.toArray (da F X D (Stk P Q ks)) fuel listed a1 X1.w:=by
  have fin:∀ (listed:Array Bool) (X1:GW) (a1:Act),listed.size=l.length→Region.ready .any l.toArray listed=[] →Ext F X X1→a1.defers=D→Inv listed X1 a1→da F X D (Stk P Q ks) .normal a1 X1.w:=by
   rintro listed X1 a1 hsz hnil hx1 hd1 ⟨σ1,s1,s2,s3,s4,s5⟩
   have hall:∀i,i < l.length→listed.getD i false=true:=by
    intro i hil
    apply Classical.byContradiction
    intro hc
    have hc:listed.getD i false=false:=by simpa using hc
    obtain⟨k,hk,hkf,hkl⟩:=j5 (fun j=>listed.getD j false) l.length ⟨i,hil,hc⟩
    have hmem:k∈Region.ready .any l.toArray listed:=by
     refine mem_ready.2 ⟨by rw[fk (by omega)];exact hkf,l[k],by simp[hk],fun e he hb=> ?_⟩
     have hlt:=i8 l 0 k l[k] hx (List.getElem?_eq_getElem hk) e.on (ca.2 ⟨e,he,hb,rfl⟩)
     exact hkl e.on (by omega)
    rw[hnil] at hmem;cases hmem
   refine⟨hd1,X1,puts σ l us,rfl,hK,s1.sub (by rw[pu,s2]) (fun t u hu=> ?_) (fun k cs hk=>by rw[kz] at hk;rw[s3];exact hk) (fun p hp=>by rw[vk l us σ he] at hp;cases hp),hx1⟩
   rw[ja l us σ t hul hdis] at hu
   cases hf:(l.zip us).find? (fun p=>p.1.dst==some t) with
   |some p=>
    rw[hf] at hu
    cases hu
    have hmem:=List.mem_of_find?_eq_some hf
    have hpd:p.1.dst=some t:=by simpa using List.find?_some hf
    obtain⟨q,hq⟩:=List.getElem?_of_mem hmem
    rw[List.getElem?_zip_eq_some] at hq
    exact s4 q p.1 t p.2 hq.1 hq.2 hpd (hall q (List.getElem?_eq_some_iff.1 hq.1).1)
   |none=>
    rw[hf] at hu
    rw[← hu]
    refine s5 t fun i o ho hod=> ?_
    have hil:=(List.getElem?_eq_some_iff.1 ho).1
    have hui:us[i]? =some us[i] :=List.getElem?_eq_getElem (by omega)
    have:=List.find?_eq_none.1 hf (o,us[i]) (List.mem_of_getElem? (List.getElem?_zip_eq_some.2 ⟨ho,hui⟩))
    exact absurd (by simpa using hod) this
  intro fuel
  induction fuel with
  |zero=>
   intro listed X1 a1 hsz hf hx1 hd1 hI hdn
   have hnil:Region.ready .any l.toArray listed=[] :=by
    rw[List.eq_nil_iff_forall_not_mem]
    intro i hi
    obtain⟨h1,o,h2,_⟩:=mem_ready.1 hi
    have hil:i < l.length:=by simpa using (Array.getElem?_eq_some_iff.1 h2).1
    have h0:=List.length_eq_zero_iff.1 (Nat.le_zero.1 hf)
    have:=List.filter_eq_nil_iff.1 h0 i (List.mem_range.2 hil)
    rw[h1] at this;exact this rfl
   exact⟨hnil,fin listed X1 a1 hsz hnil hx1 hd1 hI⟩
  |succ fuel ih=>
   intro listed X1 a1 hsz hf hx1 hd1 hI hdn
   refine⟨fun hnil=>fin listed X1 a1 hsz hnil hx1 hd1 hI,fun i hi=> ?_⟩
   obtain⟨h1,o,h2,h3⟩:=mem_ready.1 hi
   have h2':l[i]? =some o:=by simpa using h2
   have hil:i < l.length:=(List.getElem?_eq_some_iff.1 h2').1
   have hui:us[i]? =some us[i] :=List.getElem?_eq_getElem (by omega)
   have hlf:listed.getD i false=false:=by rw[← fk (by omega)];exact h1
   obtain⟨σ1,s1,s2,s3,s4,s5⟩:=hI
   obtain⟨d,hod,hdn2,hcase⟩:=hstep i o us[i] h2' hui
   have hset1:fE l i o l 0=true:=by have:=pM l 0 i o hset h2';rwa [Nat.zero_add] at this
   have hsee:∀t,t∈cO l o→look (puts σ (l.take i) (us.take i)).t t=look σ1.t t:=by
    intro t ht
    rw[ja _ _ _ _ (by simp;omega) (fun q q' o1 o2 d h1 h2 h3 h4=>by
     rw[List.getElem?_take] at h1 h2
     split at h1
     ·split at h2
      ·exact hdis q q' o1 o2 d h1 h2 h3 h4
      ·cases h2
     ·cases h1)]
    cases hf:((l.take i).zip (us.take i)).find? (fun p=>p.1.dst==some t) with
    |some p=>
     have hmem:=List.mem_of_find?_eq_some hf
     have hpd:p.1.dst=some t:=by simpa using List.find?_some hf
     obtain⟨q,hq⟩:=List.getElem?_of_mem hmem
     rw[List.getElem?_zip_eq_some,List.getElem?_take,List.getElem?_take] at hq
     have hqi:q < i:=by
      apply Classical.byContradiction
      intro hc
      rw[if_neg hc] at hq;cases hq.1
     rw[if_pos hqi,if_pos hqi] at hq
     obtain⟨d',hd',hs'⟩:=gI l 0 q p.1 hset1 hq.1
     rw[hpd] at hd';cases hd'
     have hdep:=(hs' ht (by omega)).1 (by omega)
     rw[Nat.zero_add] at hdep
     obtain⟨e,he1,he2,he3⟩:=ca.1 hdep
     have hq3:listed.getD q false=true:=by rw[← he3];exact h3 e he1 he2
     rw[s4 q p.1 t p.2 hq.1 hq.2 hpd hq3]
    |none=>
     simp only
     symm
     refine s5 t fun j oj hj hjd=> ?_
     have hjl:=(List.getElem?_eq_some_iff.1 hj).1
     by_cases hji:j < i
     ·have hmem:(oj,us[j]'(by omega))∈(l.take i).zip (us.take i):=by
       refine List.mem_of_getElem? (i:=j) (List.getElem?_zip_eq_some.2 ⟨?_,?_⟩)
       ·rw[List.getElem?_take,if_pos hji];exact hj
       ·rw[List.getElem?_take,if_pos hji];exact List.getElem?_eq_getElem (by omega)
      exact absurd (by simpa using hjd) (List.find?_eq_none.1 hf _ hmem)
     ·by_cases hje:j=i
      ·subst hje;exact hlf
      ·obtain⟨d',hd',hs'⟩:=gI l 0 j oj hset1 hj
       rw[hjd] at hd';cases hd'
       have hdep:=(hs' ht (by omega)).2 (by omega)
       cases hc:listed.getD j false
       ·rfl
       ·have:=hdn j oj hj hc i hdep
        rw[hlf] at this;cases this
   have hwan2:bp l (puts σ (l.take i) (us.take i)) o=bp l σ1 o∧fT l (puts σ (l.take i) (us.take i)) o=fT l σ1 o:=by
    refine(lJ (by rw[pu,s2]) fun j want d0 hg hd0=>hsee d0 ?_)
    simp only[cO,hg,hd0];simp
   have hwan:=hwan2.1
   have go:∀ (v:Value) (X2:GW),New X1 X2→(∀b n,X2.g b=some n→b < X2.w.heap.size)→Rel X2 us[i] v→FreshOk F X1.w.heap.size X2 us[i] v→wpAny P .any l.toArray (da F X D (Stk P Q ks)) fuel (listed.setIfInBounds i true) (a1.put o.dst v) X2.w:=by
    intro v X2 hn2 hg2 hr2 hf2
    refine ih (listed.setIfInBounds i true) X2 (a1.put o.dst v) (by simp[hsz]) ?_ (hx1.trans (hn2.ext s1.gb s1.fb)) (by rw[eM];exact hd1) ?_ ?_
    ·have:=mD hil hsz h1
     omega
    ·refine⟨σ1.put d us[i],?_,s2,s3,fun j oj dj uj hj huj hdj hlj=> ?_,fun t ht=> ?_⟩
     ·rw[hod]
      exact s1.put_new (by rw[s2];exact ba hdn2) hn2 hg2 hr2 hf2
     ·simp only[AS.put,ab]
      by_cases e:j=i
      ·subst e
       rw[h2'] at hj;cases hj
       rw[hod] at hdj;cases hdj
       rw[if_pos rfl,← huj,hui]
      ·have hne:dj≠d:=fun e2=>e (hdis j i oj o d hj h2' (by rw[hdj,e2]) hod)
       rw[if_neg hne]
       rw[bf false (by omega),if_neg e] at hlj
       exact s4 j oj dj uj hj huj hdj hlj
     ·have hne:t≠d:=by
       rintro rfl
       have:=ht i o h2' hod
       rw[bf false (by omega),if_pos rfl] at this;cases this
      simp only[AS.put,ab]
      rw[if_neg hne]
      refine s5 t fun j oj hj hjd=> ?_
      have:=ht j oj hj hjd
      rw[bf false (by omega)] at this
      by_cases e:j=i
      ·rw[if_pos e] at this;cases this
      ·rw[if_neg e] at this;exact this
    ·intro j oj hoj hj dd hdd
     rw[bf false (by omega)]
     by_cases e:dd=i
     ·rw[if_pos e]
     ·rw[if_neg e]
      by_cases e2:j=i
      ·subst e2
       rw[h2'] at hoj;cases hoj
       obtain⟨x,hx1,hx2,hx3⟩:=ca.1 hdd
       rw[← hx3];exact h3 x hx1 hx2
      ·rw[bf false (by omega),if_neg e2] at hj
       exact hdn j oj hoj hj dd hdd
   unfold wpOp
   simp only[h2]
   rcases hcase with ⟨hw,hop⟩| ⟨hw,hun⟩
   ·rw[hwan] at hw
    rw[if_pos (lF s1 hw)]
    left
    have hR:SimR F X1 (puts σ (l.take i) (us.take i)) o.op a1.tmps:=by
     refine⟨s1.gb,s1.fb,fun t u ht hu=> ?_,fun k cs hk=> ?_⟩
     ·rw[hsee t (by simp only[cO];exact List.mem_append_left _ (hZ ht))] at hu
      exact s1.slot t u hu
     ·rw[kz,← s3] at hk;exact s1.box k cs hk
    refine(hop F X1 a1 hR).wp fun x w' ⟨X2,k1,k2,k3,k4,k5⟩=> ?_
    subst k1
    exact go x X2 k2 k3 k4 k5
   ·have hw:pI l σ1 o:=by
     rcases hw with hw|hw
     ·exact .inl (by rw[← hwan];exact hw)
     ·exact .inr (by rw[← hwan2.2];exact hw)
    rw[if_neg (by rw[sX s1 hw];simp)]
    exact go undef X1 (New.refl X1) s1.gb (by rw[hun];exact .v _) (by rw[hun];exact FreshOk.plain rfl)
 have h0:da F X D (Stk P Q ks)=da F X D (Stk P Q ks):=rfl
 have hdrew:({ X.w with drawn:=X.w.drawn+1 }:World)=X.w.drew:=rfl
 have hXd:New X ⟨X.w.drew,X.g⟩:=⟨rfl,rfl,rfl,Nat.le_refl _,fun _ _=>⟨rfl,rfl⟩⟩
 have hsd:=hs.new hXd hs.gb
 refine key _ _ ⟨X.w.drew,X.g⟩ a (by simp) (by refine Nat.le_trans (List.length_filter_le _ _) (by simp)) (hXd.ext hs.gb hs.fb) hdf ⟨σ,hsd,rfl,rfl,fun i o d u _ _ _ hf=> ?_,fun t _=>rfl⟩ (fun j oj hoj hf=> ?_)
 ·simp only[Array.getD_eq_getD_getElem?,Array.getElem?_replicate] at hf
  split at hf<;> simp at hf
 ·simp only[Array.getD_eq_getD_getElem?,Array.getElem?_replicate] at hf
  split at hf<;> simp at hf
theorem DQ{f:FuncId}{xs:Array Operand}{ats:Array TypeId}{ty:TypeId}{pos:String}{af:Array Edge}{g:Option (Nat × Bool)}{dd:Option Tmp}{us:List AV}(hc:ai P f us [] (fun out H=>out=.ret u∧H=[])){us0:List AV}(hx:uq σ xs.toList=some us0)(hle:LeL us0 us)(hp:us.all (fun u=>(cw (some u)).isNone)=true):
  OpV P ⟨dd,.call { callee:=.value (.func f),args:=xs,argTypes:=ats },ty,pos,af,g⟩ σ u:=by
 intro F X a hs
 obtain⟨g1,g2⟩:=o5 hx
 let vs:Array Value:=xs.map a.eval
 have hlen:us.length=xs.size:=by rw[← hle.length,g1];simp
 let F1:Nat→Prop:=fun b=>b < X.w.heap.size
 have hno:∀i u,us[i]? =some u→cw (some u)=none:=fun i u hu=>by simpa using List.all_eq_true.1 hp u (List.mem_of_getElem? hu)
 have hnown:∀r,AS.own ⟨us.length,slotsOf 0 us,[],[]⟩ r=none:=by
  intro r
  cases r with
  |c k o=>rfl
  |s t=>
   simp only[AS.own]
   cases hlk:look (slotsOf 0 us) t with
   |none=>rfl
   |some u=>
    obtain⟨_,h2⟩:=cY us 0 t u hlk
    exact hno _ u h2
 have hτ:SimE F1 X ⟨us.length,slotsOf 0 us,[],[]⟩ vs:=by
  refine⟨⟨by simp[vs,hlen],hs.gb,fun b hb=>hb,fun t u hu=> ?_,(fun k cs hk=>by simp[av] at hk),(fun x r hx=>by simp[av] at hx),(fun r sz l ho=>by rw[hnown r] at ho;cases ho),(fun r r' sz l sz' l' a n c a' n' c' _ ho=>by rw[hnown r] at ho;cases ho)⟩,(fun p hp=>by cases hp)⟩
  obtain⟨_,h2⟩:=cY us 0 t u hu
  rw[Nat.sub_zero] at h2
  obtain⟨u0,k1,k2⟩:=hle.get t u h2
  have ht:t < xs.size:=by rw[← hlen];exact(List.getElem?_eq_some_iff.1 h2).1
  have hxt:xs.toList[t]? =some xs[t] :=by simp[ht]
  obtain⟨u1,m1,m2⟩:=g2 t xs[t] hxt
  rw[k1] at m1;cases m1
  have:vs.getD t undef=a.eval xs[t] :=by simp[vs,ht]
  rw[this]
  exact k2.rel (co hs (by simp only[Op.operands,Call.operands];simp) m2)
 unfold jN
 rw[Conc.execOp_call_func rfl,lh hc.1]
 refine(hc.2 F1 X vs hτ).mono fun e w' ⟨X',out,H',p1,p2,p3,p4⟩=> ?_
 obtain⟨rfl,rfl⟩:=p2
 obtain⟨v,rfl,hv⟩:=p3
 refine⟨X',p1,⟨p4.os,p4.tape,p4.output,p4.size,fun b hb=>p4.frame b hb⟩,hv.gb,hv.slot 0 u (by simp[ab]),fun sz l' ho=> ?_⟩
 obtain⟨y,k1,k2⟩:=hv.own (.s 0) sz l' (by simp only[AS.own,ab];exact ho)
 simp only[rootV] at k1
 have k1':v=y:=by have:=Option.some.inj k1;exact this
 subst k1'
 refine⟨k2.keep fun b n c hb=>⟨rfl,rfl,fun hF=>(k2.lt hb).2 (hs.fb b hF)⟩,fun q n c hq=> ?_⟩
 rcases k2 with ⟨k2,_⟩| ⟨b,cap,cs,e,fr,k2,_,_,_,_,k3⟩
 ·rw[k2] at hq;cases hq
 ·rw[k2] at hq;cases hq
  exact Nat.le_of_not_lt k3
theorem i6{op:Op}{x:Operand}{ty:TypeId}{pos:String}{af:Array Edge}{g:Option (Nat × Bool)}{dd:Option Tmp}(hx:opV σ x=some u)(ho:op=.move x∨op=.assign x):OpV P ⟨dd,op,ty,pos,af,g⟩ σ u.rd:=by
 rcases ho with rfl|rfl
 ·exact aG (ef u) fun F X ac hs=>⟨ac.eval x,rfl,(co hs (by simp[Op.operands]) hx).rd⟩
 ·exact aG (ef u) fun F X ac hs=>⟨ac.eval x,rfl,(co hs (by simp[Op.operands]) hx).rd⟩
end
section
variable {P:Program} {Q:Exit→AS→Prop} {ks:List It} {T:Tys P} {σ:AS} {t u ty e:TypeId} {x y z:Operand} {pos:String} {af:Array Edge} {g:Option (Nat × Bool)} {F:Nat→Prop} {X:GW} {d:Nat}
def fM(cs:List AV):Prop:=∀u∈cs,cw (some u)=none
def AS.box(σ:AS)(k:Nat)(cs:List AV):AS:={ n:=σ.n,t:=σ.t,h:=(k,cs)::σ.h,e:=σ.e }
theorem SimE.box1{tm:Array Value}{k:Nat}{cs:List AV}(h:SimE F X σ tm)(hb:eI F X k cs)(hp:fM cs):SimE F X (σ.box k cs) tm:=by
 refine⟨h.toSim.reown rfl h.slot (fun k' cs' hk=> ?_) h.eqs id (fun r sz l ho=>.inr ⟨?_,rfl⟩) (fun _ _ hne _ _=>hne),h.eqm⟩
 ·simp only[AS.box,ab] at hk
  split at hk
  ·rename_i e1;subst e1;cases hk;exact hb
  ·exact h.box k' cs' hk
 ·cases r with
  |s t=>exact ho
  |c k' o=>
   simp only[AS.own,AS.box,ab,id] at ho ⊢
   by_cases e1:k'=k
   ·rw[if_pos e1] at ho
    simp only at ho
    cases hc:cs[o]? with
    |none=>rw[hc] at ho;cases ho
    |some u=>rw[hc,hp u (List.mem_of_getElem? hc)] at ho;cases ho
   ·rw[if_neg e1] at ho;exact ho
def gm(k:Nat)(h:List (Nat × List AV)):Prop:=∀q∈h,q.1≠k
theorem zk{o:Oper}{cs:List AV}(hdst:o.dst=some d)(hd:Nat.ble (d+1) σ.n=true)(hp:fM cs)
  (hrun:∀F X (a:Act),SimE F X σ a.tmps→∃ (arr:Array Value) (el:TypeId),(execOp a.eval o).run P X.w=.ok (.value (.pointer (some ⟨X.w.heap.size,0,none⟩))) (X.w.alloc (.cells arr el))∧arr.size=cs.length∧∀ (i:Nat) u x,cs[i]? =some u→arr[i]? =some x→Rel X u x)
  {R:AS→Prop} (hR:∀k,gm k σ.h→R ((σ.box k cs).put d (.v (.pointer (some ⟨k,0,none⟩))))):cy P o σ R:=by
 intro F X a hs
 obtain⟨arr,el,h1,h2,h3⟩:=hrun F X a hs
 have hn:New X ⟨X.w.alloc (.cells arr el),X.g⟩:=⟨rfl,rfl,rfl,by show X.w.heap.size≤(X.w.heap.push _).size;simp,fun b hb=>⟨by show(X.w.heap.push _)[b]? =_;rw[Array.getElem?_push,if_neg (by omega)],rfl⟩⟩
 have hgb:∀b n,X.g b=some n→b < (X.w.alloc (.cells arr el)).heap.size:=fun b n hb=>by have:=hs.gb b n hb;show b < (X.w.heap.push _).size;simp;omega
 have hnew:=hs.new hn hgb
 have hgk:X.g X.w.heap.size=none:=by
  cases hg:X.g X.w.heap.size with
  |none=>rfl
  |some n=>have:=hs.gb _ _ hg;omega
 have hhk:(X.w.alloc (.cells arr el)).heap[X.w.heap.size]? =some (.cells arr el):=by show(X.w.heap.push _)[_]? =_;simp
 have hb:eI F ⟨X.w.alloc (.cells arr el),X.g⟩ X.w.heap.size cs:=by
  refine eg.box ⟨hgk,fun hF=>Nat.lt_irrefl _ (hs.fb _ hF),arr,el,(0,0),hhk,h2,fun o=> ?_,fun i u x hu hx=>(h3 i u x hu hx).mono (hn.pres hs.gb)⟩
  show(X.w.alloc (.cells arr el)).frozen? ⟨X.w.heap.size,o,none⟩=false
  simp only[World.frozen?,hhk];simp
 refine ci h1 ⟨⟨X.w.alloc (.cells arr el),X.g⟩,_,rfl,hR X.w.heap.size (fun q hq e1=> ?_),?_,hn.ext hs.gb hs.fb⟩
 ·obtain⟨k,cs'⟩:=q
  simp only at e1
  subst e1
  have:∀ {l:List (Nat × List AV)} {k:Nat} {c:List AV},(k,c)∈l→∃c',look l k=some c':=by
   intro l
   induction l with
   |nil=>intro k c h;cases h
   |cons p l ih=>
    intro k c h
    obtain⟨k0,c0⟩:=p
    by_cases e2:k=k0
    ·exact⟨c0,by rw[ab,if_pos e2]⟩
    ·rcases List.mem_cons.1 h with h|h
     ·cases h;exact absurd rfl e2
     ·obtain⟨c',h'⟩:=ih h
      exact⟨c',by rw[ab,if_neg e2];exact h'⟩
  obtain⟨c',h'⟩:=this hq
  exact Nat.lt_irrefl _ (hs.box _ _ h').lt
 ·rw[hdst]
  exact(hnew.box1 hb hp).put_new (ba hd) (New.refl _) hgb (.v _) (FreshOk.plain rfl)
theorem rr{zv:Value}{el:TypeId}(hz:look T.zr el=some zv)(hd:Nat.ble (d+1) σ.n=true){R:AS→Prop}(hR:∀k,gm k σ.h→R ((σ.box k (zv.cells.toList.map .v)).put d (.v (.pointer (some ⟨k,0,none⟩))))):cy P ⟨some d,.alloc el,ty,pos,af,g⟩ σ R:=by
 obtain⟨i,h1,h2⟩:=T.zrOk _ _ hz
 refine zk rfl hd (fun u hu=>by obtain⟨x,_,rfl⟩:=List.mem_map.1 hu;rfl) (fun F X a hs=>⟨zv.cells,el,?_,by simp,fun i u x hu hx=> ?_⟩) hR
 ·simp[execOp,Instr.alloc,zeroValue,typeInfo,h1,h2,newVar,newRow,newObj,Sem.run]
 ·simp only[List.getElem?_map,Option.map_eq_some_iff] at hu
  obtain⟨z,hz,rfl⟩:=hu
  have:z=x:=by have:some z=some x:=hz.symm.trans (by simpa using hx);exact Option.some.inj this
  subst this;exact .v _
theorem Qp{el:TypeId}{u0:AV}(hx:opV σ x=some u0)(hok:u0.okc=true)(hp:fM u0.rd.cells)(hd:Nat.ble (d+1) σ.n=true){R:AS→Prop}(hR:∀k,gm k σ.h→R ((σ.box k u0.rd.cells).put d (.v (.pointer (some ⟨k,0,none⟩))))):cy P ⟨some d,.box el x,ty,pos,af,g⟩ σ R:=by
 refine zk rfl hd hp (fun F X a hs=> ?_) hR
 have h1:=(bt hs hx).rd
 have h2:=mE h1 (fun xs hxs=>by
  rw[hxs] at h1
  cases u0 with
  |ag cs=>exact⟨cs,rfl⟩
  |v z=>cases h1;cases hok
  |sl _ _ _=>cases h1
  |tu _=>cases h1
  |el _=>cases h1
  |fn _ _=>cases h1
  |ifc _ _=>cases h1
  |mp _=>cases h1
  |cl _ _=>cases h1)
 refine⟨(a.eval x).cells,el,?_,h2.1.symm,fun i u y hu hy=>h2.2 i u y hu hy⟩
 simp[execOp,Instr.box,newVar,newRow,newObj,Sem.run]
def b7(cs:List AV)(o:Nat)(us:List AV):List AV:=cs.take o++us++cs.drop (o+us.length)
def AS.setc(σ:AS)(k:Nat)(cs:List AV):AS:={ n:=σ.n,t:=σ.t,h:=(k,cs)::σ.h,e:=σ.dropC.e }
theorem qz{b:Nat}{el:TypeId}{fr:Nat × Nat}:∀ (vs:List Value) (o:Nat) (w:World) (cs:Array Value),w.heap[b]? =some (.cells cs el fr)→∃cs':Array Value,(w.setCells b o vs).heap[b]? =some (.cells cs' el fr)∧cs'.size=cs.size∧(w.setCells b o vs).heap.size=w.heap.size∧(w.setCells b o vs).os=w.os∧(w.setCells b o vs).tape=w.tape∧(w.setCells b o vs).output=w.output
 | [],o,w,cs,h=>⟨cs,h,rfl,rfl,rfl,rfl,rfl⟩
 |v::r,o,w,cs,h=>by
  simp only[World.setCells]
  have h2:(w.setCell ⟨b,o,none⟩ v).heap[b]? =some (.cells (cs.setIfInBounds o v) el fr):=by
   have hlt:=(Array.getElem?_eq_some_iff.1 h).1
   have hv:w.heap[b] =.cells cs el fr:=by rw[Array.getElem?_eq_getElem hlt] at h;exact Option.some.inj h
   simp[World.setCell,Array.getElem_modify,hlt,hv]
  obtain⟨cs',k1,k2,k3,k4,k5,k6⟩:=qz r (o+1) _ _ h2
  exact⟨cs',k1,by rw[k2];simp,by rw[k3];simp[World.setCell],k4,k5,k6⟩
theorem rV{b:Nat}:∀ (vs:List Value) (o:Nat) (w:World) (k:Nat),k≠b→(w.setCells b o vs).heap[k]? =w.heap[k]?
 | [],_,_,_,_=>rfl
 |v::r,o,w,k,hk=>by simp only[World.setCells];rw[rV r _ _ _ hk];exact Below.heap_setCell _ _ _ _ hk
theorem vT{w:World}{a v:Value}{b o:Nat}{n by_:Nat}(ha:a=.pointer (some ⟨b,o,none⟩))(hz:look T.sz t=some (n,by_))(hv:v.cells.size=n)(h1:∀x∈v.cells.toList,x.oneCell'=true)
  (hc:∀j,j < n→(w.cell? ⟨b,o+j,none⟩).isSome=true) (hf:∀j,j < n→w.frozen? ⟨b,o+j,none⟩=false):(Instr.storeAt t a v).run P w=.ok () (w.setCells b o v.cells.toList):=by
 obtain⟨i,hi1,hi2,hi3⟩:=T.szOk _ _ _ hz
 subst ha
 have hst:=run_storeCells_cells (P:=P) b o v.cells.toList 0 w (by simpa[hv] using hc) (by simpa[hv] using hf) h1
 simp only[Nat.add_zero] at hst
 simp[Instr.storeAt,Instr.sureAddr,storeVar,sizeOf,typeInfo,hi1,hi2,hv,hst]
theorem SimE.setc{tm:Array Value}{k o:Nat}{cs us:List AV}{vs:List Value}(h:SimE F X σ tm)(hb:look σ.h k=some cs)(hl:o+us.length≤cs.length)(hvl:vs.length=us.length)(hr:∀ (i:Nat) u v,us[i]? =some u→vs[i]? =some v→Rel X u v)
  (hown:∀ (i:Nat) sz l v,cw us[i]? =some (sz,l)→vs[i]? =some v→gl F X sz l v∧(∀r sz' l' a n c a' n' c',σ.own r=some (sz',l')→rootV tm X.w r=some (.slice (some a) n c)→v=.slice (some a') n' c'→a.block≠a'.block))
  (hone:∀ (i j:Nat) p q,cw us[i]? =some p→cw us[j]? =some q→i=j) (hm:fx cs=false):
  SimE F ⟨X.w.setCells k o vs,X.g⟩ (σ.setc k (b7 cs o us)) tm∧Ext F X ⟨X.w.setCells k o vs,X.g⟩:=by
 obtain⟨b1,b2,arr,el,fr,b3,b4,b5,b6⟩:=(h.box k cs hb).cells hm
 obtain⟨arr',k1,k2,k3,k4,k5,k6⟩:=qz vs o X.w arr b3
 have hheap:=rV (b:=k) vs o X.w
 have hpres:mH X ⟨X.w.setCells k o vs,X.g⟩:=by
  intro b n hbn
  have hne:b≠k:=fun e1=>by rw[e1,b1] at hbn;cases hbn
  exact⟨n,Nat.le_refl _,hbn,fun j _=>cN (hheap b hne)⟩
 have hext:Ext F X ⟨X.w.setCells k o vs,X.g⟩:=⟨k4,k5,k6,by show _≤(X.w.setCells k o vs).heap.size;rw[k3];exact Nat.le_refl _,fun b hF=>⟨hheap b (fun e1=>b2 (by rw[← e1];exact hF)),rfl⟩,hpres⟩
 refine⟨?_,hext⟩
 have hsome:∀j,j < vs.length→(X.w.cell? ⟨k,o+j,none⟩).isSome=true:=by
  intro j hj
  have:o+j < arr.size:=by omega
  simp[World.cell?,b3,this]
 have hcellin:∀j (hj:j < vs.length),(X.w.setCells k o vs).cell? ⟨k,o+j,none⟩=some vs[j] :=World.cell?_setCells_in k vs o X.w hsome
 have hcellout:∀q,(q < o∨o+vs.length≤q)→(X.w.setCells k o vs).cell? ⟨k,q,none⟩=X.w.cell? ⟨k,q,none⟩:=fun q hq=>World.cell?_setCells_out k vs o X.w ⟨k,q,none⟩ (fun _ _=>hq)
 have harr:∀q,(X.w.setCells k o vs).cell? ⟨k,q,none⟩=arr'[q]? :=fun q=>by simp[World.cell?,k1]
 have harr0:∀q,X.w.cell? ⟨k,q,none⟩=arr[q]? :=fun q=>by simp[World.cell?,b3]
 have hslen:(b7 cs o us).length=cs.length:=by simp[b7];omega
 have hsp:∀ (q:Nat) u,(b7 cs o us)[q]? =some u→(o≤q∧q < o+us.length∧us[q - o]? =some u)∨((q < o∨o+us.length≤q)∧cs[q]? =some u):=by
  intro q u hq
  simp only[b7] at hq
  by_cases h1:q < o
  ·right
   rw[List.getElem?_append_left (by simp;omega),List.getElem?_append_left (by simp;omega),List.getElem?_take,if_pos h1] at hq
   exact⟨.inl h1,hq⟩
  ·by_cases h2:q < o+us.length
   ·left
    rw[List.getElem?_append_left (by simp;omega),List.getElem?_append_right (by simp;omega)] at hq
    have:(cs.take o).length=o:=by simp;omega
    rw[this] at hq
    exact⟨by omega,h2,hq⟩
   ·right
    rw[List.getElem?_append_right (by simp;omega),List.getElem?_drop] at hq
    have:(cs.take o++us).length=o+us.length:=by simp;omega
    rw[this] at hq
    refine⟨.inr (by omega),?_⟩
    rw[← hq];congr 1;omega
 have hrootS:∀t,rootV tm (X.w.setCells k o vs) (.s t)=rootV tm X.w (.s t):=fun _=>rfl
 have howns:∀r sz l,(σ.setc k (b7 cs o us)).own r=some (sz,l)→(∃i,r=.c k (o+i)∧cw us[i]? =some (sz,l)∧i < vs.length)∨(σ.own r=some (sz,l)∧rootV tm (X.w.setCells k o vs) r=rootV tm X.w r):=by
  intro r sz l ho
  cases r with
  |s t=>exact .inr ⟨ho,rfl⟩
  |c k' o'=>
   simp only[AS.own,AS.setc,ab] at ho
   by_cases e1:k'=k
   ·rw[if_pos e1] at ho
    subst e1
    simp only at ho
    cases hq:(b7 cs o us)[o']? with
    |none=>rw[hq] at ho;cases ho
    |some u=>
     rw[hq] at ho
     rcases hsp o' u hq with ⟨g1,g2,g3⟩| ⟨g1,g2⟩
     ·exact .inl ⟨o' - o,by congr 1;omega,by rw[g3];exact ho,by omega⟩
     ·refine .inr ⟨by simp only[AS.own];rw[hb];simp only;rw[g2];exact ho,?_⟩
      simp only[rootV];exact hcellout o' (by omega)
   ·rw[if_neg e1] at ho
    refine .inr ⟨ho,?_⟩
    simp only[rootV];exact cN (hheap k' e1)
 have hnewroot:∀i (hi:i < vs.length),rootV tm (X.w.setCells k o vs) (.c k (o+i))=some vs[i] :=fun i hi=>hcellin i hi
 have toX':∀ {sz l y},gl F X sz l y→gl F ⟨X.w.setCells k o vs,X.g⟩ sz l y:=by
  intro sz l y hk
  refine hk.keep fun b n c hy=> ?_
  have hbk:b≠k:=fun e1=>by
   rcases hk with ⟨hk,_⟩| ⟨b',cap,cs',e',fr',m1,m2,_⟩
   ·rw[hk] at hy;cases hy
   ·rw[m1] at hy;cases hy;rw[e1,b1] at m2;cases m2
  exact⟨hheap b hbk,rfl,(hk.lt hy).2⟩
 have heq:lM σ.dropC.e tm (X.w.setCells k o vs):=by
  intro p hp
  have h1:=h.eqm p (List.mem_filter.1 hp).1
  cases hr2:p.2 with
  |s t=>rw[hr2] at h1;exact h1
  |c b q=>exact absurd hr2 (p9 p hp q)
 refine⟨⟨h.size,fun b n hbn=>by show b < (X.w.setCells k o vs).heap.size;rw[k3];exact h.gb b n hbn,fun b hF=>by show b < (X.w.setCells k o vs).heap.size;rw[k3];exact h.fb b hF,fun t u hu=>(h.slot t u hu).mono hpres,fun k' cs' hk=> ?_,heq.look,fun r sz l ho=> ?_,fun r r' sz l sz' l' a n c a' n' c' hne ho ho' hr1 hr2=> ?_⟩,heq⟩
 ·simp only[AS.setc,ab] at hk
  by_cases e1:k'=k
  ·subst e1
   rw[if_pos rfl] at hk
   cases hk
   refine eg.box ⟨b1,b2,arr',el,fr,k1,by rw[k2,b4,hslen],fun q=> ?_,fun q u y hu hy=> ?_⟩
   ·show(X.w.setCells k' o vs).frozen? _=false
    rw[World.frozen?_setCells];exact b5 q
   ·rw[← harr] at hy
    rcases hsp q u hu with ⟨g1,g2,g3⟩| ⟨g1,g2⟩
    ·have hi:q - o < vs.length:=by omega
     have:=hcellin (q - o) hi
     rw[show o+ (q - o)=q by omega] at this
     rw[this] at hy;cases hy
     exact(hr (q - o) u _ g3 (List.getElem?_eq_getElem hi)).mono hpres
    ·rw[hcellout q (by omega),harr0] at hy
     exact(b6 q u y g2 hy).mono hpres
  ·rw[if_neg e1] at hk
   have hbx:=h.box k' cs' hk
   exact hbx.keep ⟨hheap k' e1,rfl,hbx.nF⟩ hpres
 ·rcases howns r sz l ho with ⟨i,rfl,h1,h2⟩| ⟨h1,h2⟩
  ·exact⟨vs[i],hnewroot i h2,toX' (hown i sz l vs[i] h1 (List.getElem?_eq_getElem h2)).1⟩
  ·obtain⟨y,m1,m2⟩:=h.own r sz l h1
   exact⟨y,by rw[h2];exact m1,toX' m2⟩
 ·rcases howns r sz l ho with ⟨i,rfl,h1,h2⟩| ⟨h1,h2⟩
  ·rcases howns r' sz' l' ho' with ⟨j,rfl,g1,g2⟩| ⟨g1,g2⟩
   ·exact absurd (by rw[hone i j _ _ h1 g1]) hne
   ·rw[hnewroot i h2] at hr1
    rw[g2] at hr2
    exact((hown i sz l vs[i] h1 (List.getElem?_eq_getElem h2)).2 r' sz' l' a' n' c' a n c g1 hr2 (Option.some.inj hr1)).symm
  ·rcases howns r' sz' l' ho' with ⟨j,rfl,g1,g2⟩| ⟨g1,g2⟩
   ·rw[h2] at hr1
    rw[hnewroot j g2] at hr2
    exact(hown j sz' l' vs[j] g1 (List.getElem?_eq_getElem g2)).2 r sz l a n c a' n' c' h1 hr1 (Option.some.inj hr2)
   ·rw[h2] at hr1;rw[g2] at hr2
    exact h.disj r r' sz l sz' l' a n c a' n' c' hne h1 g1 hr1 hr2
theorem JH{u:AV}{v:Value}(h:Rel X u v)(hv:∀xs,v=.agg xs→∃cs,u=.ag cs)(h1:u.cells.all AV.one=true):∀x∈v.cells.toList,x.oneCell'=true:=by
 obtain⟨hl,hr⟩:=mE h hv
 intro x hx
 obtain⟨i,hi⟩:=List.getElem?_of_mem hx
 have hi':v.cells[i]? =some x:=by simpa using hi
 have hil:=(Array.getElem?_eq_some_iff.1 hi').1
 have hu:u.cells[i]? =some (u.cells[i]'(by omega)):=List.getElem?_eq_getElem (by omega)
 exact AV.one_rel (hr i _ x hu hi') (List.all_eq_true.1 h1 _ (List.mem_of_getElem? hu))
theorem Hj{u:AV}{v:Value}(h:Rel X u v)(hok:u.okc=true):∀xs,v=.agg xs→∃cs,u=.ag cs:=by
 intro xs hxs
 subst hxs
 cases h with
 |ag us xs hl hr=>exact⟨us,rfl⟩
 |v=>cases hok
theorem I9{k o n by_:Nat}{cs:List AV}{u0:AV}(hx:opV σ x=some (.v (.pointer (some ⟨k,o,none⟩))))(hb:look σ.h k=some cs)(hy:opV σ y=some u0)(hok:u0.okc=true)(hz:look T.sz t=some (n,by_))(hn:Nat.beq u0.rd.cells.length n=true)(h1:u0.rd.cells.all AV.one=true)(hp:fM u0.rd.cells)(hl:Nat.ble (o+n) cs.length=true)
  {R:AS→Prop} (hR:R (σ.setc k (b7 cs o u0.rd.cells))) (hm:fx cs=false):cy P ⟨none,.store t x y,ty,pos,af,g⟩ σ R:=by
 intro F X a hs
 have e1:=bF (bt hs hx)
 have e2:=(bt hs hy).rd
 have hokr:u0.rd.okc=true:=by cases u0<;> first|exact hok|rfl
 have hag:=Hj e2 hokr
 obtain⟨hcl,hcr⟩:=mE e2 hag
 have hnn:=Nat.eq_of_beq_eq_true hn
 have hle:=Nat.le_of_ble_eq_true hl
 obtain⟨b1,b2,arr,el,fr,b3,b4,b5,b6⟩:=(hs.box k cs hb).cells hm
 have hrun:=vT (P:=P) (T:=T) (t:=t) (w:=X.w) (a:=a.eval x) (v:=a.eval y) (n:=n) (by_:=by_) (b:=k) (o:=o) e1 hz (by rw[← hcl,hnn]) (JH e2 hag h1) (fun j hj=>by
  have:o+j < arr.size:=by rw[b4];omega
  simp[World.cell?,b3,this]) (fun j hj=>b5 _)
 have hfit:o+u0.rd.cells.length≤cs.length:=by omega
 obtain⟨s1,s2⟩:=SimE.setc (cs:=cs) (us:=u0.rd.cells) (vs:=(a.eval y).cells.toList) hs hb hfit (by simp[hcl]) (fun i u v hu hv=>hcr i u v hu (by simpa using hv)) (fun i sz l v ho=>by
  cases hi:u0.rd.cells[i]? with
  |none=>rw[hi] at ho;cases ho
  |some u=>rw[hi,hp u (List.mem_of_getElem? hi)] at ho;cases ho) (fun i j p q ho=>by
  cases hi:u0.rd.cells[i]? with
  |none=>rw[hi] at ho;cases ho
  |some u=>rw[hi,hp u (List.mem_of_getElem? hi)] at ho;cases ho) hm
 have hex:(execOp a.eval ⟨none,.store t x y,ty,pos,af,g⟩).run P X.w=.ok .skip (X.w.setCells k o (a.eval y).cells.toList):=by
  simp only[execOp]
  simp[hrun]
 unfold jN
 rw[hex]
 exact⟨_,_,rfl,hR,s1,s2⟩
theorem zS{k o s sz by_:Nat}{cs:List AV}{r:Root}{L:List (List AV)}(hx:opV σ x=some (.v (.pointer (some ⟨k,o,none⟩))))(hr:kI σ s=some r)(ho:σ.own r=some (sz,L))(hb:look (σ.lay r).h k=some cs)(hz:look T.sz t=some (1,by_))(hl:Nat.ble (o+1) cs.length=true)
  {R:AS→Prop} (hR:R ((σ.lay r).setc k (b7 cs o [.sl true sz L]))) (hm:fx cs=false):cy P ⟨none,.store t x (.tmp s),ty,pos,af,g⟩ σ R:=by
 intro F X a hs
 have e1:=bF (bt hs hx)
 have hxv:=nq hs hr
 have hrel:=wX hs ho hxv
 obtain⟨v0,hv1,hown⟩:=hs.own r sz L ho
 rw[hxv] at hv1
 have hv1':a.tmps.getD s undef=v0:=Option.some.inj hv1
 have hev:a.eval (.tmp s)=v0:=hv1'
 rw[hv1'] at hrel
 have hs1:=hs.lay r
 have hle:=Nat.le_of_ble_eq_true hl
 obtain⟨b1,b2,arr,el,fr,b3,b4,b5,b6⟩:=(hs1.box k cs hb).cells hm
 have hvc:v0.cells.toList=[v0] ∧v0.cells.size=1:=by
  obtain⟨q,c,rfl⟩:=gy hrel
  exact⟨rfl,rfl⟩
 have hrun:=vT (P:=P) (T:=T) (t:=t) (w:=X.w) (a:=a.eval x) (v:=v0) (n:=1) (by_:=by_) (b:=k) (o:=o) e1 hz hvc.2 (by rw[hvc.1];intro q hq;simp at hq;subst hq;obtain⟨_,_,rfl⟩:=gy hrel;rfl) (fun j hj=>by
  have:o+j < arr.size:=by omega
  simp[World.cell?,b3,this]) (fun j hj=>b5 _)
 obtain⟨s1,s2⟩:=SimE.setc (cs:=cs) (us:=[.sl true sz L]) (vs:=[v0]) hs1 hb (by simpa using hle) rfl (fun i u v hu hv=>by
  cases i with
  |zero=>simp at hu hv;subst hu hv;exact hrel
  |succ i=>simp at hu) (fun i sz' l' v hu hv=>by
  cases i with
  |zero=>
   simp at hu hv;subst hv
   simp only[cw,Option.some.injEq,Prod.mk.injEq] at hu
   obtain⟨rfl,rfl⟩:=hu
   refine⟨hown,fun r' sz2 l2 q n c q' n' c' ho2 hr2 hvq=> ?_⟩
   obtain⟨h1,h2⟩:=wY ho2
   exact hs.disj r' r sz2 l2 sz L q n c q' n' c' h1 h2 ho hr2 (by rw[hxv,hv1',hvq])
  |succ i=>simp at hv) (fun i j p q hi hj=>by
  have h1:∀m:Nat,∀z,cw ([AV.sl true sz L][m]?)=some z→m=0:=fun m z h=>by
   cases m with
   |zero=>rfl
   |succ m=>simp[cw] at h
  rw[h1 i p hi,h1 j q hj]) hm
 have hex:(execOp a.eval ⟨none,.store t x (.tmp s),ty,pos,af,g⟩).run P X.w=.ok .skip (X.w.setCells k o [v0]):=by
  simp only[execOp,hev]
  rw[hvc.1] at hrun
  simp[hrun]
 unfold jN
 rw[hex]
 exact⟨_,_,rfl,hR,s1,s2⟩
theorem zp{f:FuncId}{caps:Array Operand}{us:List AV}{dd:Option Tmp}(hx:uq σ caps.toList=some us):OpV P ⟨dd,.makeFunc (.func f) #[] caps,ty,pos,af,g⟩ σ (.fn f us):=by
 refine aG rfl fun F X a hs=>⟨.func (.func f) #[] (caps.map a.eval),by simp[execOp,Instr.makeFunc],?_⟩
 obtain⟨g1,g2⟩:=o5 hx
 refine .fn f us _ (by simp[g1]) (fun i u v hu hv=> ?_)
 have hil:=(List.getElem?_eq_some_iff.1 hu).1
 have hic:i < caps.size:=by rw[g1] at hil;simpa using hil
 have hc:caps.toList[i]? =some caps[i] :=by simp[hic]
 obtain⟨u',k1,k2⟩:=g2 i caps[i] hc
 rw[hu] at k1;cases k1
 simp[hic] at hv
 subst hv
 exact co hs (by simp[Op.operands]) k2
theorem pR{f:FuncId}{vs:List Value}{v:Value}(hf:IQ P f)(h:∀w,Calls P f vs.toArray w fun e w'=>e=.returned v∧Below w.heap.size w w'):ai P f (vs.map .v) [] (fun out H=>out=.ret (.v v)∧H=[]):=by
 refine⟨hf,fun F X xs hs=> ?_⟩
 have hxs:xs=vs.toArray:=by
  have hsz:xs.size=vs.length:=by have:=hs.size;simpa using this
  apply Array.ext
  ·simp[hsz]
  ·intro i h1 h2
   have hi:i < vs.length:=by omega
   have hlk:look (slotsOf 0 (vs.map AV.v)) i=some (.v vs[i]):=by
    have:∀ (us:List AV) (k i:Nat) u,us[i]? =some u→look (slotsOf k us) (k+i)=some u:=by
     intro us
     induction us with
     |nil=>intro k i u h;simp at h
     |cons u0 us ih=>
      intro k i u h
      simp only[slotsOf,ab]
      cases i with
      |zero=>simp at h;subst h;simp
      |succ i=>rw[if_neg (by omega),show k+ (i+1)=(k+1)+i by omega];exact ih (k+1) i u (by simpa using h)
    have:=this (vs.map AV.v) 0 i (.v vs[i]) (by simp[hi])
    simpa using this
   have:=bF (hs.slot i _ hlk)
   simp[h1] at this
   simp[this]
 subst hxs
 refine(h X.w).mono fun e w' ⟨he,hb⟩=> ?_
 have hn:New X ⟨w',X.g⟩:=⟨hb.os,hb.tape,hb.output,hb.size,fun b hlt=>⟨hb.block b hlt,rfl⟩⟩
 have hgb:∀b n,X.g b=some n→b < w'.heap.size:=fun b n hg=>Nat.lt_of_lt_of_le (hs.gb b n hg) hb.size
 refine⟨⟨w',X.g⟩,.ret (.v v),[],rfl,⟨rfl,rfl⟩,⟨v,he,?_⟩,hn.ext hs.gb hs.fb⟩
 refine⟨⟨rfl,hgb,fun b hF=>Nat.lt_of_lt_of_le (hs.fb b hF) hb.size,fun t u hu=> ?_,fun k cs hk=>by simp[av] at hk,fun x r hx=>by simp[av] at hx,fun r sz l ho=> ?_,fun r r' sz l sz' l' a n c a' n' c' _ ho=> ?_⟩,fun p hp=>by cases hp⟩
 ·simp only[ab,av] at hu
  split at hu
  ·rename_i e1;subst e1;cases hu;exact .v _
  ·cases hu
 ·cases r with
  |s t=>obtain⟨_,h2⟩:=jb ho;cases h2
  |c k o=>simp[AS.own,av] at ho
 ·cases r with
  |s t=>obtain⟨_,h2⟩:=jb ho;cases h2
  |c k o=>simp[AS.own,av] at ho
def uV(w:World):GW:=⟨w,fun b=>match w.heap[b]? with|some (.cells cs _ _)=>some cs.size|_=>none⟩
theorem wC{f:FuncId}{us:List AV}{v:Value}{vs:List Value}{w:World}(h:ai P f us [] (fun out H=>out=.ret (.v v)∧H=[]))(hl:vs.length=us.length)(hr:∀ (i:Nat) u x,us[i]? =some u→vs[i]? =some x→Rel (uV w) u x∧cw (some u)=none):Calls P f vs.toArray w fun e w'=>e=.returned v∧Below w.heap.size w w':=by
 have hnown:∀r,AS.own ⟨us.length,slotsOf 0 us,[],[]⟩ r=none:=by
  intro r
  cases r with
  |c k o=>rfl
  |s t=>
   simp only[AS.own]
   cases hlk:look (slotsOf 0 us) t with
   |none=>rfl
   |some u=>
    obtain⟨_,h2⟩:=cY us 0 t u hlk
    rw[Nat.sub_zero] at h2
    have ht:t < vs.length:=by rw[hl];exact(List.getElem?_eq_some_iff.1 h2).1
    exact(hr t u vs[t] h2 (List.getElem?_eq_getElem ht)).2
 have hs:SimE (fun b=>b < w.heap.size) (uV w) ⟨us.length,slotsOf 0 us,[],[]⟩ vs.toArray:=by
  refine⟨⟨by simp[hl],fun b n hb=> ?_,fun b hb=>hb,fun t u hu=> ?_,fun k cs hk=>by simp[av] at hk,fun x r hx=>by simp[av] at hx,(fun r sz l ho=>by rw[hnown r] at ho;cases ho),(fun r r' sz l sz' l' a n c a' n' c' _ ho=>by rw[hnown r] at ho;cases ho)⟩,(fun p hp=>by cases hp)⟩
  ·show b < w.heap.size
   simp only[uV] at hb
   split at hb
   ·rename_i cs _ _ heq;exact(Array.getElem?_eq_some_iff.1 heq).1
   ·cases hb
  ·obtain⟨_,h2⟩:=cY us 0 t u hu
   rw[Nat.sub_zero] at h2
   have ht:t < vs.length:=by rw[hl];exact(List.getElem?_eq_some_iff.1 h2).1
   have:vs.toArray.getD t undef=vs[t] :=by simp[ht]
   rw[this]
   exact(hr t u vs[t] h2 (List.getElem?_eq_getElem ht)).1
 refine(h.2 _ (uV w) vs.toArray hs).mono fun e w' ⟨X',out,H',p1,p2,p3,p4⟩=> ?_
 obtain⟨rfl,rfl⟩:=p2
 obtain⟨y,rfl,hy⟩:=p3
 have:=bF (hy.slot 0 (.v v) (by simp[ab]))
 have hyv:y=v:=by simpa using this
 subst hyv p1
 exact⟨rfl,p4.os,p4.tape,p4.output,p4.size,fun b hb=>(p4.frame b hb).1⟩
end
structure AppIn where
 ia:Nat
 i0:Nat
 s:Nat
 d:Nat
 k:Nat
 o:Nat
 sz:Nat
 L:List (List AV)
 m:List (List AV)
def AppIn.r(A:AppIn):Root:=.c A.k A.o
def v6(P:Program)(A:AppIn)(o:Oper)(σ:AS):Prop:=
 ∀F X (a:Act) (xv:Value),SimR F X σ o.op a.tmps→a.tmps.getD A.s undef=xv→∃ (t u e ty:TypeId) (i:TypeInfo) (zv:Value) (du:TypeDesc) (yv:Value) (c':Nat→Nat→Value),P.underlying t=some (.slice e)∧P.underlying u=some du∧(du=.string∨∃e',du=.slice e')∧P.info? e=some i∧i.zero=some zv∧zv.cells.size=A.sz∧i.size=A.sz∧AddsA P X A.sz A.m yv c'∧(A.L.length+A.m.length) * i.bytes≤140737488355328∧1≤i.bytes∧
  ∀y w',(Builtin.append_ #[t,u] ty #[xv,yv]).run P X.w=.ok y w'→(execOp a.eval o).run P X.w=.ok (.value y) w'
def v8(P:Program)(A:AppIn)(o:Oper)(σ:AS):Prop:=o.dst=some A.s∧∀F X (a:Act),SimR F X σ o.op a.tmps→∃x,(execOp a.eval o).run P X.w=.ok (.value x) X.w∧rootV a.tmps X.w A.r=some x
def kf(l body:List Oper):List Oper→Nat→Bool
 | [],_=>true
 |o::r,i=>fE l i o body 0 && kf l body r (i+1)
theorem lp{l body:List Oper}:∀ (r:List Oper) (i q:Nat) (o:Oper),kf l body r i=true→r[q]? =some o→fE l (i+q) o body 0=true
 | [],_,_,_,_,h=>by simp at h
 |o0::r,i,0,o,h,ho=>by
  simp at ho;subst ho
  simp only[kf,Bool.and_eq_true] at h
  exact h.1
 |o0::r,i,q+1,o,h,ho=>by
  simp only[kf,Bool.and_eq_true] at h
  have:=lp r (i+1) q o h.2 (by simpa using ho)
  rw[show i+ (q+1)=i+1+q by omega];exact this
def vU(P:Program)(l:List Oper)(A:AppIn)(K:AS→Prop):Nat→List Oper→AS→Prop
 |_,[],σ=>K (σ.lay A.r)
 |k,o::rest,σ=>∃d u,o.dst=some d∧Nat.ble (d+1) σ.n=true∧((k=A.ia∧v6 P A o σ∧u=.sl true A.sz (A.L++A.m))∨(k≠A.ia∧bp l σ o=some true∧OpV P o σ u∧(k=A.i0→v8 P A o σ))∨(k≠A.ia∧k≠A.i0∧bp l σ o=some false∧u=.v undef))∧vU P l A K (k+1) rest (σ.put d u)
section
variable {P:Program} {Q:Exit→AS→Prop} {ks:List It} {T:Tys P} {σ:AS} {K:AS→Prop} {l body rest:List Oper} {ow o:Oper} {A:AppIn} {d k:Nat} {u:AV}
end
section
variable {P:Program} {Q:Exit→AS→Prop} {ks:List It} {T:Tys P} {σ:AS} {t ty e:TypeId} {x y:Operand} {pos:String} {af:Array Edge} {g:Option (Nat × Bool)} {d k:Nat} {l rest:List Oper} {post:AOut→List (Nat × List AV)→Prop} {us:List AV} {ρs:List (Option Root)} {xs:Array Operand} {ats:Array TypeId} {f:FuncId}
def mz:List (Option Root)→Bool
 | [] =>true
 |none::r=>mz r
 |some _::r=>r.all (fun ρ=>match ρ with|none=>true|some _=>false)
theorem ij:∀ {ρs:List (Option Root)},mz ρs=true→∀ (i j:Nat) r r',ρs[i]? =some (some r)→ρs[j]? =some (some r')→i=j
 | [],_,i,j,r,r',h,_=>by simp at h
 |none::ρs,h,i,j,r,r',hi,hj=>by
  cases i with
  |zero=>simp at hi
  |succ i=>
   cases j with
   |zero=>simp at hj
   |succ j=>rw[ij (ρs:=ρs) h i j r r' (by simpa using hi) (by simpa using hj)]
 |some r0::ρs,h,i,j,r,r',hi,hj=>by
  have hno:∀ (q:Nat) z,ρs[q]? ≠some (some z):=fun q z hq=>by
   have:=List.all_eq_true.1 h _ (List.mem_of_getElem? hq)
   simp at this
  cases i with
  |zero=>
   cases j with
   |zero=>rfl
   |succ j=>exact absurd (by simpa using hj) (hno j r')
  |succ i=>exact absurd (by simpa using hi) (hno i r)
def oP:List (Option Root)→Bool
 | [] =>true
 |some (.c _ _)::_=>false
 |_::r=>oP r
theorem ne:∀ {ρs:List (Option Root)},oP ρs=true→∀k o,some (Root.c k o) ∉ ρs
 | [],_,_,_,h=>by cases h
 |none::r,h,k,o,hm=>by
  rcases List.mem_cons.1 hm with h1|h1
  ·cases h1
  ·exact ne (ρs:=r) h k o h1
 |some (.s _)::r,h,k,o,hm=>by
  rcases List.mem_cons.1 hm with h1|h1
  ·cases h1
  ·exact ne (ρs:=r) h k o h1
 |some (.c _ _)::r,h,k,o,hm=>by cases h
theorem nb:∀ {ρs:List (Option Root)} {σ:AS},oP ρs=true→(dn ρs σ).h=σ.h
 | [],_,_=>rfl
 |none::r,σ,h=>nb (ρs:=r) h
 |some (.s t)::r,σ,h=>by simp only[dn];rw[nb (ρs:=r) h];rfl
 |some (.c _ _)::r,σ,h=>by cases h
theorem Nl{fop:Op}(hop:fop=.call { callee:=.value (.func f),args:=xs,argTypes:=ats })(hc:ai P f us [] post)(ho:l[k]? =some ⟨some d,fop,ty,pos,af,g⟩)(hw:bp l σ ⟨some d,fop,ty,pos,af,g⟩=some true)(ha:PArgs σ xs.toList us ρs)(h1:mz ρs=true)(hd:Nat.ble (d+1) σ.n=true)
  (hR:∀out H',post out H'→∃u,out=.ret u∧aY P Q (.o l (k+1) rest::ks) ((dT σ ρs (dn ρs σ).h H').put d u)):aY P Q (.o l k (⟨some d,fop,ty,pos,af,g⟩::rest)::ks) σ:=by
 subst hop
 exact dZ ho hw (xZ hc ha (fun i j r hi hj=>ij h1 i j r r hi hj) (fun _ _ _=>rfl) (fun k cs hk=>by simp[av] at hk) (fun k cs hk=>⟨hk,rfl⟩) hd hR)
theorem JP{it:It}{n:Nat}{t:List (Nat × AV)}{H:List (Nat × List AV)}{e:List (Nat × Root)}(H':List (Nat × List AV))(hit:(match it with|.c _=>true|.o _ _ _=>true|_=>false)=true)(hh:∀k cs,look H' k=some cs→look H k=some cs)(h:aY P Q (it::ks) ⟨n,t,H',e⟩):aY P Q (it::ks) ⟨n,t,H,e⟩:=by
 have hsub:∀F X tm,SimE F X ⟨n,t,H,e⟩ tm→SimE F X ⟨n,t,H',e⟩ tm:=fun F X tm hs=>hs.sub rfl (fun _ _ h=>h) hh (fun _ h=>h)
 cases it with
 |c c=>exact fun F X a hs D hd=>h F X a (hsub _ _ _ hs) D hd
 |o l k r=>exact fun F X a hs D hd=>h F X a (hsub _ _ _ hs) D hd
 |b id=>cases hit
 |l I=>cases hit
theorem e9{it:It}{n b:Nat}{t:List (Nat × AV)}{c1 c2:List AV}{H:List (Nat × List AV)}{e:List (Nat × Root)}(hit:(match it with|.c _=>true|.o _ _ _=>true|_=>false)=true)(h:aY P Q (it::ks) ⟨n,t,(b,c1)::H,e⟩):aY P Q (it::ks) ⟨n,t,(b,c1)::(b,c2)::H,e⟩:=
 JP ((b,c1)::H) hit (fun k cs hk=>by
  simp only[ab] at hk ⊢
  by_cases e1:k=b
  ·rw[if_pos e1] at hk ⊢;exact hk
  ·rw[if_neg e1] at hk ⊢;rw[if_neg e1];exact hk) h
theorem vM{v:Value}{op:Op}{dd:Option Tmp}(ho:op=.assign (.const v)):OpV P ⟨dd,op,ty,pos,af,g⟩ σ (cst v):=bm (bg v) (.inr ho)
theorem aH{α:Type}{k:Nat}{a:α}{r:List (Nat × α)}:look ((k,a)::r) k=some a:=by rw[ab,if_pos rfl]
theorem bX{α:Type}{k k':Nat}{a b:α}{r:List (Nat × α)}(h:k≠k')(h2:look r k=some b):look ((k',a)::r) k=some b:=by rw[ab,if_neg h];exact h2
theorem xJ{c:Code}(h:aY P Q (.c c::.o [] 0 [] ::ks) σ):aY P Q (.c c::ks) σ:=by
 intro F X a hs D hd
 refine wp_mono (h F X a hs D hd) fun e a' w' hp=> ?_
 obtain⟨h1,X',σ',h2,h3,h4,h5⟩:=hp
 cases e with
 |normal=>
  have h6:wpOps P ([] :List Oper).toArray (da F X' D (Stk P Q ks)) (List.range' 0 0) a' X'.w:=h3 F X' a' h4 D h1
  have h7:da F X' D (Stk P Q ks) .normal a' X'.w:=h6
  subst h2
  exact h7.ext h5
 |_=>exact⟨h1,X',σ',h2,h3,h4,h5⟩
theorem Jt{op:BinOp}{yt:TypeId}{dd:Option Tmp}{a b:Int}(hx:opV σ x=some (.v (.int .i64 a)))(hy:opV σ y=some (.v (.int .i64 b)))(hop:op=.add)(h: -9223372036854775808≤a+b∧a+b≤9223372036854775807):OpV P ⟨dd,.binOp op t x y yt,ty,pos,af,g⟩ σ (.v (.int .i64 (a+b))):=by
 subst hop
 have hw:IntKind.i64.wrap (a+b)=a+b:=by rw[IntKind.wrap_i64];omega
 exact bi hx hy (by simp only[arV];rw[hw])
theorem IS{op:BinOp}{yt:TypeId}{dd:Option Tmp}{a b:Int}(hx:opV σ x=some (.v (.int .i64 a)))(hy:opV σ y=some (.v (.int .i64 b)))(hop:op=.sub)(h: -9223372036854775808≤a - b∧a - b≤9223372036854775807):OpV P ⟨dd,.binOp op t x y yt,ty,pos,af,g⟩ σ (.v (.int .i64 (a - b))):=by
 subst hop
 have hw:IntKind.i64.wrap (a - b)=a - b:=by rw[IntKind.wrap_i64];omega
 exact bi hx hy (by simp only[arV];rw[hw])
theorem D7{op:BinOp}{yt:TypeId}{dd:Option Tmp}{k yk:IntKind}{a b:Int}(c:Int)(hx:opV σ x=some (.v (.int k a)))(hy:opV σ y=some (.v (.int yk b)))(hop:op=.shr)(hb:0≤b)(hc:(2:Int) ^ (min b.toNat k.bits)=c)(hc0:0 < c):OpV P ⟨dd,.binOp op t x y yt,ty,pos,af,g⟩ σ (.v (.int k (a / c))):=by
 have:=Cv (P:=P) (d:=dd) (t:=t) (yt:=yt) (ty:=ty) (pos:=pos) (af:=af) (g:=g) hx hy hop hb
 rwa [hc,Int.fdiv_eq_ediv_of_nonneg _ (by omega)] at this
theorem EW{op:BinOp}{yt:TypeId}{dd:Option Tmp}{yk:IntKind}{a b:Int}(c:Int)(hx:opV σ x=some (.v (.int .i64 a)))(hy:opV σ y=some (.v (.int yk b)))(hop:op=.shl)(hb:0≤b)(hc:(2:Int) ^ (min b.toNat IntKind.i64.bits)=c)(h: -9223372036854775808≤a * c∧a * c≤9223372036854775807):OpV P ⟨dd,.binOp op t x y yt,ty,pos,af,g⟩ σ (.v (.int .i64 (a * c))):=by
 have:=Im (P:=P) (d:=dd) (t:=t) (yt:=yt) (ty:=ty) (pos:=pos) (af:=af) (g:=g) hx hy hop hb
 have hw:IntKind.i64.wrap (a * c)=a * c:=by rw[IntKind.wrap_i64];omega
 rwa [hc,hw] at this
theorem QH(K:List Nat)(h:Stk P Q ks .ret (σ.keep K)):aY P Q (.c .ret::ks) σ:=fun F X a hs D hd=>wp_ret ⟨hd,X,σ.keep K,rfl,h,hs.keep K,Ext.refl F X⟩
theorem IH(l:List UInt8):fY { data:=l.toArray }=l:=rfl
theorem N8(l:List UInt8):fY { data:=Array.mk l }=l:=rfl
theorem Lv:fY { data:= #[] }=[] :=rfl
end
section
variable {P:Program} {T:Tys P} {σ:AS} {d:Option Tmp} {t yt ty:TypeId} {x y z:Operand} {pos:String} {af:Array Edge} {g:Option (Nat × Bool)}
theorem yI{o:Oper}{u u':AV}(h:OpV P o σ u)(e:u=u'):OpV P o σ u':=e ▸ h
theorem JF{op:BinOp}{a b:Int}(hx:opV σ x=some (.v (.int .i64 a)))(hy:opV σ y=some (.v (.int .i64 b)))(hop:op=.mul)(h: -9223372036854775808≤a * b∧a * b≤9223372036854775807):OpV P ⟨d,.binOp op t x y yt,ty,pos,af,g⟩ σ (.v (.int .i64 (a * b))):=by
 subst hop
 have hw:IntKind.i64.wrap (a * b)=a * b:=by rw[IntKind.wrap_i64];omega
 exact bi hx hy (by simp only[arV];rw[hw])
def cz:BinOp→Int→Int→Prop
 |.eql,a,b=>a=b
 |.neq,a,b=>a≠b
 |.lss,a,b=>a < b
 |.leq,a,b=>a≤b
 |.gtr,a,b=>b < a
 |.geq,a,b=>b≤a
 |_,_,_=>False
def GE:BinOp→Bool
 |.eql|.neq|.lss|.leq|.gtr|.geq=>true
 |_=>false
theorem di{op:BinOp}{k:IntKind}{a b:Int}(hx:opV σ x=some (.v (.int k a)))(hy:opV σ y=some (.v (.int k b)))(ho:GE op=true)(h:cz op a b):OpV P ⟨d,.binOp op t x y yt,ty,pos,af,g⟩ σ (.v (.bool true)):=by
 refine bi hx hy ?_
 cases op<;> simp[GE] at ho<;> simp only[cz] at h<;> simp[arV,OV,h]
theorem dk{op:BinOp}{k:IntKind}{a b:Int}(hx:opV σ x=some (.v (.int k a)))(hy:opV σ y=some (.v (.int k b)))(ho:GE op=true)(h:¬cz op a b):OpV P ⟨d,.binOp op t x y yt,ty,pos,af,g⟩ σ (.v (.bool false)):=by
 refine bi hx hy ?_
 cases op<;> simp[GE] at ho<;> simp only[cz] at h<;> simp[arV,OV,h] <;> omega
theorem fX{op:BinOp}{a b:List UInt8}(hx:opV σ x=some (.v (.string (mkB a))))(hy:opV σ y=some (.v (.string (mkB b))))(hop:op=.eql)(h:a=b):OpV P ⟨d,.binOp op t x y yt,ty,pos,af,g⟩ σ (.v (.bool true)):=by
 subst hop;exact cR hx hy (by simp[Jg,jB,h])
theorem fW{op:BinOp}{a b:List UInt8}(hx:opV σ x=some (.v (.string (mkB a))))(hy:opV σ y=some (.v (.string (mkB b))))(hop:op=.eql)(h:a≠b):OpV P ⟨d,.binOp op t x y yt,ty,pos,af,g⟩ σ (.v (.bool false)):=by
 subst hop;exact cR hx hy (by simp[Jg,jB,h])
theorem ri{op:BinOp}{a b:List UInt8}(hx:opV σ x=some (.v (.string (mkB a))))(hy:opV σ y=some (.v (.string (mkB b))))(hop:op=.neq)(h:a≠b):OpV P ⟨d,.binOp op t x y yt,ty,pos,af,g⟩ σ (.v (.bool true)):=by
 subst hop;exact cR hx hy (by simp[Jg,jB,h])
theorem rj{op:BinOp}{a b:List UInt8}(hx:opV σ x=some (.v (.string (mkB a))))(hy:opV σ y=some (.v (.string (mkB b))))(hop:op=.neq)(h:a=b):OpV P ⟨d,.binOp op t x y yt,ty,pos,af,g⟩ σ (.v (.bool false)):=by
 subst hop;exact cR hx hy (by simp[Jg,jB,h])
theorem vP{op:UnOp}(hx:opV σ x=some (.v (.bool false)))(hop:op=.not):OpV P ⟨d,.unOp op t x,ty,pos,af,g⟩ σ (.v (.bool true)):=rt hx hop
theorem vE{op:UnOp}(hx:opV σ x=some (.v (.bool true)))(hop:op=.not):OpV P ⟨d,.unOp op t x,ty,pos,af,g⟩ σ (.v (.bool false)):=rt hx hop
theorem hU{k:IntKind}{o:Bool}{L:List UInt8}{i:Int}{e:TypeId}{by_:Nat}(hx:opV σ x=some (.sl o 1 (jY L)))(hy:opV σ y=some (.v (.int k i)))(h0:look T.ty t=some (.slice e))(hsz:look T.sz e=some (1,by_))(h1:0≤i)(h2:i < L.length):
  OpV P ⟨d,.indexAddr t x y,ty,pos,af,g⟩ σ (.el [.v (.int .u8 (L.getD i.toNat 0).toNat)]):=by
 refine yI (iw (T:=T) hx hy h0 hsz h1 (by rw[gB];exact h2)) ?_
 congr 1
 have:i.toNat < L.length:=by omega
 simp[jY,List.getD_eq_getElem?_getD,this]
theorem Ku{Q:Exit→AS→Prop}{ks:List It}(K:List Nat)(h:Stk P Q ks .ret { (σ.keep K) with h:=[],e:=[] }):aY P Q (.c .ret::ks) σ:=fun F X a hs D hd=>
 wp_ret ⟨hd,X,_,rfl,h,(hs.keep K).sub rfl (fun _ _ h=>h) (fun k cs h=>by simp[av] at h) (fun p hp=>by cases hp),Ext.refl F X⟩
theorem lb{k o:Nat}{cs:List AV}{q:Nat × List (List AV)}(hb:look σ.h k=some cs)(hu:cw cs[o]? =some q):σ.own (.c k o)=some q:=by simp only[AS.own,hb];exact hu
theorem opk(o:Oper){u:AV}(h:OpV P o σ u):OpV P o σ u:=h
theorem arO{Q:Exit→AS→Prop}{ks:List It}{l:List Oper}{k:Nat}(o:Oper){rest:List Oper}(h:aY P Q (.o l k (o::rest)::ks) σ):aY P Q (.o l k (o::rest)::ks) σ:=h
theorem arC{Q:Exit→AS→Prop}{ks:List It}(c:Code)(h:aY P Q (.c c::ks) σ):aY P Q (.c c::ks) σ:=h
end
section
variable {P:Program} {T:Tys P} {σ:AS} {d:Option Tmp} {t yt ty e:TypeId} {x y z:Operand} {pos:String} {af:Array Edge} {g:Option (Nat × Bool)}
theorem Gb{op:BinOp}{k:IntKind}{a b:Int}(hx:opV σ x=some (.v (.int k a)))(hy:opV σ y=some (.v (.int k b)))(hop:op=.quo)(hk:k=.i64∨k=.u64)(h:0≤a∧a≤9223372036854775807∧0 < b):OpV P ⟨d,.binOp op t x y yt,ty,pos,af,g⟩ σ (.v (.int k (a / b))):=by
 have hq:=BP (P:=P) (d:=d) (t:=t) (yt:=yt) (ty:=ty) (pos:=pos) (af:=af) (g:=g) hx hy hop (by omega)
 rw[Int.tdiv_eq_ediv_of_nonneg h.1] at hq
 have h1:0≤a / b:=Int.ediv_nonneg h.1 (by omega)
 have h2:a / b≤a:=Int.ediv_le_self b h.1
 have hw:k.wrap (a / b)=a / b:=by
  rcases hk with rfl|rfl
  ·rw[IntKind.wrap_i64];omega
  ·rw[IntKind.wrap_u64];omega
 rwa [hw] at hq
theorem Je{op:BinOp}{a b:Int}(hx:opV σ x=some (.v (.int .u64 a)))(hy:opV σ y=some (.v (.int .u64 b)))(hop:op=.quo)(h:0≤a∧a≤18446744073709551615∧0 < b):OpV P ⟨d,.binOp op t x y yt,ty,pos,af,g⟩ σ (.v (.int .u64 (a / b))):=by
 have hq:=BP (P:=P) (d:=d) (t:=t) (yt:=yt) (ty:=ty) (pos:=pos) (af:=af) (g:=g) hx hy hop (by omega)
 rw[Int.tdiv_eq_ediv_of_nonneg h.1] at hq
 have h1:0≤a / b:=Int.ediv_nonneg h.1 (by omega)
 have h2:a / b≤a:=Int.ediv_le_self b h.1
 have hw:IntKind.u64.wrap (a / b)=a / b:=by rw[IntKind.wrap_u64];omega
 rwa [hw] at hq
theorem Ge{op:BinOp}{k:IntKind}{a b:Int}(hx:opV σ x=some (.v (.int k a)))(hy:opV σ y=some (.v (.int k b)))(hop:op=.rem)(h:0≤a∧0 < b):OpV P ⟨d,.binOp op t x y yt,ty,pos,af,g⟩ σ (.v (.int k (a % b))):=by
 have hq:=Cd (P:=P) (d:=d) (t:=t) (yt:=yt) (ty:=ty) (pos:=pos) (af:=af) (g:=g) hx hy hop (by omega)
 rwa [Int.tmod_eq_emod_of_nonneg h.1] at hq
theorem zU{t2:TypeId}{s:ByteArray}(hx:opV σ x=some (.v (.string s)))(h0:look T.ty t=some .string)(ht:look T.ty t2=some (.slice e))(he:look T.ty e=some (.int .u8)):OpV P ⟨d,.convert t t2 x,ty,pos,af,g⟩ σ (.sl true 1 (jY (fY s))):=by
 intro F X a hs
 have h1:=aL hs (by simp[Op.operands]) hx
 have hrun:=run_bytes_of_string (P:=P) X.w t t2 e s (T.tyOk _ _ h0) (T.tyOk _ _ ht) (T.tyOk _ _ he)
 have hge:=grownCap_ge X.w s.size 0 e
 generalize hcap:grownCap X.w s.size 0 e=cap at hrun hge
 have hsz:(bytesRow s cap).size=cap:=by
  have:s.data.size=s.size:=rfl
  simp[bytesRow,this];omega
 have hlen:(jY (fY s)).length=s.size:=by rw[gB,← iD]
 obtain⟨X',k1,k2,k3,k4,k5⟩:=uE (X:=X) (F:=F) (w':=X.w.drew.alloc (.cells (bytesRow s cap) e ((bytesRow s cap).size,(bytesRow s cap).size+1))) (cells:=bytesRow s cap) (el:=e) (fr:=((bytesRow s cap).size,(bytesRow s cap).size+1)) (sz:=1) (cap:=cap) (rows:=jY (fY s)) rfl rfl rfl rfl hs.gb hs.fb
  (fun r hr=>by obtain⟨b,_,rfl⟩:=List.mem_map.1 hr;rfl) (by rw[hsz,Nat.mul_one]) (by rw[hlen];exact hge) (fun i j r u hr hu=>by
   simp only[jY,List.getElem?_map,Option.map_eq_some_iff] at hr
   obtain⟨b,hb,rfl⟩:=hr
   cases j with
   |succ j=>simp at hu
   |zero=>
    simp at hu;subst hu
    refine⟨_,?_,.v _⟩
    have hi:i < s.data.size:=by
     have:=(List.getElem?_eq_some_iff.1 hb).1
     simpa[fY] using this
    simp only[Nat.mul_one,Nat.add_zero,bytesRow]
    rw[Array.getElem?_append_left (by simpa using hi),Array.getElem?_map]
    have hb':s.data[i]? =some b:=by
     have:(s.data.toList)[i]? =some b:=hb
     rw[← this];simp
    rw[hb'];rfl) (fun j _ h2=>by simp;omega)
 refine ci (x:=.slice (some ⟨X.w.heap.size,0,none⟩) s.size cap) (w':=X.w.drew.alloc (.cells (bytesRow s cap) e ((bytesRow s cap).size,(bytesRow s cap).size+1))) ?_ ⟨X',k1,k2,k3,?_,?_⟩
 ·simp only[execOp,h1];exact aW hrun
 ·rw[hlen] at k4;exact k4
 ·rw[hlen] at k5;exact k5
def rq(T:Tys P):List Field→Option (List (Nat × Nat))
 | [] =>some []
 |f::fs=>match look T.sz f.type with
  |some (n,_)=>match rq T fs with
   |some r=>some ((f.offset,n)::r)
   |none=>none
  |none=>none
def pF(T:Tys P)(pl:List (Nat × Nat)):List AV→List Nat→List AV→Option (List AV)
 |cs,[],[] =>some cs
 |cs,i::is,u::us=>match pl[i]? with
  |some (off,n)=>match u.okc && Nat.beq u.cells.length n && Nat.ble (off+n) cs.length with
   |true=>pF T pl (b7 cs off u.cells) is us
   |false=>none
  |none=>none
 |_,_,_=>none
theorem wg:∀ (fs:List Field) (pl:List (Nat × Nat)),rq T fs=some pl→fs.mapM (fun f=>(P.info? f.type).map fun i=>(f.offset,i.size))=some pl
 | [],pl,h=>by simp only[rq,Option.some.injEq] at h;subst h;rfl
 |f::fs,pl,h=>by
  simp only[rq] at h
  split at h
  ·rename_i n b hn
   split at h
   ·rename_i r hr
    cases h
    obtain⟨i,h1,h2,_⟩:=T.szOk _ _ _ hn
    simp[List.mapM_cons,h1,h2,wg fs r hr]
   ·cases h
  ·cases h
theorem Gw{cs us:List AV}{o j:Nat}(ho:o+us.length≤cs.length):(b7 cs o us)[j]? =if o≤j∧j < o+us.length then us[j - o]? else cs[j]? :=by
 unfold b7
 by_cases h1:j < o
 ·rw[if_neg (by omega),List.append_assoc,List.getElem?_append_left (by simp;omega),List.getElem?_take_of_lt h1]
 ·by_cases h2:j < o+us.length
  ·rw[if_pos ⟨by omega,h2⟩,List.append_assoc,List.getElem?_append_right (by simp;omega),List.getElem?_append_left (by simp;omega)]
   congr 1;simp;omega
  ·rw[if_neg (by omega),List.getElem?_append_right (by simp;omega),List.getElem?_drop]
   congr 1;simp;omega
theorem Gt{cs us:List AV}{o:Nat}(ho:o+us.length≤cs.length):(b7 cs o us).length=cs.length:=by
 unfold b7;simp;omega
theorem yZ{X:GW}(pl:List (Nat × Nat)):∀ (is:List Nat) (us:List AV) (xs:List Value) (cs cs':List AV) (arr:Array Value),arr.size=cs.length→(∀ (j:Nat) u x,cs[j]? =some u→arr[j]? =some x→Rel X u x)→
  us.length=xs.length→(∀ (i:Nat) u x,us[i]? =some u→xs[i]? =some x→Rel X u x)→pF T pl cs is us=some cs'→∃arr',Instr.fill (pl[·]?) arr (is.zip xs)=some arr'∧arr'.size=cs'.length∧∀ (j:Nat) u x,cs'[j]? =some u→arr'[j]? =some x→Rel X u x
 | [],[],xs,cs,cs',arr,ha,hr,hl,hx,hb=>by
   simp only[pF,Option.some.injEq] at hb
   subst hb
   exact⟨arr,by simp[Instr.fill],ha,hr⟩
 | [],u::us,xs,cs,cs',arr,ha,hr,hl,hx,hb=>by simp[pF] at hb
 |i::is,[],xs,cs,cs',arr,ha,hr,hl,hx,hb=>by simp[pF] at hb
 |i::is,u::us,[],cs,cs',arr,ha,hr,hl,hx,hb=>by simp at hl
 |i::is,u::us,x::xs,cs,cs',arr,ha,hr,hl,hx,hb=>by
  simp only[pF] at hb
  split at hb
  ·rename_i off n hpl
   split at hb
   ·rename_i hc
    simp only[Bool.and_eq_true] at hc
    have hn:=Nat.eq_of_beq_eq_true hc.1.2
    have hle:=Nat.le_of_ble_eq_true hc.2
    have hrx:=hx 0 u x rfl rfl
    obtain⟨g1,g2⟩:=mE hrx (Hj hrx hc.1.1)
    obtain⟨f1,f2,f3⟩:=vy off x.cells.toList 0 arr (by simp;omega)
    have hfold:x.cells.zipIdx.foldl (fun cs (c,j)=>cs.setIfInBounds (off+j) c) arr=(x.cells.toList.zipIdx 0).foldl (fun a p=>a.setIfInBounds (off+p.2) p.1) arr:=by
     rw[← Array.foldl_toList,Array.toList_zipIdx]
    obtain⟨arr',k1,k2,k3⟩:=yZ pl is us xs (b7 cs off u.cells) cs' ((x.cells.toList.zipIdx 0).foldl (fun a p=>a.setIfInBounds (off+p.2) p.1) arr) (by rw[f1,ha,Gt (by omega)]) (fun j u' x' hu' hx'=>by
      rw[Gw (by omega)] at hu'
      split at hu'
      ·rename_i hj
       have h2:=f2 (j - off) (by simp;omega)
       rw[show off+0+ (j - off)=j by omega] at h2
       rw[h2] at hx'
       exact g2 (j - off) u' x' hu' (by simpa using hx')
      ·rename_i hj
       rw[f3 j (by simp;omega)] at hx'
       exact hr j u' x' hu' hx') (by simpa using hl) (fun q u' x' hu' hx'=>hx (q+1) u' x' (by simpa using hu') (by simpa using hx')) hb
    refine⟨arr',?_,k2,k3⟩
    simp only[List.zip_cons_cons,Instr.fill,hpl]
    rw[if_neg (by simp;omega),hfold]
    exact k1
   ·cases hb
  ·cases hb
theorem oK{ps:Array (Nat × Operand)}{fs:Array Field}{pl:List (Nat × Nat)}{zv:Value}{us cs:List AV}(ht:look T.ty t=some (.struct fs))(hz:look T.zr t=some zv)(hp:rq T fs.toList=some pl)(hx:uq σ (ps.toList.map (·.2))=some us)(hb:pF T pl (zv.cells.toList.map .v) (ps.toList.map (·.1)) us=some cs):OpV P ⟨d,.build t ps,ty,pos,af,g⟩ σ (.ag cs):=by
 refine aG (M2 cs) fun F X a hs=> ?_
 obtain⟨it,hi1,hi2⟩:=T.zrOk _ _ hz
 obtain⟨g1,g2⟩:=o5 hx
 simp only[List.length_map] at g1
 have hmem:∀p∈ps.toList,p.2∈(Op.build t ps).operands.toList:=fun p hp=>by simp only[Op.operands];exact List.mem_map.2 ⟨p,hp,rfl⟩
 obtain⟨arr',k1,k2,k3⟩:=yZ (T:=T) (X:=X) pl (ps.toList.map (·.1)) us (ps.toList.map fun p=>a.eval p.2) (zv.cells.toList.map .v) cs zv.cells (by simp) (fun j u x hu hx=>by
   simp only[List.getElem?_map,Option.map_eq_some_iff] at hu
   obtain⟨y,hy,rfl⟩:=hu
   have:some y=some x:=hy.symm.trans (by simpa using hx)
   cases this;exact .v _) (by simp[g1]) (fun i u x hu hx=>by
   simp only[List.getElem?_map,Option.map_eq_some_iff] at hx
   obtain⟨p,hpq,rfl⟩:=hx
   obtain⟨u',h1,h2⟩:=g2 i p.2 (by simp[List.getElem?_map,hpq])
   rw[hu] at h1;cases h1
   exact co hs (hmem p (List.mem_of_getElem? hpq)) h2) hb
 refine⟨.agg arr',?_,.ag cs arr' k2.symm k3⟩
 have hz2:(ps.toList.map (·.1)).zip (ps.toList.map fun p=>a.eval p.2)=(ps.map fun(i,x)=>(i,a.eval x)).toList:=by
  rw[Array.toList_map,List.zip_map']
 rw[hz2] at k1
 have hbt:P.built t (ps.map fun(i,x)=>(i,a.eval x)).toList=some arr':=by
  simp only[Program.built,hi1,T.tyOk _ _ ht,hi2,wg _ _ hp]
  simpa using k1
 simp only[execOp]
 exact aW (run_build X.w t _ _ hbt)
theorem arE{Q:Exit→AS→Prop}{ks:List It}{l:List Oper}{k:Nat}(h:aY P Q (.o l k [] ::ks) σ):aY P Q (.o l k [] ::ks) σ:=h
theorem MP{d:Nat}{el:TypeId}{u0:AV}(hx:opV σ x=some u0)(hok:u0.okc=true)(hp:(u0.rd.cells.all fun u=>(cw (some u)).isNone)=true)(hd:Nat.ble (d+1) σ.n=true){R:AS→Prop}(hR:∀k,gm k σ.h→R ((σ.box k u0.rd.cells).put d (.v (.pointer (some ⟨k,0,none⟩))))):cy P ⟨some d,.box el x,ty,pos,af,g⟩ σ R:=
 Qp hx hok (fun u hu=>by have:=List.all_eq_true.1 hp u hu;simpa using this) hd hR
theorem jW{k a:Nat}{cs:List AV}{H:List (Nat × List AV)}(h:gm k ((a,cs)::H)):a≠k∧gm k H:=⟨h (a,cs) List.mem_cons_self,fun q hq=>h q (List.mem_cons_of_mem _ hq)⟩
def xN(P:Program)(o:Oper)(σ σ':AS):Prop:=∀R:AS→Prop,R σ'→cy P o σ R
theorem fB{k o s sz by_:Nat}{cs:List AV}{r:Root}{L:List (List AV)}(hx:opV σ x=some (.v (.pointer (some ⟨k,o,none⟩))))(hr:kI σ s=some r)(ho:σ.own r=some (sz,L))(hb:look (σ.lay r).h k=some cs)(hz:look T.sz t=some (1,by_))(hl:Nat.ble (o+1) cs.length=true)(hm:fx cs=false):
  xN P ⟨none,.store t x (.tmp s),ty,pos,af,g⟩ σ ((σ.lay r).setc k (b7 cs o [.sl true sz L])):=fun _ hR=>zS (T:=T) hx hr ho hb hz hl hR hm
end
section
variable {P:Program} {T:Tys P} {σ:AS} {F:Nat→Prop} {X:GW} {t yt ty e:TypeId} {x y z:Operand} {pos:String} {af:Array Edge} {g:Option (Nat × Bool)}
theorem SimE.setm{tm:Array Value}{k:Nat}{l l':List (Value × AV)}{w':World}(h:SimE F X σ tm)(hb:look σ.h k=some [.mp l])(hheap:∀c,c≠k→w'.heap[c]? =X.w.heap[c]?)(hsz:w'.heap.size=X.w.heap.size)(ho:w'.os=X.w.os)(ht:w'.tape=X.w.tape)(hu:w'.output=X.w.output)
  (hnew:∃ (es:Array MapEntry) (clock:Nat),w'.heap[k]? =some (.map es clock)∧es.size=l'.length∧∀ (i:Nat) (e:MapEntry) p,l'[i]? =some p→es[i]? =some e→e.key=p.1∧Rel X p.2 e.val):SimE F ⟨w',X.g⟩ (σ.setc k [.mp l']) tm∧Ext F X ⟨w',X.g⟩:=by
 have hbk:=(h.box k _ hb)
 have hpres:mH X ⟨w',X.g⟩:=by
  intro b n hbn
  have hne:b≠k:=fun e1=>by rw[e1,hbk.gn] at hbn;cases hbn
  exact⟨n,Nat.le_refl _,hbn,fun j _=>cN (hheap b hne)⟩
 have hext:Ext F X ⟨w',X.g⟩:=⟨ho,ht,hu,by show _≤w'.heap.size;rw[hsz];exact Nat.le_refl _,fun b hF=>⟨hheap b (fun e1=>hbk.nF (by rw[← e1];exact hF)),rfl⟩,hpres⟩
 refine⟨?_,hext⟩
 have howns:∀r sz q,(σ.setc k [.mp l']).own r=some (sz,q)→σ.own r=some (sz,q)∧rootV tm w' r=rootV tm X.w r:=by
  intro r sz q hr
  cases r with
  |s t=>exact⟨hr,rfl⟩
  |c k' o'=>
   simp only[AS.own,AS.setc,ab] at hr
   by_cases e1:k'=k
   ·rw[if_pos e1] at hr
    cases o' with
    |zero=>simp[cw] at hr
    |succ o'=>simp[cw] at hr
   ·rw[if_neg e1] at hr
    exact⟨hr,by simp only[rootV];exact cN (hheap k' e1)⟩
 have toX':∀ {sz l y},gl F X sz l y→gl F ⟨w',X.g⟩ sz l y:=by
  intro sz l y hk
  refine hk.keep fun b n c hy=> ?_
  have hne:b≠k:=fun e1=>by
   rcases hk with ⟨hk,_⟩| ⟨b',cap,cs',e',fr',m1,m2,_⟩
   ·rw[hk] at hy;cases hy
   ·rw[m1] at hy;cases hy;rw[e1,hbk.gn] at m2;cases m2
  exact⟨hheap b hne,rfl,(hk.lt hy).2⟩
 have heq:lM σ.dropC.e tm w':=by
  intro p hp
  have h1:=h.eqm p (List.mem_filter.1 hp).1
  cases hr2:p.2 with
  |s t=>rw[hr2] at h1;exact h1
  |c b q=>exact absurd hr2 (p9 p hp q)
 refine⟨⟨h.size,fun b n hbn=>by show b < w'.heap.size;rw[hsz];exact h.gb b n hbn,fun b hF=>by show b < w'.heap.size;rw[hsz];exact h.fb b hF,fun t u hu=>(h.slot t u hu).mono hpres,fun k' cs' hk=> ?_,heq.look,fun r sz l ho=> ?_,fun r r' sz l sz' l' a n c a' n' c' hne ho ho' hr1 hr2=> ?_⟩,heq⟩
 ·simp only[AS.setc,ab] at hk
  by_cases e1:k'=k
  ·subst e1
   rw[if_pos rfl] at hk
   cases hk
   obtain⟨es,ck,n1,n2,n3⟩:=hnew
   exact .inr ⟨l',rfl,hbk.gn,hbk.nF,es,ck,n1,n2,fun i e p hp he=>⟨(n3 i e p hp he).1,(n3 i e p hp he).2.mono hpres⟩⟩
  ·rw[if_neg e1] at hk
   have hbx:=h.box k' cs' hk
   exact hbx.keep ⟨hheap k' e1,rfl,hbx.nF⟩ hpres
 ·obtain⟨h1,h2⟩:=howns r sz l ho
  obtain⟨y,m1,m2⟩:=h.own r sz l h1
  exact⟨y,by rw[h2];exact m1,toX' m2⟩
 ·obtain⟨h1,h2⟩:=howns r sz l ho
  obtain⟨g1,g2⟩:=howns r' sz' l' ho'
  rw[h2] at hr1;rw[g2] at hr2
  exact h.disj r r' sz l sz' l' a n c a' n' c' hne h1 g1 hr1 hr2
theorem qt{d:Nat}{o:Oper}(ho:o=⟨some d,.makeMap t none,ty,pos,af,g⟩)(hd:Nat.ble (d+1) σ.n=true){R:AS→Prop}(hR:∀k,gm k σ.h→R ((σ.box k [.mp []]).put d (.v (.map (some k))))):cy P o σ R:=by
 subst ho
 intro F X a hs
 have hn:New X ⟨X.w.alloc (.map #[] 0),X.g⟩:=⟨rfl,rfl,rfl,by show X.w.heap.size≤(X.w.heap.push _).size;simp,fun b hb=>⟨by show(X.w.heap.push _)[b]? =_;rw[Array.getElem?_push,if_neg (by omega)],rfl⟩⟩
 have hgb:∀b n,X.g b=some n→b < (X.w.alloc (.map #[] 0)).heap.size:=fun b n hb=>by have:=hs.gb b n hb;show b < (X.w.heap.push _).size;simp;omega
 have hnew:=hs.new hn hgb
 have hgk:X.g X.w.heap.size=none:=by
  cases hg:X.g X.w.heap.size with
  |none=>rfl
  |some n=>have:=hs.gb _ _ hg;omega
 have hhk:(X.w.alloc (.map #[] 0)).heap[X.w.heap.size]? =some (.map #[] 0):=by show(X.w.heap.push _)[_]? =_;simp
 have hb:eI F ⟨X.w.alloc (.map #[] 0),X.g⟩ X.w.heap.size [.mp []] :=.inr ⟨[],rfl,hgk,fun hF=>Nat.lt_irrefl _ (hs.fb _ hF),#[],0,hhk,rfl,fun i e p hp=>by simp at hp⟩
 have h1:(execOp a.eval ⟨some d,.makeMap t none,ty,pos,af,g⟩).run P X.w=.ok (.value (.map (some X.w.heap.size))) (X.w.alloc (.map #[] 0)):=by
  simp[execOp,Instr.makeMap,newObj,Sem.run]
 refine ci h1 ⟨⟨X.w.alloc (.map #[] 0),X.g⟩,_,rfl,hR X.w.heap.size (fun q hq e1=> ?_),?_,hn.ext hs.gb hs.fb⟩
 ·obtain⟨k,cs'⟩:=q
  simp only at e1
  subst e1
  have:∀ {l:List (Nat × List AV)} {k:Nat} {c:List AV},(k,c)∈l→∃c',look l k=some c':=by
   intro l
   induction l with
   |nil=>intro k c h;cases h
   |cons p l ih=>
    intro k c h
    obtain⟨k0,c0⟩:=p
    by_cases e2:k=k0
    ·exact⟨c0,by rw[ab,if_pos e2]⟩
    ·rcases List.mem_cons.1 h with h|h
     ·cases h;exact absurd rfl e2
     ·obtain⟨c',h'⟩:=ih h
      exact⟨c',by rw[ab,if_neg e2];exact h'⟩
  obtain⟨c',h'⟩:=this hq
  exact Nat.lt_irrefl _ (hs.box _ _ h').lt
 ·exact(hnew.box1 hb (by intro u hu;simp at hu;subst hu;rfl)).put_new (ba hd) (New.refl _) hgb (.v _) (FreshOk.plain rfl)
def smap(l:List (List UInt8 × AV)):AV:=.mp (l.map fun p=>(.string (mkB p.1),p.2))
def lget(l:List (List UInt8 × AV))(k:List UInt8):Option AV:=match l with
 | [] =>none
 | (k',u)::r=>if k=k' then some u else lget r k
def lset(l:List (List UInt8 × AV))(k:List UInt8)(u:AV):List (List UInt8 × AV):=match l with
 | [] =>[(k,u)]
 | (k',u')::r=>if k=k' then(k,u)::r else(k',u')::lset r k u
theorem HY(a b:List UInt8):(mkB a==mkB b)=decide (a=b):=by
 by_cases e:a=b
 ·subst e;rw[(MapKept.bytes_beq _ _).2 rfl];simp
 ·have:mkB a≠mkB b:=fun h=>e (by have:=congrArg fY h;simpa[jB] using this)
  cases hb:(mkB a==mkB b) with
  |false=>simp[e]
  |true=>exact absurd ((MapKept.bytes_beq _ _).1 hb) this
theorem rz(k:List UInt8):∀ (l:List (List UInt8 × AV)) (es:List MapEntry) (i:Nat),es.length=l.length→(∀ (j:Nat) (e:MapEntry) p,l[j]? =some p→es[j]? =some e→e.key=.string (mkB p.1))→
  (lget l k=none∧Instr.findNow .string (.string (mkB k)) es i=some none∧∀u,lset l k u=l++ [(k,u)])∨∃ (j:Nat) (e:MapEntry) (u:AV),l[j]? =some (k,u)∧es[j]? =some e∧lget l k=some u∧Instr.findNow .string (.string (mkB k)) es i=some (some (i+j,e.val))∧∀u',lset l k u'=l.set j (k,u')
 | [],es,i,hl,hk=>by
   have:es=[] :=List.length_eq_zero_iff.1 hl
   subst this
   exact .inl ⟨rfl,rfl,fun u=>rfl⟩
 | (k',u0)::l,[],i,hl,hk=>by simp at hl
 | (k',u0)::l,e::es,i,hl,hk=>by
   have h0:=hk 0 e (k',u0) rfl rfl
   simp only at h0
   by_cases e1:k=k'
   ·subst e1
    refine .inr ⟨0,e,u0,rfl,rfl,by simp[lget],?_,fun u'=>by simp[lset]⟩
    have hbb:(mkB k==mkB k)=true:=by rw[HY];simp
    simp[Instr.findNow,Instr.sameNow,h0,hbb]
   ·have hs:Instr.sameNow .string (.string (mkB k)) e.key=some false:=by rw[h0];simp[Instr.sameNow,HY,e1]
    rcases rz k l es (i+1) (by simpa using hl) (fun j e' p hp he=>hk (j+1) e' p (by simpa using hp) (by simpa using he)) with ⟨h1,h2,h3⟩| ⟨j,e',u,h1,h2,h3,h4,h5⟩
    ·exact .inl ⟨by simp[lget,e1,h1],by simp[Instr.findNow,hs,h2],fun u=>by simp[lset,e1,h3]⟩
    ·exact .inr ⟨j+1,e',u,by simpa using h1,by simpa using h2,by simp[lget,e1,h3],by simp[Instr.findNow,hs,h4];omega,fun u'=>by simp[lset,e1,h5]⟩
theorem mV{w:World}{kt:TypeId}{b:Bool}{s:ByteArray}(hk:P.underlying kt=some .string):(Instr.checkKey b 10000 kt (.string s)).run P w=.ok () w:=MapKept.run_checkKey (k:=.string s) hk trivial b 9999
theorem Cg{d:Option Tmp}{kt et:TypeId}{zv:Value}{k:Nat}{l:List (List UInt8 × AV)}{key:List UInt8}(hx:opV σ x=some (.v (.map (some k))))(hb:look σ.h k=some [smap l])(hy:opV σ y=some (.v (.string (mkB key))))(ht:look T.ty t=some (.map kt et))(hk:look T.ty kt=some .string)(hz:look T.zr et=some zv):
  OpV P ⟨d,.lookup t x y true,ty,pos,af,g⟩ σ (.tu [match lget l key with|some u=>u.rd|none=>cst zv,.v (.bool (lget l key).isSome)]):=by
 refine aG (tX _) fun F X a hs=> ?_
 have e1:=aL hs (by simp[Op.operands]) hx
 have e2:=aL hs (by simp[Op.operands]) hy
 obtain⟨g1,g2,es,ck,g3,g4,g5⟩:=(hs.box k _ hb).map
 have hut:=T.tyOk _ _ ht
 have huk:=T.tyOk _ _ hk
 obtain⟨iz,hz1,hz2⟩:=T.zrOk _ _ hz
 have hfind:=rz key l es.toList 0 (by simpa using g4) (fun j e p hp he=>(g5 j e (.string (mkB p.1),p.2) (by simp[hp]) (by simpa using he)).1)
 have hck:=mV (P:=P) (w:=X.w) (b:=es.isEmpty) (s:=mkB key) huk
 rcases hfind with ⟨h1,h2,_⟩| ⟨j,e,u,h1,h2,h3,h4,_⟩
 ·refine⟨.tuple #[zv,.bool false],?_,?_⟩
  ·simp only[execOp,e1,e2]
   refine aW ?_
   simp[Instr.lookup,run_underlying hut,MapKept.run_getObj_map g3,hck,Instr.findKey,run_underlying huk,h2,zeroValue,typeInfo,hz1,hz2]
  ·rw[h1]
   refine .tu _ _ rfl fun i u x hu hx=> ?_
   match i,hu,hx with
   |0,hu,hx=>simp at hu hx;subst hu hx;exact nH X zv
   |1,hu,hx=>simp at hu hx;subst hu hx;exact .v _
   |n+2,hu,hx=>simp at hu
 ·refine⟨.tuple #[e.val,.bool true],?_,?_⟩
  ·simp only[execOp,e1,e2]
   refine aW ?_
   simp[Instr.lookup,run_underlying hut,MapKept.run_getObj_map g3,hck,Instr.findKey,run_underlying huk,h4]
  ·rw[h3]
   refine .tu _ _ rfl fun i u' x hu hx=> ?_
   match i,hu,hx with
   |0,hu,hx=>
    simp at hu hx;subst hu hx
    exact(g5 j e (.string (mkB key),u) (by simp[h1]) (by simpa using h2)).2.rd
   |1,hu,hx=>simp at hu hx;subst hu hx;exact .v _
   |n+2,hu,hx=>simp at hu
theorem gG{d:Option Tmp}{kt et:TypeId}{zv:Value}{k:Nat}{l:List (List UInt8 × AV)}{key:List UInt8}(hx:opV σ x=some (.v (.map (some k))))(hb:look σ.h k=some [smap l])(hy:opV σ y=some (.v (.string (mkB key))))(ht:look T.ty t=some (.map kt et))(hk:look T.ty kt=some .string)(hz:look T.zr et=some zv)(hpz:(cst zv).isSl=false):
  OpV P ⟨d,.lookup t x y false,ty,pos,af,g⟩ σ (match lget l key with|some u=>u.rd|none=>cst zv):=by
 refine aG (by cases lget l key with
  |none=>exact bg zv
  |some u=>exact ef u) fun F X a hs=> ?_
 have e1:=aL hs (by simp[Op.operands]) hx
 have e2:=aL hs (by simp[Op.operands]) hy
 obtain⟨g1,g2,es,ck,g3,g4,g5⟩:=(hs.box k _ hb).map
 have hut:=T.tyOk _ _ ht
 have huk:=T.tyOk _ _ hk
 obtain⟨iz,hz1,hz2⟩:=T.zrOk _ _ hz
 have hfind:=rz key l es.toList 0 (by simpa using g4) (fun j e p hp he=>(g5 j e (.string (mkB p.1),p.2) (by simp[hp]) (by simpa using he)).1)
 have hck:=mV (P:=P) (w:=X.w) (b:=es.isEmpty) (s:=mkB key) huk
 rcases hfind with ⟨h1,h2,_⟩| ⟨j,e,u,h1,h2,h3,h4,_⟩
 ·refine⟨zv,?_,by rw[h1];exact nH X zv⟩
  simp only[execOp,e1,e2]
  refine aW ?_
  simp[Instr.lookup,run_underlying hut,MapKept.run_getObj_map g3,hck,Instr.findKey,run_underlying huk,h2,zeroValue,typeInfo,hz1,hz2]
 ·refine⟨e.val,?_,by rw[h3];exact(g5 j e (.string (mkB key),u) (by simp[h1]) (by simpa using h2)).2.rd⟩
  simp only[execOp,e1,e2]
  refine aW ?_
  simp[Instr.lookup,run_underlying hut,MapKept.run_getObj_map g3,hck,Instr.findKey,run_underlying huk,h4]
theorem n6{d:Nat}{o:Oper}{kt et:TypeId}(ho:o=⟨some d,.makeMap t none,ty,pos,af,g⟩)(ht:look T.ty t=some (.map kt et))(hk:look T.ty kt=some .string)(hd:Nat.ble (d+1) σ.n=true){R:AS→Prop}(hR:∀k,gm k σ.h→R ((σ.box k [smap []]).put d (.v (.map (some k))))):cy P o σ R:=qt ho hd hR
theorem BW{kt et:TypeId}{k:Nat}{l:List (List UInt8 × AV)}{key:List UInt8}{u:AV}(hx:opV σ x=some (.v (.map (some k))))(hb:look σ.h k=some [smap l])(hy:opV σ y=some (.v (.string (mkB key))))(hz:opV σ z=some u)(ht:look T.ty t=some (.map kt et))(hk:look T.ty kt=some .string){R:AS→Prop}(hR:R (σ.setc k [smap (lset l key u.rd)])):
  cy P ⟨none,.mapUpdate t x y z,ty,pos,af,g⟩ σ R:=by
 intro F X a hs
 have e1:=bF (bt hs hx)
 have e2:=bF (bt hs hy)
 have e3:=(bt hs hz).rd
 obtain⟨g1,g2,es,ck,g3,g4,g5⟩:=(hs.box k _ hb).map
 have hut:=T.tyOk _ _ ht
 have huk:=T.tyOk _ _ hk
 have hfind:=rz key l es.toList 0 (by simpa using g4) (fun j e p hp he=>(g5 j e (.string (mkB p.1),p.2) (by simp[hp]) (by simpa using he)).1)
 have hck:=mV (P:=P) (w:=X.w) (b:=false) (s:=mkB key) huk
 have hkl:k < X.w.heap.size:=(Array.getElem?_eq_some_iff.1 g3).1
 have fin:∀ (es':Array MapEntry) (ck':Nat),(execOp a.eval ⟨none,.mapUpdate t x y z,ty,pos,af,g⟩).run P X.w=.ok .skip { X.w with heap:=X.w.heap.setIfInBounds k (.map es' ck') }→es'.size=(lset l key u.rd).length→
   (∀ (i:Nat) (e:MapEntry) p,((lset l key u.rd).map fun p=>(Value.string (mkB p.1),p.2))[i]? =some p→es'[i]? =some e→e.key=p.1∧Rel X p.2 e.val)→jN P ⟨none,.mapUpdate t x y z,ty,pos,af,g⟩ a X.w fun x w'=>∃ (X':GW) (σ':AS),X'.w=w'∧R σ'∧SimE F X' σ' (a.put none x).tmps∧Ext F X X':=by
  intro es' ck' hrun hsz hen
  obtain⟨s1,s2⟩:=SimE.setm (l:=l.map fun p=>(Value.string (mkB p.1),p.2)) (l':=(lset l key u.rd).map fun p=>(Value.string (mkB p.1),p.2)) (w':={ X.w with heap:=X.w.heap.setIfInBounds k (.map es' ck') }) hs hb (fun c hc=>by simp[Array.getElem?_setIfInBounds,Ne.symm hc]) (by simp) rfl rfl rfl ⟨es',ck',by simp[hkl],by simpa using hsz,hen⟩
  unfold jN
  rw[hrun]
  exact⟨_,_,rfl,hR,s1,s2⟩
 rcases hfind with ⟨h1,h2,h3⟩| ⟨j,e,u0,h1,h2,h3,h4,h5⟩
 ·refine fin (es.push { key:=.string (mkB key),val:=a.eval z,born:=ck }) (ck+1) ?_ (by rw[h3];simp[g4]) (fun i e' p hp he=> ?_)
  ·simp only[execOp,e1,e2]
   simp[Instr.mapUpdate,run_underlying hut,MapKept.run_getObj_map g3,hck,Instr.findKey,run_underlying huk,h2,MapKept.run_setObj_map _ g3]
  ·rw[h3,List.map_append] at hp
   by_cases hi:i < es.size
   ·rw[List.getElem?_append_left (by simp at g4;simp;omega)] at hp
    rw[Array.getElem?_push,if_neg (by omega)] at he
    exact g5 i e' p hp he
   ·have hie:i=es.size:=by
     have:=(Array.getElem?_eq_some_iff.1 he).1
     simp at this;omega
    rw[List.getElem?_append_right (by simp at g4;simp;omega)] at hp
    rw[hie] at hp he
    simp at g4 hp he
    rw[g4] at hp
    simp at hp
    subst hp he
    exact⟨rfl,e3⟩
 ·have hje:es.toList[j]? =some e:=h2
  have hke:=(g5 j e (.string (mkB key),u0) (by simp[h1]) (by simpa using h2)).1
  have hjl:j < es.size:=by
   have:=(List.getElem?_eq_some_iff.1 h2).1
   simpa using this
  refine fin (es.modify j fun e=>{ e with key:=.string (mkB key),val:=a.eval z }) ck ?_ (by rw[h5];simp at g4 ⊢;exact g4) (fun i e' p hp he=> ?_)
  ·have hst:(Instr.keyThatStays (.string (mkB key)) (.string (mkB key))).run P X.w=.ok (.string (mkB key)) X.w:=by
    exact MapKept.run_keyThatStays (d:=.string) trivial
   have hkk:((es[j]?).map (·.key)).getD (.string (mkB key))=.string (mkB key):=by
    have:es[j]? =some e:=by simpa using h2
    rw[this];simpa using hke
   simp only[execOp,e1,e2]
   simp only[Nat.zero_add] at h4
   simp[Instr.mapUpdate,run_underlying hut,MapKept.run_getObj_map g3,hck,Instr.findKey,run_underlying huk,h4,hkk,hst,MapKept.run_setObj_map _ g3]
  ·rw[h5,List.map_set] at hp
   rw[Array.getElem?_modify] at he
   by_cases hij:j=i
   ·subst hij
    rw[if_pos rfl] at he
    rw[List.getElem?_set_self (by simp at g4;simp;omega)] at hp
    have h2':es[j]? =some e:=by simpa using h2
    rw[h2'] at he
    simp at he hp
    subst hp he
    exact⟨rfl,e3⟩
   ·rw[if_neg hij] at he
    rw[List.getElem?_set_ne hij] at hp
    exact g5 i e' p hp he
end
section
variable {P:Program} {T:Tys P} {σ:AS} {F:Nat→Prop} {X:GW} {t yt ty e:TypeId} {x y z:Operand} {pos:String} {af:Array Edge} {g:Option (Nat × Bool)}
def Bd(l:List UInt8):List AV:=l.map fun b=>AV.v (.int .u8 b.toNat)
theorem CQ(l:List UInt8):(Bd l).length=l.length:=by simp[Bd]
theorem Js(l:List UInt8)(i:Nat)(h:i < l.length):(Bd l)[i]? =some (.v (.int .u8 (l.getD i 0).toNat)):=by simp[Bd,h]
theorem Ka(l:List UInt8):fx (Bd l)=false:=by
 match l with
 | [] =>rfl
 | [b] =>rfl
 |b::c::r=>rfl
theorem DM{dd:Option Tmp}{u:TypeId}{k c:Nat}{L:List UInt8}(hx:opV σ x=some (.v (.slice (some ⟨k,0,none⟩) L.length c)))(hb:look σ.h k=some (Bd L))(ht:look T.ty t=some (.slice e))(he:look T.ty e=some (.int .u8))(hu:look T.ty u=some .string):
  OpV P ⟨dd,.convert t u x,ty,pos,af,g⟩ σ (.v (.string (mkB L))):=by
 refine aG rfl fun F X a hs=>⟨.string (mkB L),?_,.v _⟩
 have e1:=aL hs (by simp[Op.operands]) hx
 obtain⟨b1,b2,arr,el,fr,b3,b4,b5,b6⟩:=(hs.box k _ hb).cells (Ka L)
 simp only[execOp,e1]
 refine aW ?_
 refine run_convert_bytes_back X.w t u e ⟨k,0,none⟩ c L (T.tyOk _ _ ht) (T.tyOk _ _ he) (T.tyOk _ _ hu) (fun j hj=> ?_)
 have hlt:j < arr.size:=by rw[b4,CQ];exact hj
 have h1:=b6 j _ arr[j] (Js L j hj) (Array.getElem?_eq_getElem hlt)
 have h2:=bF h1
 rw[en]
 simp only[World.cell?,b3,Nat.zero_add,Array.getElem?_eq_getElem hlt,h2]
 simp[hj]
end
theorem NFL:(∀l:List UInt8,fY (mkB l)=l)∧∀l:List UInt8,(jY l).length=l.length:=⟨jB,gB⟩
def AS.nf(σ:AS):AS:=σ
section
variable {P:Program} {Q:Exit→AS→Prop} {ks:List It} {σ σ':AS} {l:List Oper} {k:Nat} {o:Oper} {rest:List Oper} {f:FuncId} {xs:Array Operand} {ats:Array TypeId} {ty:TypeId} {pos:String} {af:Array Edge} {g:Option (Nat × Bool)} {d:Nat} {us:List AV} {ρs:List (Option Root)} {post:AOut→List (Nat × List AV)→Prop}
theorem lP(hs:σ=σ')(h:aY P Q ks σ'):aY P Q ks (AS.nf σ):=hs ▸ h
theorem iS(hs:σ=σ')(h:Stk P Q ks .ret σ'):Stk P Q ks .ret (AS.nf σ):=hs ▸ h
theorem HN(h:aY P Q ks (AS.nf σ)):aY P Q ks σ:=h
theorem gi(K:List Nat)(hk:k=l.length)(h:aY P Q ks (AS.nf (σ.keep K))):aY P Q (.o l k [] ::ks) σ:=OA K hk h
theorem gQ(K:List Nat)(h:Stk P Q ks .ret (AS.nf (σ.keep K))):aY P Q (.c .ret::ks) σ:=QH K h
theorem Fi(K:List Nat)(h:Stk P Q ks .ret (AS.nf ⟨σ.n,(σ.keep K).t,[],[]⟩)):aY P Q (.c .ret::ks) σ:=by
 refine Ku K ?_
 exact h
theorem ie(ho:l[k]? =some o)(hw:bp l σ o=some true)(h:xN P o σ σ')(hn:aY P Q (.o l (k+1) rest::ks) (AS.nf σ')):aY P Q (.o l k (o::rest)::ks) σ:=dZ ho hw (h _ hn)
theorem IC{fop:Op}(hop:fop=.call { callee:=.value (.func f),args:=xs,argTypes:=ats })(hc:ai P f us [] post)(ho:l[k]? =some ⟨some d,fop,ty,pos,af,g⟩)(hw:bp l σ ⟨some d,fop,ty,pos,af,g⟩=some true)(ha:PArgs σ xs.toList us ρs)(h1:mz ρs=true)(hd:Nat.ble (d+1) σ.n=true)
  (hR:∀out H',post out H'→∃u,out=.ret u∧aY P Q (.o l (k+1) rest::ks) (AS.nf ((dT σ ρs (dn ρs σ).h H').put d u))):aY P Q (.o l k (⟨some d,fop,ty,pos,af,g⟩::rest)::ks) σ:=Nl hop hc ho hw ha h1 hd hR
end
section
variable {P:Program} {T:Tys P} {σ:AS} {d:Option Tmp} {t yt ty e:TypeId} {x y z:Operand} {pos:String} {af:Array Edge} {g:Option (Nat × Bool)}
def Cw(op:BinOp)(k:IntKind)(a b:Int):Option (AV × Prop):=
 match op,k with
 |.add,.i64=>some (.v (.int .i64 (a+b)),-9223372036854775808≤a+b∧a+b≤9223372036854775807)
 |.sub,.i64=>some (.v (.int .i64 (a - b)),-9223372036854775808≤a - b∧a - b≤9223372036854775807)
 |.mul,.i64=>some (.v (.int .i64 (a * b)),-9223372036854775808≤a * b∧a * b≤9223372036854775807)
 |.add,.u64=>some (.v (.int .u64 (a+b)),0≤a+b∧a+b≤18446744073709551615)
 |.sub,.u64=>some (.v (.int .u64 (a - b)),0≤a - b∧a - b≤18446744073709551615)
 |.mul,.u64=>some (.v (.int .u64 (a * b)),0≤a * b∧a * b≤18446744073709551615)
 |.quo,.i64=>some (.v (.int .i64 (a / b)),0≤a∧a≤9223372036854775807∧0 < b)
 |.quo,.u64=>some (.v (.int .u64 (a / b)),0≤a∧a≤18446744073709551615∧0 < b)
 |.rem,k=>some (.v (.int k (a % b)),0≤a∧0 < b)
 |_,_=>none
theorem Bh{op:BinOp}{k:IntKind}{a b:Int}{u:AV}{S:Prop}(hx:opV σ x=some (.v (.int k a)))(hy:opV σ y=some (.v (.int k b)))(h:Cw op k a b=some (u,S))(hS:S):OpV P ⟨d,.binOp op t x y yt,ty,pos,af,g⟩ σ u:=by
 have w64:∀n:Int,-9223372036854775808≤n∧n≤9223372036854775807→IntKind.i64.wrap n=n:=fun n hn=>by rw[IntKind.wrap_i64];omega
 have wu:∀n:Int,0≤n∧n≤18446744073709551615→IntKind.u64.wrap n=n:=fun n hn=>by rw[IntKind.wrap_u64];omega
 unfold Cw at h
 split at h
 ·cases h;exact Jt hx hy rfl hS
 ·cases h;exact IS hx hy rfl hS
 ·cases h;exact JF hx hy rfl hS
 ·cases h;exact bi hx hy (by simp only[arV];rw[wu _ hS])
 ·cases h;exact bi hx hy (by simp only[arV];rw[wu _ hS])
 ·cases h;exact bi hx hy (by simp only[arV];rw[wu _ hS])
 ·cases h;exact Gb hx hy rfl (.inl rfl) hS
 ·cases h;exact Je hx hy rfl hS
 ·cases h;exact Ge hx hy rfl hS
 ·cases h
def FA(b:Int):Option Int:=if b=1 then some 2 else if b=2 then some 4 else if b=3 then some 8 else if b=4 then some 16 else if b=5 then some 32 else if b=6 then some 64 else if b=7 then some 128 else if b=8 then some 256 else if b=16 then some 65536 else if b=24 then some 16777216 else if b=32 then some 4294967296 else none
theorem Ip{b c:Int}(h:FA b=some c):0≤b∧b≤32∧(2:Int) ^ b.toNat=c∧0 < c:=by
 unfold FA at h
 repeat' split at h
 all_goals first| (cases h;done)| (rename_i hb;cases h;subst hb;decide)
theorem Ti{yk:IntKind}{a b c:Int}(hx:opV σ x=some (.v (.int .i64 a)))(hy:opV σ y=some (.v (.int yk b)))(hc:FA b=some c)(h: -9223372036854775808≤a * c∧a * c≤9223372036854775807):OpV P ⟨d,.binOp .shl t x y yt,ty,pos,af,g⟩ σ (.v (.int .i64 (a * c))):=by
 obtain⟨h0,h1,h2,h3⟩:=Ip hc
 refine EW c hx hy rfl h0 ?_ h
 have hm:min b.toNat IntKind.i64.bits=b.toNat:=by simp[IntKind.bits];omega
 rw[hm];exact h2
theorem JO{k yk:IntKind}{a b c:Int}(hx:opV σ x=some (.v (.int k a)))(hy:opV σ y=some (.v (.int yk b)))(hc:FA b=some c)(hk:k=.i64∨k=.u64):OpV P ⟨d,.binOp .shr t x y yt,ty,pos,af,g⟩ σ (.v (.int k (a / c))):=by
 obtain⟨h0,h1,h2,h3⟩:=Ip hc
 refine D7 c hx hy rfl h0 ?_ h3
 have hm:min b.toNat k.bits=b.toNat:=by rcases hk with rfl|rfl<;> (simp[IntKind.bits];omega)
 rw[hm];exact h2
def Jf(σ:AS)(q:Option Operand)(z:Int):Option Int:=
 match q with
 |none=>some z
 |some q=>match opV σ q with
  |some (.v (.int .i64 i))=>some i
  |_=>none
theorem w5{q:Option Operand}{i z:Int}(h:Jf σ q z=some i):m8 σ q .i64 i z:=by
 unfold Jf at h
 cases q with
 |none=>simp only[Option.some.injEq] at h;exact h.symm
 |some q=>
  simp only at h
  split at h
  ·rename_i j hj;cases h;exact hj
  ·cases h
def Rg(T:Tys P)(σ:AS)(op:Op):Option (AV × Prop):=
 match op with
 |.move x=>match opV σ x with
  |some u=>if u.isSl then none else some (u,True)
  |none=>none
 |.assign x=>match opV σ x with
  |some u=>if u.isSl then none else some (u,True)
  |none=>none
 |.binOp .shl t x y _=>match opV σ x,opV σ y with
  |some (.v (.int .i64 a)),some (.v (.int _ b))=>match FA b with
   |some c=>some (.v (.int .i64 (a * c)),-9223372036854775808≤a * c∧a * c≤9223372036854775807)
   |none=>none
  |_,_=>none
 |.binOp .shr t x y _=>match opV σ x,opV σ y with
  |some (.v (.int .i64 a)),some (.v (.int _ b))=>match FA b with
   |some c=>some (.v (.int .i64 (a / c)),True)
   |none=>none
  |some (.v (.int .u64 a)),some (.v (.int _ b))=>match FA b with
   |some c=>some (.v (.int .u64 (a / c)),True)
   |none=>none
  |_,_=>none
 |.binOp op t x y _=>match opV σ x,opV σ y with
  |some (.v (.int .i64 a)),some (.v (.int .i64 b))=>Cw op .i64 a b
  |some (.v (.int .u64 a)),some (.v (.int .u64 b))=>Cw op .u64 a b
  |some (.v (.string a)),some (.v (.string b))=>match op with
   |.add=>some (.v (.string (mkB (fY a++fY b))),(fY a).length+ (fY b).length≤9223372036854775807)
   |_=>none
  |_,_=>none
 |.unOp .not _ x=>match opV σ x with
  |some (.v (.bool b))=>some (.v (.bool (!b)),True)
  |_=>none
 |.extract x i=>match opV σ x with
  |some (.tu us)=>match us[i]? with
   |some u=>some (u.rd,True)
   |none=>none
  |_=>none
 |.index t x y=>match look T.ty t,opV σ x,opV σ y with
  |some .string,some (.v (.string s)),some (.v (.int k i))=>some (.v (.int .u8 ((fY s).getD i.toNat 0).toNat),0≤i∧i < (fY s).length)
  |_,_,_=>none
 |.slice t x lo hi none=>match look T.ty t,opV σ x with
  |some .string,some (.v (.string s))=>match Jf σ lo 0,Jf σ hi (fY s).length with
   |some i,some j=>some (.v (.string (mkB (((fY s).take j.toNat).drop i.toNat))),0≤i∧i≤j∧j≤(fY s).length)
   |_,_=>none
  |some (.slice e),some (.sl o sz l)=>match look T.sz e with
   |some (sz',by_)=>match Nat.beq sz' sz,Jf σ lo 0,Jf σ hi l.length with
    |true,some i,some j=>some (.sl false sz ((l.take j.toNat).drop i.toNat),0≤i∧i≤j∧j≤l.length)
    |_,_,_=>none
   |none=>none
  |_,_=>none
 |.nilCheck x=>match opV σ x with
  |some (.v (.pointer (some a)))=>some (.v (.pointer (some a)),True)
  |some (.el cs)=>some (.el cs,True)
  |_=>none
 |.makeFunc (.func f) bound caps=>if bound.size=0 then(match uq σ caps.toList with
  |some us=>some (.fn f us,True)
  |none=>none) else none
 |_=>none
theorem fg{o:Oper}{u:AV}{S:Prop}(h:Rg T σ o.op=some (u,S))(hS:S):OpV P o σ u:=by
 obtain⟨d,op,ty,pos,af,g⟩:=o
 simp only at h
 unfold Rg at h
 split at h
 ·split at h
  ·rename_i u0 hu
   split at h
   ·cases h
   ·rename_i hs;cases h;exact yO hu (by simpa using hs)
  ·cases h
 ·split at h
  ·rename_i u0 hu
   split at h
   ·cases h
   ·rename_i hs;cases h;exact FP hu (by simpa using hs)
  ·cases h
 ·split at h
  ·rename_i h1 h2
   split at h
   ·rename_i c hc;cases h;exact Ti h1 h2 hc hS
   ·cases h
  ·cases h
 ·split at h
  ·rename_i h1 h2
   split at h
   ·rename_i c hc;cases h;exact JO h1 h2 hc (.inl rfl)
   ·cases h
  ·rename_i h1 h2
   split at h
   ·rename_i c hc;cases h;exact JO h1 h2 hc (.inr rfl)
   ·cases h
  ·cases h
 ·split at h
  ·rename_i h1 h2;exact Bh h1 h2 h hS
  ·rename_i h1 h2;exact Bh h1 h2 h hS
  ·rename_i h1 h2
   split at h
   ·cases h;exact GK h1 h2 hS
   ·cases h
  ·cases h
 ·split at h
  ·rename_i b hb;cases h;exact rt hb rfl
  ·cases h
 ·split at h
  ·rename_i us hu
   split at h
   ·rename_i u0 hu0;cases h;exact qV hu hu0
   ·cases h
  ·cases h
 ·split at h
  ·rename_i h0 h1 h2;cases h;exact rW (T:=T) h1 h2 h0 hS.1 hS.2
  ·cases h
 ·split at h
  ·rename_i h0 h1
   split at h
   ·rename_i i j hi hj;cases h;exact dR (T:=T) (k1:=.i64) (k2:=.i64) h1 h0 (w5 hi) (w5 hj) hS.1 hS.2.1 hS.2.2
   ·cases h
  ·rename_i h0 h1
   split at h
   ·rename_i sz' by_ hsz
    split at h
    ·rename_i i j hb hi hj
     cases h
     have:=Nat.eq_of_beq_eq_true hb
     subst this
     exact tK (T:=T) (k1:=.i64) (k2:=.i64) h1 h0 hsz (w5 hi) (w5 hj) hS.1 hS.2.1 hS.2.2
    ·cases h
   ·cases h
  ·cases h
 ·split at h
  ·rename_i a ha;cases h;exact Hx ha
  ·rename_i cs hc;cases h;exact po hc
  ·cases h
 ·split at h
  ·rename_i f bound caps hb
   split at h
   ·rename_i us hu
    cases h
    have:bound= #[] :=Array.eq_empty_of_size_eq_zero hb
    subst this
    exact zp hu
   ·cases h
  ·cases h
 ·cases h
end
section
variable {P:Program} {T:Tys P} {σ:AS} {d:Nat} {t t2 u yt ty e:TypeId} {x y z:Operand} {pos:String} {af:Array Edge} {g:Option (Nat × Bool)}
def Cf(sz:Nat)(v:AV):Option (List (List AV) × Prop):=
 match v with
 |.v (.string s)=>if sz=1 then some (jY (fY s),True) else none
 |.v (.slice none 0 0)=>some ([],True)
 |.sl _ sz' m=>match Nat.beq sz' sz with
  |true=>some (m,bE m)
  |false=>none
 |_=>none
theorem rx{sz:Nat}{v:AV}{m:List (List AV)}{S:Prop}(hy:opV σ y=some v)(h:Cf sz v=some (m,S))(hS:S):∀F X (a:Act),SimE F X σ a.tmps→∃c,AddsA P X sz m (a.eval y) c:=by
 unfold Cf at h
 split at h
 ·split at h
  ·rename_i hs;cases h;subst hs;exact NP hy
  ·cases h
 ·cases h;exact LK hy
 ·split at h
  ·rename_i hb
   cases h
   have:=Nat.eq_of_beq_eq_true hb
   subst this
   exact QC hy hS
  ·cases h
 ·cases h
theorem a7{s:Nat}{r:Root}{sz by_:Nat}{L m:List (List AV)}{du:TypeDesc}{v:AV}{S:Prop}(hr:kI σ s=some r)(ho:σ.own r=some (sz,L))(ht:look T.ty t=some (.slice e))(hu:look T.ty u=some du)(hnz:(match du with|.string=>true|.slice _=>true|_=>false)=true)(hz:look T.sz e=some (sz,by_))(hb:Nat.ble 1 by_=true)
  (hy:opV σ y=some v) (hm:Cf sz v=some (m,S)) (hd:Nat.ble (d+1) σ.n=true) (hS:S) (hfit:(L.length+m.length) * by_≤140737488355328):
  xN P ⟨some d,.call { callee:=.builtin .append,args:= #[.tmp s,y],argTypes:= #[t,u] },ty,pos,af,g⟩ σ ((σ.lay r).dropC.put d (.sl true sz (L++m))):=fun R hR=>
 xB (T:=T) hr ho ht hu (by cases du<;> first|exact .inl rfl|exact .inr ⟨_,rfl⟩|cases hnz) hz hb (rx hy hm hS) hfit hd hR
theorem cU{sz by_:Nat}{m:List (List AV)}{du:TypeDesc}{v:AV}{S:Prop}(hx:opV σ x=some (.v (.slice none 0 0)))(ht:look T.ty t=some (.slice e))(hu:look T.ty u=some du)(hnz:(match du with|.string=>true|.slice _=>true|_=>false)=true)(hz:look T.sz e=some (sz,by_))(hb:Nat.ble 1 by_=true)
  (hy:opV σ y=some v) (hm:Cf sz v=some (m,S)) (hd:Nat.ble (d+1) σ.n=true) (hS:S) (hfit:m.length * by_≤140737488355328):
  xN P ⟨some d,.call { callee:=.builtin .append,args:= #[x,y],argTypes:= #[t,u] },ty,pos,af,g⟩ σ (σ.dropC.put d (.sl true sz m)):=fun R hR=>
 yC (T:=T) hx ht hu (by cases du<;> first|exact .inl rfl|exact .inr ⟨_,rfl⟩|cases hnz) hz hb (rx hy hm hS) hfit hd hR
theorem eY{k o n by_:Nat}{cs:List AV}{u0:AV}(hx:opV σ x=some (.v (.pointer (some ⟨k,o,none⟩))))(hb:look σ.h k=some cs)(hy:opV σ y=some u0)(hok:u0.okc=true)(hz:look T.sz t=some (n,by_))(hn:Nat.beq u0.rd.cells.length n=true)(h1:u0.rd.cells.all AV.one=true)(hp:(u0.rd.cells.all fun u=>(cw (some u)).isNone)=true)(hl:Nat.ble (o+n) cs.length=true)(hm:fx cs=false):
  xN P ⟨none,.store t x y,ty,pos,af,g⟩ σ (σ.setc k (b7 cs o u0.rd.cells)):=fun R hR=>I9 (T:=T) hx hb hy hok hz hn h1 (fun u hu=>by have:=List.all_eq_true.1 hp u hu;simpa using this) hl hR hm
end
attribute [go_sem] AS.keep AS.save A3 AS.put AS.mv AS.free AS.hand AS.alias AS.lay AS.dropC AS.box AS.setc b7 kI kB AS.own cw ab av AV.rd cst List.filter_cons List.filter_nil List.filterMap_cons List.filterMap_nil Root.in Root.keepB List.contains_cons List.contains_nil List.elem_eq_contains Nat.beq_eq_true_eq Bool.and_true Bool.true_and Bool.false_and Bool.and_false Bool.or_true Bool.or_false Bool.true_or Bool.false_or Bool.not_true Bool.not_false Bool.false_eq_true if_true if_false ite_true ite_false beq_self_eq_true dT dn List.nil_append List.cons_append List.map_cons List.map_nil AV.cells List.take_succ_cons List.take_zero List.drop_succ_cons List.drop_zero List.length_cons List.length_nil Nat.zero_add List.take_nil List.drop_nil List.append_nil List.getElem?_cons_zero List.getElem?_cons_succ List.set_cons_zero List.set_cons_succ Value.cells jB IH N8 Lv Int.toNat_natCast Int.toNat_zero List.take_length List.drop_length List.take_take Nat.min_self decide_true decide_false List.length_append gB List.getElem_toArray List.getElem_cons_zero List.getElem_cons_succ Nat.add_zero List.getD_cons_zero AppIn.r
def iW(P:Program)(R:Value→World→Prop)(RP:Value→World→Prop):Result Next→Prop
 |.ok (.value x) w=>R x w
 |.ok .skip w=>R undef w
 |.ok (.enter f args) w=>Calls P f args w fun e w'=>match e with
  |.returned v=>R v w'
  |.panicked ch=>∃v,ch=[{ v:=v,recovered:=false }] ∧RP v w'
  |.outgrown=>False
 |.halt (.panic v) w=>RP v w
 |_=>False
section
variable {P:Program} {Q:Exit→AS→Prop} {ks:List It} {T:Tys P} {σ σ':AS} {t ty e:TypeId} {x y:Operand} {pos:String} {af:Array Edge} {g:Option (Nat × Bool)} {d k:Nat} {l rest:List Oper} {o:Oper} {post:AOut→List (Nat × List AV)→Prop} {us:List AV} {ρs:List (Option Root)} {xs:Array Operand} {ats:Array TypeId} {f:FuncId} {F:Nat→Prop} {X:GW}
def Ja(P:Program)(Q:Exit→AS→Prop)(ks:List It)(x:Value)(σ:AS):Prop:=
 ∃t2 H2,(∀s u,look t2 s=some u→look σ.t s=some u)∧(∀k cs,look H2 k=some cs→look σ.h k=some cs)∧Stk P Q ks (.panic [{ v:=x,recovered:=false }]) ⟨σ.n,t2,H2,[]⟩
theorem BS(ho:l[k]? =some o)(hw:bp l σ o=some true)
  (h:∀F X (a:Act),SimE F X σ a.tmps→iW P (fun x w'=>∃ (X':GW) (σ':AS),X'.w=w'∧aY P Q (.o l (k+1) rest::ks) σ'∧SimE F X' σ' (a.put o.dst x).tmps∧Ext F X X')
   (fun v w'=>∃ (X':GW) (σ':AS),X'.w=w'∧Ja P Q ks v σ'∧SimE F X' σ' a.tmps∧Ext F X X') ((execOp a.eval o).run P X.w)):aY P Q (.o l k (o::rest)::ks) σ:=by
 intro F X a hs D hd
 have hk:k < l.length:=(List.getElem?_eq_some_iff.1 ho).1
 rw[lQ hk]
 have ho':(l.toArray)[k]? =some o:=by simpa using ho
 simp only[wpOps,ho']
 rw[if_pos (lF hs hw)]
 left
 have h1:=h F X a hs
 have fin:∀x w',(∃ (X':GW) (σ':AS),X'.w=w'∧aY P Q (.o l (k+1) rest::ks) σ'∧SimE F X' σ' (a.put o.dst x).tmps∧Ext F X X')→wpOps P l.toArray (da F X D (Stk P Q ks)) (List.range' (k+1) (l.length - (k+1))) (a.put o.dst x) w':=by
  rintro x w' ⟨X',σ',rfl,h2,h3,h4⟩
  exact iV (fun _ _ _ hp=>hp.ext h4) _ _ _ (h2 F X' (a.put o.dst x) h3 D (by rw[eM];exact hd))
 have pan:∀v w',(∃ (X':GW) (σ':AS),X'.w=w'∧Ja P Q ks v σ'∧SimE F X' σ' a.tmps∧Ext F X X')→da F X D (Stk P Q ks) (.panic [{ v:=v,recovered:=false }]) a w':=by
  rintro v w' ⟨X',σ',rfl,⟨t2,H2,ht,h2,h3⟩,h4,h5⟩
  exact⟨hd,X',_,rfl,h3,h4.sub rfl ht h2 (fun p hp=>by cases hp),h5⟩
 unfold Oper.wp
 generalize (execOp a.eval o).run P X.w=r at h1 ⊢
 cases r with
 |halt z w=>
  cases z<;> simp only[iW] at h1
  exact pan _ _ h1
 |ok nx w=>
  cases nx<;> simp only[iW] at h1<;> simp only[Oper.upon]
  case value x=>exact fin _ _ h1
  case skip=>exact fin _ _ h1
  case enter f args=>
   refine h1.mono fun e w' he=> ?_
   cases e with
   |returned v=>exact fin _ _ he
   |panicked ch=>obtain⟨v,rfl,he⟩:=he;exact pan _ _ he
   |outgrown=>exact he.elim
def ra(P:Program)(Q:Exit→AS→Prop)(ks:List It)(l:List Oper)(k:Nat)(rest:List Oper)(d:Nat)(σ:AS):AOut→Prop
 |.ret u=>aY P Q (.o l (k+1) rest::ks) (AS.nf (σ.put d u))
 |.pan x=>Ja P Q ks x σ
theorem C7{u:AV}(h:aY P Q (.o l (k+1) rest::ks) (AS.nf (σ.put d u))):ra P Q ks l k rest d σ (.ret u):=h
theorem I3{Hp Hr:List (Nat × List AV)}{fop:Op}(hop:fop=.call { callee:=.value (.func f),args:=xs,argTypes:=ats })(hc:ai P f us Hp post)(ho:l[k]? =some ⟨some d,fop,ty,pos,af,g⟩)(hw:bp l σ ⟨some d,fop,ty,pos,af,g⟩=some true)(ha:PArgs σ xs.toList us ρs)(h1:mz ρs=true)(hroot:∀k o,some (Root.c k o)∈ρs→look Hp k=none)(hHp:∀k cs,look Hp k=some cs→look σ.h k=some cs)(hHr:∀k cs,look Hr k=some cs→look (dn ρs σ).h k=some cs∧look Hp k=none)(hd:Nat.ble (d+1) σ.n=true)
  (hR:∀out H',post out H'→(∀k cs,look H' k=some cs→look Hr k=none)→ra P Q ks l k rest d (dT σ ρs Hr H') out):aY P Q (.o l k (⟨some d,fop,ty,pos,af,g⟩::rest)::ks) σ:=by
 subst hop
 refine BS ho hw fun F X a hs=> ?_
 have hlen:=ha.len
 rw[Conc.execOp_call_func rfl,lh hc.1]
 simp only[iW]
 refine(pq (vs:=xs.map a.eval) hs hc (by simp[hlen.1]) (fun i u hu=> ?_) (fun i j r hi hj=>ij h1 i j r r hi hj) hroot hHp hHr (ba hd)).mono fun e w' ⟨X',out,H',p1,p2,p3,p4,p5,p6⟩=> ?_
 ·obtain⟨x,ρ,hx,hρ,hp⟩:=ha.get i u hu
  have hx':xs[i]? =some x:=by simpa using hx
  have:(xs.map a.eval).getD i undef=a.eval x:=by simp[hx']
  rw[this];exact⟨ρ,hρ,hp.val hs⟩
 ·have hr:=hR out H' p2 p6
  cases out with
  |ret u=>obtain⟨v,rfl,hv⟩:=p5;exact⟨X',_,p1,hr,hv,p3⟩
  |pan x=>subst p5;exact⟨x,rfl,X',_,p1,hr,p4,p3⟩
theorem xx{caps:List AV}{s:Nat}{Hp Hr:List (Nat × List AV)}{fop:Op}(hop:fop=.call { callee:=.value (.tmp s),args:=xs,argTypes:=ats })(hfn:look σ.t s=some (.fn f caps))(hc:ai P f (us++caps) Hp post)(ho:l[k]? =some ⟨some d,fop,ty,pos,af,g⟩)(hw:bp l σ ⟨some d,fop,ty,pos,af,g⟩=some true)(ha:PArgs σ xs.toList us ρs)(hcap:caps.all (fun u=>(cw (some u)).isNone)=true)(h1:mz ρs=true)(h2:oP ρs=true)(hHp:∀k cs,look Hp k=some cs→look σ.h k=some cs)(hHr:∀k cs,look Hr k=some cs→look σ.h k=some cs∧look Hp k=none)(hd:Nat.ble (d+1) σ.n=true)
  (hR:∀out H',post out H'→(∀k cs,look H' k=some cs→look Hr k=none)→ra P Q ks l k rest d (dT σ ρs Hr H') out):aY P Q (.o l k (⟨some d,fop,ty,pos,af,g⟩::rest)::ks) σ:=by
 subst hop
 refine BS ho hw fun F X a hs=> ?_
 have hlen:=ha.len
 have hf0:=hs.slot s _ hfn
 have hev:a.eval (.tmp s)=a.tmps.getD s undef:=rfl
 generalize a.tmps.getD s undef=fv at hf0 hev
 cases hf0 with
 |fn _ _ ys hl hr=>
  have hexec:(execOp a.eval ⟨some d,.call { callee:=.value (.tmp s),args:=xs,argTypes:=ats },ty,pos,af,g⟩).run P X.w=.ok (.enter f (xs.map a.eval++ys)) X.w:=by
   simp[execOp,resolve,Deferred.ofValue,invoke,hev]
   exact lh hc.1
  rw[hexec]
  simp only[iW]
  have hlay:∀ (L:List (Option Root)) (σ:AS) (m:Nat),dn (L++List.replicate m none) σ=dn L σ:=by
   intro L
   induction L with
   |nil=>intro σ m;induction m with
    |zero=>rfl
    |succ m ih=>simpa[List.replicate_succ,dn] using ih
   |cons ρ L ih=>intro σ m;cases ρ<;> simp only[List.cons_append,dn] <;> exact ih _ _
  have hst:dT σ (ρs++List.replicate caps.length none) Hr=dT σ ρs Hr:=by funext H';simp only[dT,hlay]
  have hin:∀ (i:Nat) r,(ρs++List.replicate caps.length none)[i]? =some (some r)→ρs[i]? =some (some r):=by
   intro i r h
   by_cases hi:i < ρs.length
   ·rwa [List.getElem?_append_left hi] at h
   ·rw[List.getElem?_append_right (by omega)] at h
    have:=List.mem_of_getElem? h
    simp at this
  have hcc:=pq (vs:=xs.map a.eval++ys) (ρs:=ρs++List.replicate caps.length none) (Hr:=Hr) hs hc (by simp[hlen.1,hl]) (fun i u hu=> ?_) (fun i j r h3 h4=>ij h1 i j r r (hin i r h3) (hin j r h4)) (fun k o h=>absurd (by
   rcases List.mem_append.1 h with h|h
   ·exact h
   ·simp at h) (ne h2 k o)) hHp (fun k cs hk=>by rw[hlay,nb h2];exact hHr k cs hk) (ba hd)
  ·rw[hst] at hcc
   refine hcc.mono fun e w' ⟨X',out,H',p1,p2,p3,p4,p5,p6⟩=> ?_
   have hr:=hR out H' p2 p6
   cases out with
   |ret u=>obtain⟨v,rfl,hv⟩:=p5;exact⟨X',_,p1,hr,hv,p3⟩
   |pan x=>subst p5;exact⟨x,rfl,X',_,p1,hr,p4,p3⟩
  ·by_cases hi:i < us.length
   ·rw[List.getElem?_append_left hi] at hu
    obtain⟨x,ρ,hx,hρ,hp⟩:=ha.get i u hu
    have hx':xs[i]? =some x:=by simpa using hx
    have hil:i < xs.size:=(Array.getElem?_eq_some_iff.1 hx').1
    refine⟨ρ,by rw[List.getElem?_append_left (by omega)];exact hρ,?_⟩
    have:(xs.map a.eval++ys).getD i undef=a.eval x:=by
     rw[Array.getD_eq_getD_getElem?,Array.getElem?_append_left (by simpa using hil)]
     simp[hx']
    rw[this];exact hp.val hs
   ·rw[List.getElem?_append_right (by omega)] at hu
    have hic:=(List.getElem?_eq_some_iff.1 hu).1
    have hxl:xs.toList.length=xs.size:=by simp
    refine⟨none,?_,.rd ?_ ?_⟩
    ·rw[List.getElem?_append_right (by omega)]
     simp only[List.getElem?_replicate]
     rw[if_pos (by omega)]
    ·have hys:ys[i - us.length]? =some (ys[i - us.length]'(by omega)):=Array.getElem?_eq_getElem (by omega)
     have:(xs.map a.eval++ys).getD i undef=ys[i - us.length]'(by omega):=by
      rw[Array.getD_eq_getD_getElem?,Array.getElem?_append_right (by simp;omega)]
      have:i - (xs.map a.eval).size=i - us.length:=by simp;omega
      rw[this,hys];rfl
     rw[this]
     exact hr _ _ _ hu hys
    ·simpa using List.all_eq_true.1 hcap u (List.mem_of_getElem? hu)
def E2:List AV→Option (List Value)
 | [] =>some []
 |.v x::r=>match E2 r with
  |some xs=>some (x::xs)
  |none=>none
 |_=>none
def Oe:AV→Option Value
 |.ifc t (.v x)=>some (.iface t x)
 |.ifc t (.ag us)=>match E2 us with
  |some xs=>some (.iface t (.agg xs.toArray))
  |none=>none
 |_=>none
theorem An{X:GW}:∀ (us:List AV) (xs ys:List Value),E2 us=some xs→us.length=ys.length→(∀ (i:Nat) u x,us[i]? =some u→ys[i]? =some x→Rel X u x)→ys=xs
 | [],xs,ys,h,hl,_=>by
   simp only[E2,Option.some.injEq] at h;subst h
   exact List.length_eq_zero_iff.1 hl.symm
 |u::us,xs,[],h,hl,_=>by simp at hl
 |u::us,xs,y::ys,h,hl,hr=>by
  cases u with
  |v x=>
   simp only[E2] at h
   split at h
   ·rename_i zs hz
    cases h
    have h1:=bF (hr 0 (.v x) y rfl rfl)
    have h2:=An us zs ys hz (by simpa using hl) (fun i u x hu hx=>hr (i+1) u x (by simpa using hu) (by simpa using hx))
    rw[h1,h2]
   ·cases h
  |_=>cases h
theorem KF{u:AV}{v z:Value}(h:Oe u=some v)(hr:Rel X u z):z=v∧∃t y,v=.iface t y:=by
 unfold Oe at h
 split at h
 ·cases h
  cases hr with
  |ifc t _ y hy=>exact⟨by rw[bF hy],_,_,rfl⟩
 ·rename_i t us
  split at h
  ·rename_i xs hxs
   cases h
   cases hr with
   |ifc _ _ y hy=>
    cases hy with
    |ag _ arr hl hr2=>
     have:=An us xs arr.toList hxs (by simpa using hl) (fun i u x hu hx=>hr2 i u x hu (by simpa using hx))
     exact⟨by rw[← this],_,_,rfl⟩
  ·cases h
 ·cases h
theorem Nv{u:AV}{v:Value}(ho:l[k]? =some ⟨none,.panic x,ty,pos,af,g⟩)(hw:bp l σ ⟨none,.panic x,ty,pos,af,g⟩=some true)(hx:opV σ x=some u)(hv:Oe u=some v)(h:Ja P Q ks v σ):aY P Q (.o l k (⟨none,.panic x,ty,pos,af,g⟩::rest)::ks) σ:=by
 refine BS ho hw fun F X a hs=> ?_
 obtain⟨h1,t,y,h2⟩:=KF hv (bt hs hx)
 have hrun:(execOp a.eval ⟨none,.panic x,ty,pos,af,g⟩).run P X.w=.halt (.panic v) X.w:=by
  simp only[execOp,h1,h2]
  rfl
 rw[hrun]
 exact⟨X,_,rfl,h,hs,Ext.refl F X⟩
theorem pO{dd:Option Tmp}{xt t':TypeId}{u:AV}{dsc:TypeDesc}(hx:opV σ x=some (.ifc t' u))(ht:look T.ty t=some dsc)(hi:(match dsc with|.interface _=>false|_=>true)=true)(he:Nat.beq t' t=true):OpV P ⟨dd,.typeAssert x xt t true,ty,pos,af,g⟩ σ (.tu [u.rd,.v (.bool true)]):=by
 refine aG (tX _) fun F X a hs=> ?_
 have h1:=co hs (by simp[Op.operands]) hx
 have hu:=T.tyOk t dsc ht
 have he':=Nat.eq_of_beq_eq_true he
 subst he'
 simp only[execOp]
 generalize a.eval x=z at h1
 cases h1 with
 |ifc _ _ y hy=>
  refine⟨.tuple #[y,.bool true],aW ?_,.tu _ _ rfl (fun i u v hu hv=> ?_)⟩
  ·cases dsc<;> simp[Instr.typeAssert,run_underlying hu] at hi ⊢
  ·match i with
   |0=>simp at hu hv;subst hu hv;exact hy.rd
   |1=>simp at hu hv;subst hu hv;exact .v _
   |i+2=>simp at hu
theorem pS{dd:Option Tmp}{xt:TypeId}{dsc:TypeDesc}{zv:Value}(hx:opV σ x=some (.v .nilIface))(ht:look T.ty t=some dsc)(hi:(match dsc with|.interface _=>false|_=>true)=true)(hz:look T.zr t=some zv):OpV P ⟨dd,.typeAssert x xt t true,ty,pos,af,g⟩ σ (.tu [cst zv,.v (.bool false)]):=by
 refine aG (tX _) fun F X a hs=> ?_
 have h1:=aL hs (by simp[Op.operands]) hx
 have hu:=T.tyOk t dsc ht
 obtain⟨i,hi1,hi2⟩:=T.zrOk _ _ hz
 simp only[execOp,h1]
 refine⟨.tuple #[zv,.bool false],aW ?_,.tu _ _ rfl (fun i u v hu hv=> ?_)⟩
 ·cases dsc<;> simp[Instr.typeAssert,run_underlying hu,zeroValue,typeInfo,hi1,hi2] at hi ⊢
 ·match i with
  |0=>simp at hu hv;subst hu hv;exact nH X _
  |1=>simp at hu hv;subst hu hv;exact .v _
  |i+2=>simp at hu
theorem Pq{cs:List AV}{v:Value}(h:Rel X (.ag cs) v):Rel X (.ag (cs.map AV.rd)) v:=by
 cases h with
 |ag _ xs hl hr=>
  refine .ag _ xs (by simpa using hl) fun i u x hu hx=> ?_
  simp only[List.getElem?_map,Option.map_eq_some_iff] at hu
  obtain⟨u0,h0,rfl⟩:=hu
  exact(hr i u0 x h0 hx).rd
theorem sd{dd:Option Tmp}{fs:Array Field}{n by_ k o:Nat}{cs:List AV}(hx:opV σ x=some (.v (.pointer (some ⟨k,o,none⟩))))(hb:look σ.h k=some cs)(h0:look T.ty t=some (.struct fs))(hz:look T.sz t=some (n,by_))(hl:Nat.ble (o+n) cs.length=true)(hm:fx cs=false):
  OpV P ⟨dd,.load t x,ty,pos,af,g⟩ σ (.ag (((cs.drop o).take n).map AV.rd)):=by
 intro F X a hs
 refine(zF (T:=T) (P:=P) (d:=dd) (ty:=ty) (pos:=pos) (af:=af) (g:=g) hx hb h0 hz hl hm F X a hs).mono fun x w' ⟨X',h1,h2,h3,h4,h5⟩=>⟨X',h1,h2,h3,Pq h4,FreshOk.plain rfl⟩
end
def mU{P:Program}(T:Tys P)(t:List (Nat × AV))(H:List (Nat × List AV)):ResultVar→Option AV
 |.tmp s=>match look t s with
  |some u=>some u.rd
  |none=>none
 |.cell s ty=>match look t s with
  |some (.v (.pointer (some ⟨k,0,none⟩)))=>match look H k,look T.ty ty with
   |some cs,some (.struct _)=>match look T.sz ty with
    |some (n,_)=>if Nat.beq n cs.length && !fx cs then some (.ag (cs.map AV.rd)) else none
    |none=>none
   |some [c],some d=>if lf d && !c.isMp then some c.rd else none
   |_,_=>none
  |_=>none
def Ar{P:Program}(T:Tys P)(t:List (Nat × AV))(H:List (Nat × List AV)):List ResultVar→Option AV
 | [] =>some (.tu [])
 | [r] =>mU T t H r
 | [r,r'] =>match mU T t H r,mU T t H r' with
   |some u,some u'=>some (.tu [u,u'])
   |_,_=>none
 | [r,r',r''] =>match mU T t H r,mU T t H r',mU T t H r'' with
   |some u,some u',some u''=>some (.tu [u,u',u''])
   |_,_,_=>none
 |_=>none
def CK(tm:Array Value):ResultVar→Sem Value
 |.tmp t=>pure (tm.getD t undef)
 |.cell a t=>do loadVar t (← asAddr (tm.getD a undef))
section
variable {P:Program} {Q:Exit→AS→Prop} {ks:List It} {T:Tys P} {σ σ':AS} {post:AOut→List (Nat × List AV)→Prop} {us:List AV} {f:FuncId} {F:Nat→Prop} {X:GW}
theorem pd{t:List (Nat × AV)}{H:List (Nat × List AV)}{tm:Array Value}{r:ResultVar}{u:AV}(hslot:∀s u,look t s=some u→Rel X u (tm.getD s undef))(hbox:∀k cs,look H k=some cs→eI F X k cs)(h:mU T t H r=some u):u.plain∧∃v,(CK tm r).run P X.w=.ok v X.w∧Rel X u v:=by
 cases r with
 |tmp s=>
  simp only[mU] at h
  split at h
  ·rename_i u0 hu
   cases h
   exact⟨ef u0,tm.getD s undef,rfl,(hslot s u0 hu).rd⟩
  ·cases h
 |cell s ty=>
  simp only[mU] at h
  split at h
  ·rename_i k hk
   have hp:=bF (hslot s _ hk)
   have hass:∀w,(asAddr (tm.getD s undef)).run P w=.ok ⟨k,0,none⟩ w:=fun w=>by rw[hp];rfl
   have hgo:∀ (v:Value),(loadVar ty ⟨k,0,none⟩).run P X.w=.ok v X.w→(CK tm (.cell s ty)).run P X.w=.ok v X.w:=fun v hv=>by
    have h1:=hass X.w
    show(asAddr (tm.getD s undef) >>=fun a=>loadVar ty a).run P X.w=_
    generalize asAddr (tm.getD s undef)=q at h1
    simp[h1,hv]
   split at h
   ·rename_i cs fs hcs hty
    split at h
    ·rename_i n by_ hsz
     split at h
     ·rename_i hc
      cases h
      simp only[Bool.and_eq_true,Bool.not_eq_true'] at hc
      have hn:=Nat.eq_of_beq_eq_true hc.1
      have hu:=T.tyOk _ _ hty
      obtain⟨inf,hi1,hi2,hi3⟩:=T.szOk _ _ _ hsz
      obtain⟨b1,b2,arr,e,fr,b3,b4,b5,b6⟩:=(hbox k cs hcs).cells hc.2
      have hld:=run_loadCells (P:=P) (w:=X.w) ⟨k,0,none⟩ n (fun j=>arr.getD (0+j) undef) (fun j hj=>by
       rw[en]
       have:0+j < arr.size:=by omega
       simp only[Nat.zero_add] at this
       simp[World.cell?,b3,this])
      refine⟨rfl,.agg ((List.range n).map fun j=>arr.getD (0+j) undef).toArray,hgo _ (by simp[loadVar,isAgg,run_underlying hu,sizeOf,typeInfo,hi1,hi2,hld]),.ag _ _ (by simp;omega) (fun j u v hj hv=> ?_)⟩
      simp only[List.getElem?_map,Option.map_eq_some_iff] at hj
      obtain⟨u0,h0,rfl⟩:=hj
      have hjl:=(List.getElem?_eq_some_iff.1 h0).1
      have hjn:j < n:=by omega
      have hja:j < arr.size:=by omega
      simp[hjn,hja] at hv
      subst hv
      exact(b6 j u0 _ h0 (by simp[hja])).rd
     ·cases h
    ·cases h
   ·rename_i c d hno hcs hty
    split at h
    ·rename_i hc
     cases h
     simp only[Bool.and_eq_true,Bool.not_eq_true'] at hc
     have hu:=T.tyOk _ _ hty
     obtain⟨b1,b2,arr,e,fr,b3,b4,b5,b6⟩:=(hbox k [c] hcs).at (o:=0) rfl hc.2
     have hlt:0 < arr.size:=by rw[b4];simp
     have hx:arr[0]? =some arr[0] :=Array.getElem?_eq_getElem hlt
     have hcell:X.w.cell? ⟨k,0,none⟩=some arr[0] :=by simp only[World.cell?,b3];exact hx
     refine⟨ef c,arr[0],hgo _ ?_,(b6 0 c _ rfl hx).rd⟩
     have h1:=hc.1
     cases d<;> simp[lf] at h1<;> simp[loadVar,isAgg,run_underlying hu,hcell]
    ·cases h
   ·cases h
  ·cases h
theorem Fc{fn:Func}{tm:Array Value}{w:World}{vs:List Value}(h:fn.results.toList.length=vs.length)(hr:∀ (i:Nat) r v,fn.results.toList[i]? =some r→vs[i]? =some v→(CK tm r).run P w=.ok v w)(hl:vs.length≤3):(results fn tm).run P w=.ok (if vs.length=1 then vs.getD 0 undef else .tuple vs.toArray) w:=by
 have hres:fn.results=fn.results.toList.toArray:=by simp
 have hmap:(results fn tm)=(do let vs ← fn.results.mapM (CK tm);pure (if h:vs.size=1 then vs[0] else .tuple vs)):=by
  unfold results
  congr 2
  all_goals (funext r;cases r<;> rfl)
 rw[hmap]
 generalize fn.results.toList=rs at h hr hres
 rw[hres]
 clear hmap hres
 match rs,vs,h,hr,hl with
 | [],[],_,_,_=>simp
 | [r],[v],_,hr,_=>simp[hr 0 r v rfl rfl]
 | [r,r'],[v,v'],_,hr,_=>simp[hr 0 r v rfl rfl,hr 1 r' v' rfl rfl]
 | [r,r',r''],[v,v',v''],_,hr,_=>simp[hr 0 r v rfl rfl,hr 1 r' v' rfl rfl,hr 2 r'' v'' rfl rfl]
 |_::_::_::_::_,_::_::_::_::_,_,_,hl=>simp at hl
theorem LC{t:List (Nat × AV)}{H:List (Nat × List AV)}{tm:Array Value}{fn:Func}{u:AV}(hslot:∀s u,look t s=some u→Rel X u (tm.getD s undef))(hbox:∀k cs,look H k=some cs→eI F X k cs)(h:Ar T t H fn.results.toList=some u):u.plain∧∃v,(results fn tm).run P X.w=.ok v X.w∧Rel X u v:=by
 have h0:=h
 unfold Ar at h
 have go:=fun(vs:List Value)=>Fc (P:=P) (fn:=fn) (tm:=tm) (w:=X.w) (vs:=vs)
 split at h
 ·rename_i heq
  cases h
  exact⟨rfl,_,go [] (by rw[heq];rfl) (fun i r v hr=>by rw[heq] at hr;simp at hr) (by simp),.tu [] #[] rfl (fun i u v hu=>by simp at hu)⟩
 ·rename_i r heq
  obtain⟨h1,v,h2,h3⟩:=pd hslot hbox h
  exact⟨h1,v,by
   have:=go [v] (by rw[heq];rfl) (fun i r v' hr hv=>by
    rw[heq] at hr
    match i with
    |0=>simp at hr hv;subst hr hv;exact h2
    |i+1=>simp at hr) (by simp)
   simpa using this,h3⟩
 ·rename_i r r' heq
  split at h
  ·rename_i u1 u2 e1 e2
   cases h
   obtain⟨_,v1,a1,a2⟩:=pd hslot hbox e1
   obtain⟨_,v2,b1,b2⟩:=pd hslot hbox e2
   refine⟨rfl,.tuple #[v1,v2],by
    have:=go [v1,v2] (by rw[heq];rfl) (fun i r v' hr hv=>by
     rw[heq] at hr
     match i with
     |0=>simp at hr hv;subst hr hv;exact a1
     |1=>simp at hr hv;subst hr hv;exact b1
     |i+2=>simp at hr) (by simp)
    simpa using this,.tu _ _ rfl (fun i u v hu hv=> ?_)⟩
   match i with
   |0=>simp at hu hv;subst hu hv;exact a2
   |1=>simp at hu hv;subst hu hv;exact b2
   |i+2=>simp at hu
  ·cases h
 ·rename_i r r' r'' heq
  split at h
  ·rename_i u1 u2 u3 e1 e2 e3
   cases h
   obtain⟨_,v1,a1,a2⟩:=pd hslot hbox e1
   obtain⟨_,v2,b1,b2⟩:=pd hslot hbox e2
   obtain⟨_,v3,c1,c2⟩:=pd hslot hbox e3
   refine⟨rfl,.tuple #[v1,v2,v3],by
    have:=go [v1,v2,v3] (by rw[heq];rfl) (fun i r v' hr hv=>by
     rw[heq] at hr
     match i with
     |0=>simp at hr hv;subst hr hv;exact a1
     |1=>simp at hr hv;subst hr hv;exact b1
     |2=>simp at hr hv;subst hr hv;exact c1
     |i+3=>simp at hr) (by simp)
    simpa using this,.tu _ _ rfl (fun i u v hu hv=> ?_)⟩
   match i with
   |0=>simp at hu hv;subst hu hv;exact a2
   |1=>simp at hu hv;subst hu hv;exact b2
   |2=>simp at hu hv;subst hu hv;exact c2
   |i+3=>simp at hu
  ·cases h
 ·cases h
def TX(T:Tys P)(rs:List ResultVar)(post:AOut→List (Nat × List AV)→Prop):Exit→AS→Prop
 |.ret,σ|.normal,σ=>∃u H2,Ar T σ.t σ.h rs=some u∧(∀k cs,look H2 k=some cs→look σ.h k=some cs)∧post (.ret u) H2
 |.panic [⟨v,false,false⟩],σ=>post (.pan v) σ.h
 |_,_=>False
theorem SimE.panEnd{tm:Array Value}(p4:SimE F X σ tm):SimE F X ⟨1,[],σ.h,[]⟩ #[undef] :=by
 refine p4.other rfl p4.fb (fun t u hu=>by simp[av] at hu) (fun k cs hk=>⟨hk,(p4.box k cs hk).nF⟩) rfl id (fun r sz l ho=>.inr ?_) (fun _ _ _ _ _ _ _ _ hne _ _ _ _=>hne)
 cases r with
 |s t=>simp only[AS.own,av,cw] at ho;cases ho
 |c k o=>
  refine⟨ho,rfl,fun a n c hr=> ?_⟩
  exact(p4.own_nF (r:=.c k o) ho hr).1
theorem SimE.retEnd{tm:Array Value}{H2:List (Nat × List AV)}{u:AV}{v:Value}(p4:SimE F X σ tm)(hs:∀k cs,look H2 k=some cs→look σ.h k=some cs)(hr:Rel X u v)(hp:u.plain):SimE F X ⟨1,[(0,u)],H2,[]⟩ #[v] :=
 (p4.result hr (fun sz l ho=>by rw[hp] at ho;cases ho)).sub rfl (fun _ _ h=>h) hs (fun _ h=>h)
theorem rI{ops:Array Oper}{R:Exit→Act→List Frame→World→Prop}{cs:List Frame}(hno:∀a w,¬R .outgrown a cs w):∀ (l:List Nat) (a:Act) (w:World),wpOps P ops (fun e a w=>R e a cs w) l a w→wpOpsS P ops R l a cs w
 | [],a,w,h=>h
 |i::rest,a,w,h=>by
  simp only[wpOps,wpOpsS] at h ⊢
  cases ho:ops[i]? with
  |none=>rw[ho] at h;exact rI hno rest a w h
  |some o=>
   rw[ho] at h
   simp only at h ⊢
   split
   ·rename_i hw
    rw[if_pos hw] at h
    rcases h with h| ⟨_,a0,w0,h0⟩
    ·unfold Oper.wp at h
     generalize (execOp a.eval o).run P w=r at h ⊢
     split
     ·exact h.elim
     ·exact vB (fun a w h=>rI hno rest a w h) (fun _ _ _ h=>h) h
    ·exact absurd h0 (hno a0 w0)
   ·rename_i hw
    rw[if_neg hw] at h
    exact rI hno rest _ w h
theorem yF{fn:Func}{id:Nat}{l:List Oper}{rest:Code}{d:Nat}{ty:TypeId}{pos:String}{af:Array Edge}{H:List (Nat × List AV)}{rv:Value}{ru:AV}{u u1:FrameMode}
  (hf:P.funcs[f]? =some fn) (hb:fn.body=some (.seq (.region id l.toArray false) rest)) (hus:Nat.ble us.length fn.ntmps=true) (hl:l[0]? =some ⟨some d,.call { callee:=.builtin .recover,args:= #[],argTypes:= #[] },ty,pos,af,none⟩)
  (hru:∀X,Rel X ru rv) (hpl:ru.plain) (hd:Nat.ble (d+1) fn.ntmps=true)
  (hu:∀ (c:Frame) (cs:List Frame),c.mode=u→recoverD (c::cs)=some (rv,{ c with mode:=u1 }::cs)∨(recoverD (c::cs)=none∧rv=.nilIface∧u1=u))
  (hA:aY P (Dx fn.results.toList post) [.o l 1 (l.drop 1),.c rest] ((⟨fn.ntmps,slotsOf 0 us,H,[]⟩:AS).put d ru)):
  ∀F X (vs:Array Value),SimE F X ⟨us.length,slotsOf 0 us,H,[]⟩ vs→CallsD P f vs u X.w fun e u' w'=>u'=u1∧∃ (X':GW) (out:AOut) (H':List (Nat × List AV)),X'.w=w'∧post out H'∧qQ F X' e out H'∧Ext F X X':=by
 intro F X vs hs
 refine callsD_of_wpS hf hb fun c₀ cs hc=> ?_
 have hle:=Nat.le_of_ble_eq_true hus
 have hs1:=hs.enter hle
 have hs2:SimE F X ((⟨fn.ntmps,slotsOf 0 us,H,[]⟩:AS).put d ru) ((vs++Array.replicate (fn.ntmps - vs.size) undef).setIfInBounds d rv):=
  hs1.put_new (ba hd) (New.refl X) hs1.gb (hru X) (FreshOk.plain hpl)
 have hlen:0 < l.length:=(List.getElem?_eq_some_iff.1 hl).1
 have hkey:∀ (cs':List Frame),cs'={ c₀ with mode:=u1 }::cs→∀e a' w',da F X [] (Stk P (Dx fn.results.toList post) []) e a' w'→bodyPostS P fn c₀ cs (fun e u' w'=>u'=u1∧∃ (X':GW) (out:AOut) (H':List (Nat × List AV)),X'.w=w'∧post out H'∧qQ F X' e out H'∧Ext F X X') e a' cs' w':=by
  rintro cs' rfl e a' w' ⟨p1,X',σ',p2,p3,p4,p5⟩
  subst p2
  have fin:∀ (v0:AV),F5 fn.results.toList σ'=some v0→post (.ret v0) σ'.h→a'.defers=[] ∧∃u',({ c₀ with mode:=u1 }:Frame)::cs={ c₀ with mode:=u' }::cs∧∃v,(results fn a'.tmps).run P X'.w=.ok v X'.w∧u'=u1∧(∃ (X'':GW) (out:AOut) (H':List (Nat × List AV)),X''.w=X'.w∧post out H'∧qQ F X'' (.returned v) out H'∧Ext F X X''):=by
   intro v0 hv hpost
   obtain⟨v,k1,k2⟩:=Bn (P:=P) (fn:=fn) p4 hv
   exact⟨p1,u1,rfl,v,k1,rfl,X',.ret v0,σ'.h,rfl,hpost,⟨v,rfl,k2⟩,p5⟩
  cases e with
  |normal=>obtain⟨v0,h3,h4⟩:=p3;exact fin v0 h3 h4
  |ret=>obtain⟨v0,h3,h4⟩:=p3;exact fin v0 h3 h4
  |panic chain=>
   obtain⟨v,rfl,p3⟩:=Ee p3
   exact⟨p1,u1,rfl,rfl,X',.pan v,σ'.h,rfl,p3,⟨rfl,p4.panEnd⟩,p5⟩
  |exit id=>exact p3.elim
  |goto l=>exact p3.elim
  |outgrown=>exact p3.elim
 have hrest:∀ (cs':List Frame),cs'={ c₀ with mode:=u1 }::cs→∀e a' w',da F X [] (Stk P (Dx fn.results.toList post) [.c rest]) e a' w'→Exit.thenS (rest.wpS P (bodyPostS P fn c₀ cs (fun e u' w'=>u'=u1∧∃ (X':GW) (out:AOut) (H':List (Nat × List AV)),X'.w=w'∧post out H'∧qQ F X' e out H'∧Ext F X X'))) (bodyPostS P fn c₀ cs (fun e u' w'=>u'=u1∧∃ (X':GW) (out:AOut) (H':List (Nat × List AV)),X'.w=w'∧post out H'∧qQ F X' e out H'∧Ext F X X')) e a' cs' w':=by
  rintro cs' hcs e a' w' ⟨p1,X',σ',p2,p3,p4,p5⟩
  subst p2
  cases e with
  |normal=>
   refine wpS_of_wp (wp_mono (p3 F X' a' p4 [] p1) fun e2 a2 w2 hp2=> ?_)
   exact hkey cs' hcs e2 a2 w2 (hp2.ext p5)
  |ret=>exact hkey cs' hcs _ _ _ ⟨p1,X',σ',rfl,p3,p4,p5⟩
  |panic chain=>exact hkey cs' hcs _ _ _ ⟨p1,X',σ',rfl,p3,p4,p5⟩
  |exit id=>exact p3.elim
  |goto l=>exact p3.elim
  |outgrown=>exact p3.elim
 refine wpS_seq (wpS_region ?_)
 have hrange:List.range l.toArray.size=0::List.range' 1 (l.length - 1):=by
  rw[List.range_eq_range']
  have:l.toArray.size=l.length:=by simp
  rw[this]
  have:=lQ hlen
  simpa using this
 rw[hrange]
 have ho:(l.toArray)[0]? =some ⟨some d,.call { callee:=.builtin .recover,args:= #[],argTypes:= #[] },ty,pos,af,none⟩:=by simpa using hl
 have hrun:∀ (a:Act) (w:World),(execOp a.eval ⟨some d,.call { callee:=.builtin .recover,args:= #[],argTypes:= #[] },ty,pos,af,none⟩).run P w=.ok .recover w:=fun a w=>by
  simp[execOp,resolve,invoke]
  rfl
 simp only[wpOpsS,ho]
 rw[if_pos (by simp[Region.wanted])]
 simp only[hrun]
 have hgo:∀ (cs':List Frame),cs'={ c₀ with mode:=u1 }::cs→wpOpsS P l.toArray (Exit.thenS (rest.wpS P (bodyPostS P fn c₀ cs (fun e u' w'=>u'=u1∧∃ (X':GW) (out:AOut) (H':List (Nat × List AV)),X'.w=w'∧post out H'∧qQ F X' e out H'∧Ext F X X'))) (bodyPostS P fn c₀ cs (fun e u' w'=>u'=u1∧∃ (X':GW) (out:AOut) (H':List (Nat × List AV)),X'.w=w'∧post out H'∧qQ F X' e out H'∧Ext F X X'))) (List.range' 1 (l.length - 1)) { tmps:=(vs++Array.replicate (fn.ntmps - vs.size) undef).setIfInBounds d rv,defers:=[] } cs' X.w:=by
  intro cs' hcs
  have h3:=hA F X { tmps:=(vs++Array.replicate (fn.ntmps - vs.size) undef).setIfInBounds d rv,defers:=[] } hs2 [] rfl
  refine rI (fun a w ho=> ?_) _ _ _ (iV (fun e a' w' hp=> ?_) _ _ _ h3)
  ·obtain⟨u',h⟩:=ho
   obtain⟨_,X',out,H',_,_,h4,_⟩:=h
   cases out with
   |ret v0=>obtain⟨v,h5,_⟩:=h4;cases h5
   |pan v0=>cases h4.1
  ·exact hrest cs' hcs e a' w' hp
 rcases hu c₀ cs hc with hr| ⟨hr,rfl,rfl⟩
 ·simp only[hr]
  exact hgo _ rfl
 ·simp only[hr]
  exact hgo _ (by subst hc;rfl)
end
section
variable {P:Program} {Q:Exit→AS→Prop} {ks:List It} {T:Tys P} {σ σ':AS} {post:AOut→List (Nat × List AV)→Prop} {us:List AV} {f g:FuncId} {F:Nat→Prop} {X:GW}
def yP(P:Program)(g:FuncId)(us:List AV)(H:List (Nat × List AV))(u u1:FrameMode)(post:AOut→List (Nat × List AV)→Prop):Prop:=
 ∀F X (vs:Array Value),SimE F X ⟨us.length,slotsOf 0 us,H,[]⟩ vs→CallsD P g vs u X.w fun e u' w'=>u'=u1∧∃ (X':GW) (out:AOut) (H':List (Nat × List AV)),X'.w=w'∧post out H'∧qQ F X' e out H'∧Ext F X X'
theorem yP.conv{us:List AV}{H:List (Nat × List AV)}{u u1:FrameMode}{post post2:AOut→List (Nat × List AV)→Prop}(h:yP P g us H u u1 post)(hp:∀out H',post out H'→∃H2,(∀F X tm t,(t=[] ∨∃u,out=.ret u∧t=[(0,u)])→SimE F X ⟨1,t,H',[]⟩ tm→SimE F X ⟨1,t,H2,[]⟩ tm)∧post2 out H2):yP P g us H u u1 post2:=
 fun F X vs hs=>(h F X vs hs).mono fun e u' w' ⟨h1,X',out,H',h2,h3,h4,h5⟩=>by
  obtain⟨H2,k1,k2⟩:=hp out H' h3
  refine⟨h1,X',out,H2,h2,k2,?_,h5⟩
  cases out with
  |ret u=>obtain⟨v,e1,e2⟩:=h4;exact⟨v,e1,k1 _ _ _ _ (.inr ⟨u,rfl,rfl⟩) e2⟩
  |pan x=>exact⟨h4.1,k1 _ _ _ _ (.inl rfl) h4.2⟩
theorem yP.sub{us:List AV}{H H1:List (Nat × List AV)}{u u1:FrameMode}(h:yP P g us H1 u u1 post)(hs:∀k cs,look H1 k=some cs→look H k=some cs):yP P g us H u u1 post:=
 fun F X vs hsim=>h F X vs (hsim.sub rfl (fun _ _ h=>h) hs (fun _ h=>h))
theorem PO(x:Value):∀ (c:Frame) (cs:List Frame),c.mode=.panicking [⟨x,false,false⟩] →recoverD (c::cs)=some (x,{ c with mode:=.panicking [⟨x,true,false⟩] }::cs)∨(recoverD (c::cs)=none∧x=.nilIface∧FrameMode.panicking [⟨x,true,false⟩] =.panicking [⟨x,false,false⟩]):=fun c cs h=>.inl (by simp[recoverD,h])
theorem Qt:∀ (c:Frame) (cs:List Frame),c.mode=.returning→recoverD (c::cs)=some (.nilIface,{ c with mode:=.returning }::cs)∨(recoverD (c::cs)=none∧Value.nilIface=.nilIface∧FrameMode.returning=.returning):=fun c cs h=>.inr ⟨by simp[recoverD,h],rfl,rfl⟩
end
def Wb(P:Program)(o:Oper)(σ:AS)(v:Value):Prop:=
 ∀F X (a:Act),SimR F X σ o.op a.tmps→∃f args,(execOp a.eval o).run P X.w=.ok (.enter f args) X.w∧Calls P f args X.w fun e w'=>e=.panicked [{ v:=v,recovered:=false }] ∧∃X':GW,X'.w=w'∧New X X'∧∀b n,X'.g b=some n→b < X'.w.heap.size
section
variable {P:Program} {Q:Exit→AS→Prop} {ks:List It} {T:Tys P} {σ:AS} {K:AS→Prop} {l body after rest:List Oper} {om o:Oper} {d k:Nat} {u:AV}
end
section
variable {P:Program} {Q:Exit→AS→Prop} {ks:List It} {T:Tys P} {σ σ':AS}
def oz(σ σ':AS):Prop:=∀F X tm,SimE F X σ tm→SimE F X σ' tm
theorem oz.trans{σ2:AS}(h:oz σ σ')(k:oz σ' σ2):oz σ σ2:=fun F X tm hs=>k F X tm (h F X tm hs)
theorem oz.mk{n:Nat}{t t':List (Nat × AV)}{H H':List (Nat × List AV)}{e:List (Nat × Root)}(ht:∀p∈t',look t p.1=some p.2)(hh:∀k cs,look H' k=some cs→look H k=some cs):oz ⟨n,t,H,e⟩ ⟨n,t',H',[]⟩:=
 fun _ _ _ hs=>hs.sub rfl (fun s u h=>ht (s,u) (cI h)) hh (fun p hp=>by cases hp)
theorem w9{c:Code}(h:oz σ σ')(hn:aY P Q (.c c::ks) σ'):aY P Q (.c c::ks) σ:=TM hn h
theorem Mw{α:Type}{c:Code}(st:α→AS)(Pr:α→Prop)(μ:α→Nat)(y0:α)(h0:oz σ (st y0))(hp:Pr y0)
  (round:∀y,Pr y→aY P Q (.c c::.l (fun σ'=>∃y',oz σ' (st y')∧Pr y'∧μ y' < μ y)::ks) (st y)):aY P Q (.c (.loop c)::ks) σ:=by
 intro F X a hs D hd b k cs
 have key:∀n y a w,μ y=n→a.defers=D→Pr y→(∃X':GW,X'.w=w∧SimE F X' (st y) a.tmps∧Ext F X X')→
   ∃e a' w',da F X D (Stk P Q ks) e a' w'∧Arrives P (lone (b.at a (.code c::.inLoop c::k)) cs w) b k cs e a' w':=by
  intro n
  induction n using Nat.strongRecOn with
  |_ n ih=>
   rintro y a w hn hd hp ⟨X1,rfl,hs1,hx1⟩
   obtain⟨e,a₁,w₁,hq,harr⟩:=round y hp F X1 a hs1 D hd b (.inLoop c::k) cs
   obtain⟨k1,X2,σ2,k2,k3,k4,k5⟩:=hq
   cases e with
   |normal=>
    obtain⟨y',l1,l2,l3⟩:=k3
    obtain⟨e₂,a₂,w₂,hq₂,harr₂⟩:=ih (μ y') (hn ▸ l3) y' a₁ w₁ rfl k1 l2 ⟨X2,k2,l1 _ _ _ k4,hx1.trans k5⟩
    exact⟨e₂,a₂,w₂,hq₂,.of_steps (Steps.trans harr (.one step_inLoop)) harr₂⟩
   |_=>exact⟨_,a₁,w₁,⟨k1,X2,σ2,k2,k3,k4,hx1.trans k5⟩,.pass (x:=.inLoop c) rfl (fun _ _=>.inl (by simp)) harr⟩
 obtain⟨e,a',w',hq,harr⟩:=key _ y0 a X.w rfl hd hp ⟨X,rfl,h0 _ _ _ hs,Ext.refl F X⟩
 exact⟨e,a',w',hq,.of_steps (.one step_loop) harr⟩
theorem jH{it:It}(hit:(match it with|.c _=>true|.o _ _ _=>true|_=>false)=true)(h:oz σ σ')(hn:aY P Q (it::ks) σ'):aY P Q (it::ks) σ:=by
 cases it with
 |c c=>exact fun F X a hs D hd=>hn F X a (h _ _ _ hs) D hd
 |o l k r=>exact fun F X a hs D hd=>hn F X a (h _ _ _ hs) D hd
 |b id=>cases hit
 |l I=>cases hit
theorem BZ{t:List (Nat × AV)}{H:List (Nat × List AV)}{s k n by_:Nat}{ty:TypeId}{cs:List AV}{fs:Array Field}(ht:look t s=some (.v (.pointer (some ⟨k,0,none⟩))))(hh:look H k=some cs)(h0:look T.ty ty=some (.struct fs))(hz:look T.sz ty=some (n,by_))(hn:Nat.beq n cs.length=true)(hm:fx cs=false):mU T t H (.cell s ty)=some (.ag (cs.map AV.rd)):=by
 simp only[mU,ht,hh,h0,hz,hn,hm];rfl
theorem I0{t:List (Nat × AV)}{H:List (Nat × List AV)}{s k:Nat}{ty:TypeId}{c:AV}{d:TypeDesc}(ht:look t s=some (.v (.pointer (some ⟨k,0,none⟩))))(hh:look H k=some [c])(h0:look T.ty ty=some d)(h1:lf d=true)(hm:c.isMp=false):mU T t H (.cell s ty)=some c.rd:=by
 cases d<;> simp[lf] at h1<;> simp[mU,ht,hh,h0,hm,lf]
theorem lL{k:Nat}:∀ {H:List (Nat × List AV)},gm k H→look H k=none
 | [],_=>rfl
 | (a,c)::H,h=>by
   rw[ab,if_neg (fun e=>h (a,c) List.mem_cons_self e.symm)]
   exact lL (fun q hq=>h q (List.mem_cons_of_mem _ hq))
end
def fp(body:List Oper):List (Nat × Nat):=body.filterMap fun o=>match o.dst,o.op,o.guard with
 |some d,.move (.tmp s),none=>if body.all (fun q=> !(q.dst==some s)) then some (d,s) else none
 |_,_,_=>none
def AS.als(σ:AS)(m:List (Nat × Nat)):AS:={ n:=σ.n,t:=σ.t,h:=σ.h,e:=m.map (fun p=>(p.1,Root.s p.2))++σ.e }
def xp:List Oper→Nat→Bool
 | [],_=>true
 |o::r,k=>(bM o).contains k && xp r (k+1)
theorem sq:∀ {r:List Oper} {k:Nat},xp r k=true→∀ (j:Nat) o,r[j]? =some o→k+j∈bM o
 | [],_,_,j,o,h=>by simp at h
 |q::r,k,hc,j,o,h=>by
  simp only[xp,Bool.and_eq_true] at hc
  cases j with
  |zero=>simp at h;subst h;simpa using hc.1
  |succ j=>
   have:=sq hc.2 j o (by simpa using h)
   rwa [show k+ (j+1)=k+1+j by omega]
def zt:List (List Nat)→List Nat→Bool
 | [],_=>true
 |d::r,S=>S.contains r.length && zt r (d++S)
theorem qy{p:Nat→Prop}:∀ {r:List (List Nat)} {S:List Nat},zt r S=true→(∀j∈S,p j)→(∀ (i:Nat) d,r.reverse[i]? =some d→p i→∀j∈d,p j)→∀j,j < r.length→p j
 | [],_,_,_,_,j,h=>by simp at h
 |d::r,S,hc,hS,hd,j,hj=>by
  simp only[zt,Bool.and_eq_true] at hc
  have h1:p r.length:=hS _ (by simpa using hc.1)
  have h2:∀j∈d,p j:=hd r.length d (by rw[List.reverse_cons,List.getElem?_append_right (by simp)];simp) h1
  by_cases e:j=r.length
  ·subst e;exact h1
  ·refine qy hc.2 (fun j hj=> ?_) (fun i d' hi=>hd i d' ?_) j (by simp only[List.length_cons] at hj;omega)
   ·rcases List.mem_append.1 hj with hj|hj
    ·exact h2 j hj
    ·exact hS j hj
   ·rw[List.reverse_cons,List.getElem?_append_left (List.getElem?_eq_some_iff.1 hi).1];exact hi
def Fr(l body:List Oper)(om:Oper)(after:List Oper):Bool:=
 mq 0 l && kf l body body 0 && A2 body [] && xp after body.length && zt (body.map bM).reverse (bM om)
section
variable {P:Program} {Q:Exit→AS→Prop} {ks:List It} {T:Tys P} {σ:AS} {K:AS→Prop} {l body after rest:List Oper} {om o:Oper} {d k:Nat} {u:AV}
theorem uS{R:Exit→Act→World→Prop}{m:Nat}(hlex:∀ (i:Nat) o,l[i]? =some o→∀j∈bM o,j < i)(hch:∀ (i:Nat) o,m < i→l[i]? =some o→i - 1∈bM o):∀ (n k fuel:Nat) (listed:Array Bool) (a:Act) (w:World),k+n=l.length→m < k→listed.size=l.length→(∀j,j < k→listed.getD j false=true)→(∀j,k≤j→listed.getD j false=false)→n≤fuel→
  wpOps P l.toArray R (List.range' k n) a w→wpAny P .any l.toArray R fuel listed a w
 |0,k,fuel,listed,a,w,hk,hm,hsz,h1,h2,hf,h=>by
  have hnil:Region.ready .any l.toArray listed=[] :=by
   rw[List.eq_nil_iff_forall_not_mem]
   intro j hj
   obtain⟨h5,oj,h6,_⟩:=mem_ready.1 hj
   have hjl:j < l.length:=by simpa using (Array.getElem?_eq_some_iff.1 h6).1
   rw[fk (by omega),h1 j (by omega)] at h5;cases h5
  cases fuel with
  |zero=>exact⟨hnil,h⟩
  |succ fuel=>exact⟨fun _=>h,fun j hj=>by rw[hnil] at hj;cases hj⟩
 |n+1,k,0,listed,a,w,hk,hm,hsz,h1,h2,hf,h=>by omega
 |n+1,k,fuel+1,listed,a,w,hk,hm,hsz,h1,h2,hf,h=>by
  have hkl:k < l.length:=by omega
  have hrd:k∈Region.ready .any l.toArray listed:=by
   refine mem_ready.2 ⟨by rw[fk (by omega)];exact h2 k (Nat.le_refl _),l[k],by simp[hkl],fun e he hb=> ?_⟩
   exact h1 e.on (hlex k l[k] (List.getElem?_eq_getElem hkl) e.on (ca.2 ⟨e,he,hb,rfl⟩))
  refine⟨fun hnil=>(by rw[hnil] at hrd;cases hrd),fun i hi=> ?_⟩
  obtain⟨g1,o,g2,g3⟩:=mem_ready.1 hi
  have g2l:l[i]? =some o:=by simpa using g2
  have hil:i < l.length:=(List.getElem?_eq_some_iff.1 g2l).1
  have gf:listed.getD i false=false:=by rw[← fk (by omega)];exact g1
  have hki:k≤i:=by
   apply Classical.byContradiction
   intro hc
   rw[h1 i (by omega)] at gf;cases gf
  have hik:i=k:=by
   apply Classical.byContradiction
   intro hne
   obtain⟨e,he1,he2,he3⟩:=ca.1 (hch i o (by omega) g2l)
   have:=g3 e he1 he2
   rw[he3,h2 (i - 1) (by omega)] at this;cases this
  subst hik
  rw[List.range'_succ,wpOps_cons] at h
  refine wpOp_mono (fun a' w' h'=> ?_) h
  exact uS hlex hch n (i+1) fuel (listed.setIfInBounds i true) a' w' (by omega) (by omega) (by simp[hsz]) (fun j hj=>by
   rw[bf false (by omega)]
   by_cases e:j=i
   ·rw[if_pos e]
   ·rw[if_neg e];exact h1 j (by omega)) (fun j hj=>by rw[bf false (by omega),if_neg (by omega)];exact h2 j (by omega)) (by omega) h'
theorem tB{F:Nat→Prop}{X:GW}{tm:Array Value}:∀ {m:List (Nat × Nat)} {σ:AS},SimE F X σ tm→(∀p∈m,tm.getD p.1 undef=tm.getD p.2 undef)→SimE F X (σ.als m) tm
 | [],σ,h,_=>h
 |p::m,σ,h,hm=>(tB h fun q hq=>hm q (List.mem_cons_of_mem _ hq)).alias (d:=p.1) (r:=.s p.2) (by simp only[rootV];rw[hm p List.mem_cons_self])
theorem sR{ops:Array Oper}{R R':Exit→Act→World→Prop}(hR:∀e a w,R e a w→R' e a w){i:Nat}{K K':Act→World→Prop}(hK:∀a w,K a w→K' a w){a:Act}{w:World}(h:wpOp P ops R i K a w):wpOp P ops R' i K' a w:=by
 unfold wpOp at h ⊢
 cases ho:ops[i]? with
 |none=>rw[ho] at h;exact hK _ _ h
 |some o=>
  rw[ho] at h
  simp only at h ⊢
  split
  ·rename_i hw
   rw[if_pos hw] at h
   rcases h with h| ⟨h,a0,w0,h0⟩
   ·exact .inl (vB (fun a w h=>hK a w h) hR h)
   ·exact .inr ⟨h,a0,w0,hR _ _ _ h0⟩
  ·rename_i hw
   rw[if_neg hw] at h
   exact hK _ _ h
theorem qe{ops:Array Oper}{R R':Exit→Act→World→Prop}(hR:∀e a w,R e a w→R' e a w):∀ (fuel:Nat) (listed:Array Bool) (a:Act) (w:World),wpAny P .any ops R fuel listed a w→wpAny P .any ops R' fuel listed a w
 |0,listed,a,w,h=>⟨h.1,hR _ _ _ h.2⟩
 |fuel+1,listed,a,w,h=>⟨fun e=>hR _ _ _ (h.1 e),fun i hi=>sR hR (fun a w h=>qe hR fuel _ a w h) (h.2 i hi)⟩
theorem Kv{id:Nat}(hm:P.follows .mixedOrders=true)(hl:l=body++om::after)(hB:Fr l body om after=true)(he:σ.e=[])
  (h:lz P l (fun σ'=>aY P Q (.o l body.length (om::after)::ks) (σ'.als (fp body))) body σ):aY P Q (.c (.region id l.toArray true)::ks) σ:=by
 intro F X a hs D hdf
 obtain⟨us,hul,hK,hstep⟩:=xf body σ h
 simp only[Fr,Bool.and_eq_true] at hB
 obtain⟨⟨⟨⟨hx,hset⟩,hdst⟩,hchn⟩,hcov⟩:=hB
 have hdis:=(pj body [] hdst).2
 have hlb:∀i,i < body.length→l[i]? =body[i]? :=fun i hi=>by rw[hl,List.getElem?_append_left hi]
 have hlo:l[body.length]? =some om:=by rw[hl];simp
 have hll:body.length < l.length:=by rw[hl];simp
 have hlex:∀ (i:Nat) o,l[i]? =some o→∀j∈bM o,j < i:=by
  intro i o ho j hj
  have:=i8 l 0 i o hx ho j hj
  omega
 have hch:∀ (i:Nat) o,body.length < i→l[i]? =some o→i - 1∈bM o:=by
  intro i o hi ho
  obtain⟨j,hj⟩:∃j,i=body.length+1+j:=⟨i - body.length - 1,by omega⟩
  have hoa:after[j]? =some o:=by
   rw[hl,List.getElem?_append_right (by omega)] at ho
   rw[show i - body.length=j+1 by omega] at ho
   simpa using ho
  have:=sq hchn j o hoa
  rwa [show i - 1=body.length+j by omega]
 refine wp_region_any hm ?_
 let Inv:Array Bool→GW→Act→Prop:=fun listed X1 a1=>∃σ1:AS,SimE F X1 σ1 a1.tmps∧σ1.n=σ.n∧σ1.h=σ.h∧σ1.e=[] ∧
  (∀ (i:Nat) o d u,body[i]? =some o→us[i]? =some u→o.dst=some d→listed.getD i false=true→look σ1.t d=some u)∧
  (∀t,(∀ (i:Nat) o,body[i]? =some o→o.dst=some t→listed.getD i false=false)→look σ1.t t=look σ.t t)∧
  (∀ (i:Nat) o d s,body[i]? =some o→o.dst=some d→o.op=.move (.tmp s)→o.guard=none→(∀ (q:Nat) oq,body[q]? =some oq→oq.dst≠some s)→listed.getD i false=true→a1.tmps.getD d undef=a1.tmps.getD s undef)
 have ready_of:∀ (listed:Array Bool),listed.size=l.length→listed.getD body.length false=false→Region.ready .any l.toArray listed≠[] :=by
  intro listed hsz hlast hnil
  obtain⟨k,hk,hkf,hkl⟩:=j5 (fun j=>listed.getD j false) (body.length+1) ⟨body.length,by omega,hlast⟩
  have hkl2:k < l.length:=by omega
  have hmem:k∈Region.ready .any l.toArray listed:=by
   refine mem_ready.2 ⟨by rw[fk (by omega)];exact hkf,l[k],by simp[hkl2],fun e he hb=> ?_⟩
   exact hkl e.on (hlex k l[k] (List.getElem?_eq_getElem hkl2) e.on (ca.2 ⟨e,he,hb,rfl⟩))
  rw[hnil] at hmem;cases hmem
 have key:∀ (fuel:Nat) (listed:Array Bool) (X1:GW) (a1:Act),listed.size=l.length→(∀j,body.length≤j→listed.getD j false=false)→
   ((List.range l.length).filter (fun i=> !listed.getD i true)).length≤fuel→Ext F X X1→a1.defers=D→Inv listed X1 a1→
   (∀j oj,l[j]? =some oj→listed.getD j false=true→∀d∈bM oj,listed.getD d false=true)→
   wpAny P .any l.toArray (da F X D (Stk P Q ks)) fuel listed a1 X1.w:=by
  intro fuel
  induction fuel with
  |zero=>
   intro listed X1 a1 hsz hlast hf hx1 hd1 hI hdn
   have h0:=List.length_eq_zero_iff.1 (Nat.le_zero.1 hf)
   have:=List.filter_eq_nil_iff.1 h0 body.length (List.mem_range.2 (by omega))
   rw[fk (by omega),hlast _ (Nat.le_refl _)] at this;exact absurd rfl this
  |succ fuel ih=>
   intro listed X1 a1 hsz hlast hf hx1 hd1 hI hdn
   refine⟨fun hnil=>absurd hnil (ready_of listed hsz (hlast _ (Nat.le_refl _))),fun i hi=> ?_⟩
   obtain⟨h1,o,h2,h3⟩:=mem_ready.1 hi
   have h2l:l[i]? =some o:=by simpa using h2
   have hil:i < l.length:=(List.getElem?_eq_some_iff.1 h2l).1
   have hlf:listed.getD i false=false:=by rw[← fk (by omega)];exact h1
   obtain⟨σ1,s1,s2,s3,se,s4,s5,s6⟩:=hI
   have hsee0:∀ (i:Nat) (o:Oper),l[i]? =some o→i≤body.length→fE l i o body 0=true→listed.getD i false=false→(∀e∈o.after,Region.binds .any e=true→listed.getD e.on false=true)→∀t,t∈cO l o→look (puts σ (body.take i) (us.take i)).t t=look σ1.t t:=by
    intro i o h2l hib hset1 hlf h3 t ht
    rw[ja _ _ _ _ (by simp;omega) (fun q q' o1 o2 d h1 h2 h3 h4=>by
     rw[List.getElem?_take] at h1 h2
     split at h1
     ·split at h2
      ·exact hdis q q' o1 o2 d h1 h2 h3 h4
      ·cases h2
     ·cases h1)]
    cases hf:((body.take i).zip (us.take i)).find? (fun p=>p.1.dst==some t) with
    |some p=>
     have hmem:=List.mem_of_find?_eq_some hf
     have hpd:p.1.dst=some t:=by simpa using List.find?_some hf
     obtain⟨q,hq⟩:=List.getElem?_of_mem hmem
     rw[List.getElem?_zip_eq_some,List.getElem?_take,List.getElem?_take] at hq
     have hqi:q < i:=by
      apply Classical.byContradiction
      intro hc
      rw[if_neg hc] at hq;cases hq.1
     rw[if_pos hqi,if_pos hqi] at hq
     obtain⟨d',hd',hs'⟩:=gI body 0 q p.1 hset1 hq.1
     rw[hpd] at hd';cases hd'
     have hdep:=(hs' ht (by omega)).1 (by omega)
     rw[Nat.zero_add] at hdep
     obtain⟨e,he1,he2,he3⟩:=ca.1 hdep
     have hq3:listed.getD q false=true:=by rw[← he3];exact h3 e he1 he2
     rw[s4 q p.1 t p.2 hq.1 hq.2 hpd hq3]
    |none=>
     simp only
     symm
     refine s5 t fun j oj hj hjd=> ?_
     have hjl:=(List.getElem?_eq_some_iff.1 hj).1
     by_cases hji:j < i
     ·have hmem:(oj,us[j]'(by omega))∈(body.take i).zip (us.take i):=by
       refine List.mem_of_getElem? (i:=j) (List.getElem?_zip_eq_some.2 ⟨?_,?_⟩)
       ·rw[List.getElem?_take,if_pos hji];exact hj
       ·rw[List.getElem?_take,if_pos hji];exact List.getElem?_eq_getElem (by omega)
      exact absurd (by simpa using hjd) (List.find?_eq_none.1 hf _ hmem)
     ·by_cases hje:j=i
      ·subst hje;exact hlf
      ·obtain⟨d',hd',hs'⟩:=gI body 0 j oj hset1 hj
       rw[hjd] at hd';cases hd'
       have hdep:=(hs' ht (by omega)).2 (by omega)
       cases hc:listed.getD j false
       ·rfl
       ·have:=hdn j oj (by rw[hlb j hjl];exact hj) hc i hdep
        rw[hlf] at this;cases this
   have hR0:∀ (i:Nat) (o:Oper),l[i]? =some o→i≤body.length→fE l i o body 0=true→listed.getD i false=false→(∀e∈o.after,Region.binds .any e=true→listed.getD e.on false=true)→SimR F X1 (puts σ (body.take i) (us.take i)) o.op a1.tmps:=by
    intro i o h2l hib hset1 hlf h3
    refine⟨s1.gb,s1.fb,fun t u ht hu=> ?_,fun k cs hk=> ?_⟩
    ·rw[hsee0 i o h2l hib hset1 hlf h3 t (by simp only[cO];exact List.mem_append_left _ (hZ ht))] at hu
     exact s1.slot t u hu
    ·rw[kz,← s3] at hk;exact s1.box k cs hk
   unfold wpOp
   simp only[h2]
   by_cases hib:i < body.length
   ·have h2':body[i]? =some o:=by rw[← hlb i hib];exact h2l
    have hui:us[i]? =some us[i] :=List.getElem?_eq_getElem (by omega)
    obtain⟨d,hod,hdn2,hcase⟩:=hstep i o us[i] h2' hui
    have hset1:fE l i o body 0=true:=by have:=lp body 0 i o hset h2';rwa [Nat.zero_add] at this
    have hsee:=hsee0 i o h2l (by omega) hset1 hlf h3
    have hwan2:bp l (puts σ (body.take i) (us.take i)) o=bp l σ1 o∧fT l (puts σ (body.take i) (us.take i)) o=fT l σ1 o:=by
     refine(lJ (by rw[pu,s2]) fun j want d0 hg hd0=>hsee d0 ?_)
     simp only[cO,hg,hd0];simp
    have hwan:=hwan2.1
    have hdz:d < a1.tmps.size:=by rw[s1.size,s2];exact ba hdn2
    have go:∀ (v:Value) (X2:GW),(∀s,o.op=.move (.tmp s)→o.guard=none→v=a1.tmps.getD s undef)→New X1 X2→(∀b n,X2.g b=some n→b < X2.w.heap.size)→Rel X2 us[i] v→FreshOk F X1.w.heap.size X2 us[i] v→wpAny P .any l.toArray (da F X D (Stk P Q ks)) fuel (listed.setIfInBounds i true) (a1.put o.dst v) X2.w:=by
     intro v X2 hv2 hn2 hg2 hr2 hf2
     refine ih (listed.setIfInBounds i true) X2 (a1.put o.dst v) (by simp[hsz]) (fun j hj=>by rw[bf false (by omega),if_neg (by omega)];exact hlast j hj) ?_ (hx1.trans (hn2.ext s1.gb s1.fb)) (by rw[eM];exact hd1) ?_ ?_
     ·have:=mD hil hsz h1
      omega
     ·refine⟨σ1.put d us[i],?_,s2,s3,by simp[AS.put,se],fun j oj dj uj hj huj hdj hlj=> ?_,fun t ht=> ?_,fun j oj dj sj hj hdj hopj hgj hsj hlj=> ?_⟩
      ·rw[hod]
       exact s1.put_new (by rw[s2];exact ba hdn2) hn2 hg2 hr2 hf2
      ·simp only[AS.put,ab]
       by_cases e:j=i
       ·subst e
        rw[h2'] at hj;cases hj
        rw[hod] at hdj;cases hdj
        rw[if_pos rfl,← huj,hui]
       ·have hne:dj≠d:=fun e2=>e (hdis j i oj o d hj h2' (by rw[hdj,e2]) hod)
        rw[if_neg hne]
        rw[bf false (by omega),if_neg e] at hlj
        exact s4 j oj dj uj hj huj hdj hlj
      ·have hne:t≠d:=by
        rintro rfl
        have:=ht i o h2' hod
        rw[bf false (by omega),if_pos rfl] at this;cases this
       simp only[AS.put,ab]
       rw[if_neg hne]
       refine s5 t fun j oj hj hjd=> ?_
       have:=ht j oj hj hjd
       rw[bf false (by omega)] at this
       by_cases e:j=i
       ·rw[if_pos e] at this;cases this
       ·rw[if_neg e] at this;exact this
      ·have hds:d≠sj:=fun e=>hsj i o h2' (by rw[hod,e])
       rw[hod]
       have hset:∀ (x:Nat),(a1.put (some d) v).tmps.getD x undef=if x=d then v else a1.tmps.getD x undef:=by
        intro x
        simp only[Act.put,Array.getD_eq_getD_getElem?,Array.getElem?_setIfInBounds]
        by_cases e:d=x
        ·subst e;rw[if_pos rfl,if_pos hdz,if_pos rfl];rfl
        ·rw[if_neg e,if_neg (Ne.symm e)]
       rw[hset,hset,if_neg (Ne.symm hds)]
       by_cases e:j=i
       ·subst e
        rw[h2'] at hj;cases hj
        rw[hod] at hdj;cases hdj
        rw[if_pos rfl]
        exact hv2 sj hopj hgj
       ·have hne:dj≠d:=fun e2=>e (hdis j i oj o d hj h2' (by rw[hdj,e2]) hod)
        rw[if_neg hne]
        rw[bf false (by omega),if_neg e] at hlj
        exact s6 j oj dj sj hj hdj hopj hgj hsj hlj
     ·intro j oj hoj hj dd hdd
      rw[bf false (by omega)]
      by_cases e:dd=i
      ·rw[if_pos e]
      ·rw[if_neg e]
       by_cases e2:j=i
       ·subst e2
        rw[h2l] at hoj;cases hoj
        obtain⟨x,hx1,hx2,hx3⟩:=ca.1 hdd
        rw[← hx3];exact h3 x hx1 hx2
       ·rw[bf false (by omega),if_neg e2] at hj
        exact hdn j oj hoj hj dd hdd
    rcases hcase with ⟨hw,hop⟩| ⟨hw,hun⟩
    ·rw[hwan] at hw
     rw[if_pos (lF s1 hw)]
     left
     have hrun:=hop F X1 a1 (hR0 i o h2l (by omega) hset1 hlf h3)
     have hrun2:jN P o a1 X1.w fun x w'=>(∀s,o.op=.move (.tmp s)→o.guard=none→x=a1.tmps.getD s undef)∧∃X':GW,X'.w=w'∧New X1 X'∧(∀b n,X'.g b=some n→b < X'.w.heap.size)∧Rel X' us[i] x∧FreshOk F X1.w.heap.size X' us[i] x:=by
      by_cases hmv:∃s,o.op=.move (.tmp s)
      ·obtain⟨s,hs⟩:=hmv
       have hex:(execOp a1.eval o).run P X1.w=.ok (.value (a1.tmps.getD s undef)) X1.w:=by
        obtain⟨dst,op,ty,pos,af,g⟩:=o
        simp only at hs
        subst hs
        rfl
       unfold jN at hrun ⊢
       rw[hex] at hrun ⊢
       exact⟨fun s' h' _=>by rw[hs] at h';cases h';rfl,hrun⟩
      ·exact hrun.mono fun x w' h=>⟨fun s h'=>absurd ⟨s,h'⟩ hmv,h⟩
     refine hrun2.wp fun x w' ⟨k0,X2,k1,k2,k3,k4,k5⟩=> ?_
     subst k1
     exact go x X2 k0 k2 k3 k4 k5
    ·have hw:pI l σ1 o:=by
      rcases hw with hw|hw
      ·exact .inl (by rw[← hwan];exact hw)
      ·exact .inr (by rw[← hwan2.2];exact hw)
     rw[if_neg (by rw[sX s1 hw];simp)]
     refine go undef X1 (fun s _ hg=> ?_) (New.refl X1) s1.gb (by rw[hun];exact .v _) (by rw[hun];exact FreshOk.plain rfl)
     ·exfalso
      exact sa hw hg
   ·have hie:i=body.length:=by
     apply Classical.byContradiction
     intro hne
     obtain⟨e,he1,he2,he3⟩:=ca.1 (hch i o (by omega) h2l)
     have h9:=h3 e he1 he2
     rw[he3,hlast (i - 1) (by omega)] at h9;cases h9
    subst hie
    rw[hlo] at h2l;cases h2l
    have hallb:∀j,j < body.length→listed.getD j false=true:=by
     intro j hj
     refine qy (p:=fun j=>listed.getD j false=true) hcov (fun q hq=> ?_) (fun i d hi hl q hq=> ?_) j (by simpa using hj)
     ·obtain⟨e,he1,he2,he3⟩:=ca.1 hq
      rw[← he3];exact h3 e he1 he2
     ·rw[List.reverse_reverse,List.getElem?_map,Option.map_eq_some_iff] at hi
      obtain⟨oi,hi1,rfl⟩:=hi
      exact hdn i oi (by rw[hlb i (List.getElem?_eq_some_iff.1 hi1).1];exact hi1) hl q hq
    have hfin:SimE F X1 (puts σ body us) a1.tmps:=by
     refine s1.sub (by rw[pu,s2]) (fun t u hu=> ?_) (fun k cs hk=>by rw[kz] at hk;rw[s3];exact hk) (fun p hp=>by rw[vk body us σ he] at hp;cases hp)
     rw[ja body us σ t hul hdis] at hu
     cases hf:(body.zip us).find? (fun p=>p.1.dst==some t) with
     |some p=>
      rw[hf] at hu
      cases hu
      have hmem:=List.mem_of_find?_eq_some hf
      have hpd:p.1.dst=some t:=by simpa using List.find?_some hf
      obtain⟨q,hq⟩:=List.getElem?_of_mem hmem
      rw[List.getElem?_zip_eq_some] at hq
      exact s4 q p.1 t p.2 hq.1 hq.2 hpd (hallb q (List.getElem?_eq_some_iff.1 hq.1).1)
     |none=>
      rw[hf] at hu
      rw[← hu]
      refine s5 t fun i o ho hod=> ?_
      have hil:=(List.getElem?_eq_some_iff.1 ho).1
      have hui:us[i]? =some us[i] :=List.getElem?_eq_getElem (by omega)
      have:=List.find?_eq_none.1 hf (o,us[i]) (List.mem_of_getElem? (List.getElem?_zip_eq_some.2 ⟨ho,hui⟩))
      exact absurd (by simpa using hod) this
    have hfin2:SimE F X1 ((puts σ body us).als (fp body)) a1.tmps:=by
     refine tB hfin fun p hp=> ?_
     unfold fp at hp
     obtain⟨o,ho1,ho2⟩:=List.mem_filterMap.1 hp
     obtain⟨i,hi⟩:=List.getElem?_of_mem ho1
     split at ho2
     ·rename_i d s hd' hop' hg'
      split at ho2
      ·rename_i hall
       cases ho2
       refine s6 i o d s hi hd' hop' hg' (fun q oq hq hq'=> ?_) (hallb i (List.getElem?_eq_some_iff.1 hi).1)
       have:=List.all_eq_true.1 hall oq (List.mem_of_getElem? hq)
       rw[hq'] at this
       simp at this
      ·cases ho2
     ·cases ho2
    have hrun:=hK F X1 a1 hfin2 D hd1
    have hn:l.length - body.length=after.length+1:=by rw[hl];simp
    rw[hn,List.range'_succ,wpOps_cons] at hrun
    have hcnt:after.length≤fuel:=by
     have hsub:(List.range' body.length (after.length+1)).length≤((List.range l.length).filter (fun i=> !listed.getD i true)).length:=by
      refine List.Sublist.length_le ?_
      have e1:List.range l.length=List.range' 0 body.length++List.range' body.length (after.length+1):=by
       have:=List.range'_append_1 (s:=0) (m:=body.length) (n:=after.length+1)
       rw[Nat.zero_add] at this
       rw[List.range_eq_range',this,show l.length=body.length+ (after.length+1) by rw[hl];simp]
      rw[e1,List.filter_append]
      refine List.Sublist.trans ?_ (List.sublist_append_right _ _)
      have:(List.range' body.length (after.length+1)).filter (fun i=> !listed.getD i true)=List.range' body.length (after.length+1):=by
       rw[List.filter_eq_self]
       intro q hq
       obtain⟨hq1,hq2⟩:=List.mem_range'_1.1 hq
       rw[fk (by omega),hlast q hq1];rfl
      rw[this]
      exact List.Sublist.refl _
     rw[List.length_range'] at hsub
     omega
    have hrun':=wpOp_mono (K':=wpAny P .any l.toArray (da F X1 D (Stk P Q ks)) fuel (listed.setIfInBounds body.length true)) (fun a' w' h'=>uS hlex hch after.length (body.length+1) fuel (listed.setIfInBounds body.length true) a' w' (by omega) (by omega) (by simp[hsz]) (fun j hj=>by
     rw[bf false (by omega)]
     by_cases e:j=body.length
     ·rw[if_pos e]
     ·rw[if_neg e];exact hallb j (by omega)) (fun j hj=>by rw[bf false (by omega),if_neg (by omega)];exact hlast j (by omega)) hcnt h') hrun
    unfold wpOp at hrun'
    simp only[h2] at hrun'
    have hmono:=qe (P:=P) (ops:=l.toArray) (R:=da F X1 D (Stk P Q ks)) (R':=da F X D (Stk P Q ks)) (fun e a w hp=>hp.ext hx1)
    have:=sR (P:=P) (ops:=l.toArray) (R:=da F X1 D (Stk P Q ks)) (R':=da F X D (Stk P Q ks)) (fun e a w hp=>hp.ext hx1) (i:=body.length) (K:=wpAny P .any l.toArray (da F X1 D (Stk P Q ks)) fuel (listed.setIfInBounds body.length true)) (K':=wpAny P .any l.toArray (da F X D (Stk P Q ks)) fuel (listed.setIfInBounds body.length true)) (fun a w h=>hmono fuel _ a w h) (a:=a1) (w:=X1.w) (by unfold wpOp;simp only[h2];exact hrun')
    unfold wpOp at this
    simp only[h2] at this
    exact this
 have hXd:New X ⟨X.w.drew,X.g⟩:=⟨rfl,rfl,rfl,Nat.le_refl _,fun _ _=>⟨rfl,rfl⟩⟩
 have hsd:=hs.new hXd hs.gb
 have hno:∀i,(Array.replicate l.toArray.size false).getD i false=false:=fun i=>by
  simp only[Array.getD_eq_getD_getElem?,Array.getElem?_replicate]
  split<;> simp
 refine key _ _ ⟨X.w.drew,X.g⟩ a (by simp) (fun j _=>hno j) (by refine Nat.le_trans (List.length_filter_le _ _) (by simp)) (hXd.ext hs.gb hs.fb) hdf ⟨σ,hsd,rfl,rfl,he,(fun i o d u _ _ _ hf=>by rw[hno] at hf;cases hf),(fun t _=>rfl),(fun i o d s _ _ _ _ _ hf=>by rw[hno] at hf;cases hf)⟩ (fun j oj hoj hf=>by rw[hno] at hf;cases hf)
theorem Ei{f:FuncId}{s:Nat}{xs:Array Operand}{ats:Array TypeId}{ty:TypeId}{pos:String}{af:Array Edge}{g:Option (Nat × Bool)}{dd:Option Tmp}{us:List AV}(hfn:look σ.t s=some (.fn f []))(hc:ai P f us [] (fun out H=>out=.ret u∧H=[])){us0:List AV}(hx:uq σ xs.toList=some us0)(hle:LeL us0 us)(hp:us.all (fun u=>(cw (some u)).isNone)=true):
  OpV P ⟨dd,.call { callee:=.value (.tmp s),args:=xs,argTypes:=ats },ty,pos,af,g⟩ σ u:=by
 intro F X a hs
 have hs':SimR F X σ (.call { callee:=.value (.func f),args:=xs,argTypes:=ats }) a.tmps:=⟨hs.gb,hs.fb,fun t u ht hu=>hs.slot t u (by
  simp only[Op.operands,Call.operands,Array.toList_append,List.mem_append] at ht ⊢
  rcases ht with ht|ht
  ·simp at ht
  ·exact .inr ht) hu,hs.box⟩
 have h0:=DQ (ty:=ty) (pos:=pos) (af:=af) (g:=g) (dd:=dd) (ats:=ats) hc hx hle hp F X a hs'
 have hf0:=hs.slot s _ (by simp[Op.operands,Call.operands]) hfn
 have hev:a.eval (.tmp s)=a.tmps.getD s undef:=rfl
 generalize a.tmps.getD s undef=fv at hf0 hev
 cases hf0 with
 |fn _ _ ys hl hr=>
  have hys:ys= #[] :=by
   have:ys.size=0:=by rw[← hl];rfl
   exact Array.eq_empty_of_size_eq_zero this
  subst hys
  have hexec:(execOp a.eval ⟨dd,.call { callee:=.value (.tmp s),args:=xs,argTypes:=ats },ty,pos,af,g⟩).run P X.w=.ok (.enter f (xs.map a.eval)) X.w:=by
   simp[execOp,resolve,Deferred.ofValue,invoke,hev]
   exact lh hc.1
  unfold jN at h0 ⊢
  rw[Conc.execOp_call_func rfl,lh hc.1] at h0
  rw[hexec]
  exact h0
theorem sh{F:Nat→Prop}{X:GW}{t u ty e:TypeId}{i:TypeInfo}{zv:Value}{du:TypeDesc}{sz:Nat}{L m:List (List AV)}{a:Option Addr}{yv:Value}{c':Nat→Nat→Value}(hgb:∀b n,X.g b=some n→b < X.w.heap.size)(hfb:∀b,F b→b < X.w.heap.size)(ht:P.underlying t=some (.slice e))(hu:P.underlying u=some du)(hnz:du=.string∨∃e',du=.slice e')(hi:P.info? e=some i)(hz:i.zero=some zv)(hzs:zv.cells.size=sz)(his:i.size=sz)
  (hrel:Rel X (.sl false sz L) (.slice a L.length L.length)) (hL:∀r∈L,r.length=sz) (hadd:AddsA P X sz m yv c') (hfit:(L.length+m.length) * i.bytes≤140737488355328) (hb:1≤i.bytes) (hm0:m≠[]):
  ∃X' y,(Builtin.append_ #[t,u] ty #[.slice a L.length L.length,yv]).run P X.w=.ok y X'.w∧New X X'∧(∀b n,X'.g b=some n→b < X'.w.heap.size)∧Rel X' (.sl true sz (L++m)) y∧FreshOk F X.w.heap.size X' (.sl true sz (L++m)) y:=by
 have hA:Adds P X.w i.size m.length yv (rowCells sz m.length c'):=⟨hadd.len,by rw[his];exact hadd.first,by rw[his];exact bx _ _ _⟩
 have hmp:0 < m.length:=List.length_pos_iff.2 hm0
 have hform:∃c:Nat→Nat→Value,(∀ (i j:Nat) (r:List AV) (u:AV),L[i]? =some r→r[j]? =some u→Rel X u (c i j))∧∀w':World,w'.heap=X.w.heap→(Builtin.firstCells i.size L.length (.slice a L.length L.length)).run P w'=.ok (rowCells sz L.length c).toArray w':=by
  rcases n4 hrel with ⟨_,hl0⟩| ⟨b,off,cap,n,h,hg',hn,hc,c,c1,c2,c3⟩
  ·subst hl0
   refine⟨fun _ _=>undef,by simp,fun w' hw=> ?_⟩
   rw[his]
   cases a with
   |none=>simp[Builtin.firstCells,rowCells]
   |some a=>exact run_firstCells_some (P:=P) w' sz 0 a 0 0 _ (by simp[rowCells]) (fun j v hv=>by simp[rowCells] at hv)
  ·cases h
   refine⟨c,c3,fun w' hw=> ?_⟩
   have hcell:=uK (X:=X) c1 c2
   rw[his]
   refine run_firstCells_some (P:=P) w' sz L.length ⟨b,off,none⟩ L.length L.length _ (bx _ _ _) (fun j v hv=> ?_)
   rw[en]
   simp only[rowCells,List.getElem?_map,Option.map_eq_some_iff] at hv
   obtain⟨q,hq,rfl⟩:=hv
   obtain⟨hlt,he⟩:=List.getElem?_eq_some_iff.1 hq
   simp only[List.getElem_range] at he
   subst he
   simp only[List.length_range] at hlt
   rw[show w'.cell? ⟨b,off+j,none⟩=X.w.cell? ⟨b,off+j,none⟩ by simp only[World.cell?,hw]]
   exact hcell j hlt
 obtain⟨c,c3,hold⟩:=hform
 have hrun:=gc (P:=P) (ty:=ty) (sLen:=L.length) (sCap:=L.length) (a:=a) (olds:=rowCells sz L.length c) ht hu hnz hi hz hA hold (by omega) hfit hb
 have hcge:=grownCap_ge X.w (L.length+m.length) L.length e
 obtain⟨X',h1,h2,h3,h4,h5⟩:=uE (X:=X) (F:=F) (w':=X.w.drew.alloc (.cells ((rowCells sz L.length c).toArray++ (rowCells sz m.length c').toArray++Builtin.zeroCells zv.cells (grownCap X.w (L.length+m.length) L.length e - (L.length+m.length))) e)) (cap:=grownCap X.w (L.length+m.length) L.length e) (sz:=sz) (rows:=L++m) rfl rfl rfl rfl hgb hfb
  (fun r hr=>by
   rcases List.mem_append.1 hr with h|h
   ·exact hL r h
   ·exact hadd.rows r h)
  (by simp only[Array.size_append,size_zeroCells,List.size_toArray,bx,hzs];rw[← Nat.add_mul,← Nat.add_mul];congr 1;omega) (by simpa using hcge) (yK hL hadd.rows c3 hadd.rel) (fun j _ _=>by simp)
 refine⟨X',_,?_,h2,h3,h4,h5⟩
 rw[hrun,h1,List.length_append]
theorem zc{F:Nat→Prop}{X:GW}{t u ty e:TypeId}{tm:Array Value}{i:TypeInfo}{zv:Value}{du:TypeDesc}{sz:Nat}{L m:List (List AV)}{a:Option Addr}{yv:Value}{c':Nat→Nat→Value}(hs:SimE F X σ tm)(ht:P.underlying t=some (.slice e))(hu:P.underlying u=some du)(hnz:du=.string∨∃e',du=.slice e')(hi:P.info? e=some i)(hz:i.zero=some zv)(hzs:zv.cells.size=sz)(his:i.size=sz)
  (hrel:Rel X (.sl false sz L) (.slice a L.length L.length)) (hL:∀r∈L,r.length=sz) (hadd:AddsA P X sz m yv c') (hfit:(L.length+m.length) * i.bytes≤140737488355328) (hb:1≤i.bytes) (hm0:m≠[]):
  ∃X' y,(Builtin.append_ #[t,u] ty #[.slice a L.length L.length,yv]).run P X.w=.ok y X'.w∧Appended F X X' σ tm sz (L++m) y:=
 let ⟨X',y,h1,h2,h3,h4,h5⟩:=sh (F:=F) (ty:=ty) hs.gb hs.fb ht hu hnz hi hz hzs his hrel hL hadd hfit hb hm0
 ⟨X',y,h1,pH hs h2 h3 h4 h5⟩
theorem zC{t u ty e:TypeId}{x y:Operand}{pos:String}{af:Array Edge}{g:Option (Nat × Bool)}{sz by_:Nat}{L m:List (List AV)}{du:TypeDesc}(hx:opV σ x=some (.cl sz L))(ht:look T.ty t=some (.slice e))(hu:look T.ty u=some du)(hnz:du=.string∨∃e',du=.slice e')(hz:look T.sz e=some (sz,by_))(hb:Nat.ble 1 by_=true)
  (hadd:∀F X (a:Act),SimE F X σ a.tmps→∃c,AddsA P X sz m (a.eval y) c) (hfit:(L.length+m.length) * by_≤140737488355328) (hm0:m≠[]) (hd:Nat.ble (d+1) σ.n=true) {R:AS→Prop} (hR:R (σ.dropC.put d (.sl true sz (L++m)))):
  cy P ⟨some d,.call { callee:=.builtin .append,args:= #[x,y],argTypes:= #[t,u] },ty,pos,af,g⟩ σ R:=by
 intro F X a hs
 obtain⟨i,hi1,hi2,hi3,zv,hi4,hi5⟩:=T.szOk _ _ _ hz
 obtain⟨c',hadd⟩:=hadd F X a hs
 have hs1:=hs.dropC
 have hrel:=bt hs hx
 generalize hxv:a.eval x=xv at hrel
 cases hrel with
 |cl _ _ ad n hr=>
  have hn:n=L.length:=by
   obtain⟨a1,c1,h1⟩:=gy hr
   cases h1;rfl
  subst hn
  obtain⟨X',yv,hrun,happ⟩:=zc (P:=P) (ty:=ty) hs1 (T.tyOk _ _ ht) (T.tyOk _ _ hu) hnz hi1 hi4 hi5 hi2 hr (p7 hr) hadd (by rw[hi3];exact hfit) (by rw[hi3];exact Nat.le_of_ble_eq_true hb) hm0
  refine ci (x:=yv) (w':=X'.w) (cb hxv rfl hrun) ⟨X',_,rfl,hR,?_,happ.ext⟩
  exact happ.sim.put' (ba hd) happ.rel (fun sz' l' h=>by cases h;exact happ.own) (fun r' sz' l' sz2 l2 q n c q' n' c' h1 _ h2 h3=>happ.apart r' sz' l' q n c q' n' c' h1 h2 h3)
theorem su{t ty e:TypeId}{pos:String}{af:Array Edge}{g:Option (Nat × Bool)}{dd:Option Tmp}{sz by_:Nat}(ht:look T.ty t=some (.slice e))(hz:look T.sz e=some (sz,by_)):OpV P ⟨dd,.buildSlice t 0 #[],ty,pos,af,g⟩ σ (.cl sz []):=by
 intro F X a hs
 obtain⟨i,hi1,hi2,hi3,zv,hi4,hi5⟩:=T.szOk _ _ _ hz
 have hw:(execOp a.eval ⟨dd,.buildSlice t 0 #[],ty,pos,af,g⟩).run P X.w=.ok (.value (.slice (some ⟨X.w.heap.size,0,none⟩) 0 0)) { X.w with heap:=X.w.heap.push (.cells #[] e) }:=by
  simp only[execOp]
  refine aW ?_
  simp[Instr.buildSlice,run_underlying (T.tyOk _ _ ht),sizeOf,typeInfo,hi1,zeroValue,hi4,newRow,newObj,Sem.run,Instr.fill,show Array.range 0= #[] from rfl]
 have hn:New X ⟨{ X.w with heap:=X.w.heap.push (.cells #[] e) },X.g⟩:=⟨rfl,rfl,rfl,by show X.w.heap.size≤(X.w.heap.push _).size;simp,fun b hb=>⟨by show(X.w.heap.push _)[b]? =_;rw[Array.getElem?_push,if_neg (by omega)],rfl⟩⟩
 refine ci hw ⟨⟨_,X.g⟩,rfl,hn,fun b n hb=> ?_,.cl _ _ _ _ (.nl _ _ _ _),FreshOk.plain rfl⟩
 have:=hs.gb b n hb
 show b < (X.w.heap.push _).size
 simp;omega
theorem Au{F:Nat→Prop}{X:GW}{op:Op}{a:Act}{y:Operand}{v:AV}(hs:SimR F X σ op a.tmps)(hm:y∈op.operands.toList)(hy:opV σ y=some v):∃σ',SimE F X σ' a.tmps∧opV σ' y=some v.rd:=by
 have hx:=co hs hm hy
 have key:∀ (t:Nat) (u:AV),cw (some u.rd)=none:=fun t u=>by cases u<;> rfl
 have mk:∀ (l:List (Nat × AV)),(∀t u,look l t=some u→Rel X u (a.tmps.getD t undef)∧cw (some u)=none)→SimE F X ⟨a.tmps.size,l,[],[]⟩ a.tmps:=fun l hl=>by
  have hno:∀r sz L,AS.own ⟨a.tmps.size,l,[],[]⟩ r≠some (sz,L):=fun r sz L ho=>by
   cases r with
   |s t=>
    simp only[AS.own] at ho
    cases hlk:look l t with
    |none=>rw[hlk] at ho;cases ho
    |some u=>rw[hlk,(hl t u hlk).2] at ho;cases ho
   |c k o=>simp only[AS.own,av] at ho;cases ho
  exact⟨⟨rfl,hs.gb,hs.fb,fun t u hu=>(hl t u hu).1,(fun k cs hk=>by simp[av] at hk),(fun x r hx=>by simp[av] at hx),(fun r sz l ho=>absurd ho (hno r sz l)),(fun r r' sz l sz' l' a n c a' n' c' _ ho=>absurd ho (hno r sz l))⟩,(fun p hp=>by cases hp)⟩
 cases y with
 |tmp t=>
  refine⟨⟨a.tmps.size,[(t,v.rd)],[],[]⟩,mk _ fun t' u hu=> ?_,by simp[opV,ab]⟩
  simp only[ab,av] at hu
  split at hu
  ·rename_i e;subst e;cases hu
   exact⟨hx.rd,key 0 v⟩
  ·cases hu
 |const c=>
  refine⟨⟨a.tmps.size,[],[],[]⟩,mk _ (fun t' u hu=>by simp[av] at hu),?_⟩
  simp only[opV] at hy ⊢
  cases hy
  cases c<;> rfl
 |func f=>exact⟨⟨a.tmps.size,[],[],[]⟩,mk _ (fun t' u hu=>by simp[av] at hu),by simp only[opV] at hy ⊢;cases hy;rfl⟩
 |global f=>exact⟨⟨a.tmps.size,[],[],[]⟩,mk _ (fun t' u hu=>by simp[av] at hu),by simp only[opV] at hy ⊢;cases hy;rfl⟩
theorem HG(sz:Nat)(v:AV):Cf sz v.rd=Cf sz v:=by cases v<;> rfl
theorem zE{t u ty e:TypeId}{x y:Operand}{pos:String}{af:Array Edge}{g:Option (Nat × Bool)}{sz by_:Nat}{L m:List (List AV)}{du:TypeDesc}{v:AV}{S:Prop}(hx:opV σ x=some (.cl sz L))(ht:look T.ty t=some (.slice e))(hu:look T.ty u=some du)(hnz:du=.string∨∃e',du=.slice e')(hz:look T.sz e=some (sz,by_))(hb:Nat.ble 1 by_=true)
  (hy:opV σ y=some v) (hm:Cf sz v=some (m,S)) (hS:S) (hfit:(L.length+m.length) * by_≤140737488355328) (hm0:m≠[]):
  OpV P ⟨some d,.call { callee:=.builtin .append,args:= #[x,y],argTypes:= #[t,u] },ty,pos,af,g⟩ σ (.sl true sz (L++m)):=by
 intro F X a hs
 obtain⟨i,hi1,hi2,hi3,zv,hi4,hi5⟩:=T.szOk _ _ _ hz
 obtain⟨σ',hs',hy'⟩:=Au hs (y:=y) (by simp[Op.operands,Call.operands]) hy
 obtain⟨c',hadd⟩:=rx (P:=P) hy' (by rw[HG];exact hm) hS F X a hs'
 have hrel:=co hs (by simp[Op.operands,Call.operands]) hx
 generalize hxv:a.eval x=xv at hrel
 cases hrel with
 |cl _ _ ad n hr=>
  have hn:n=L.length:=by
   obtain⟨a1,c1,h1⟩:=gy hr
   cases h1;rfl
  subst hn
  obtain⟨X',yv,hrun,hnew,hgb,hrl,hfo⟩:=sh (P:=P) (ty:=ty) (F:=F) hs.gb hs.fb (T.tyOk _ _ ht) (T.tyOk _ _ hu) hnz hi1 hi4 hi5 hi2 hr (p7 hr) hadd (by rw[hi3];exact hfit) (by rw[hi3];exact Nat.le_of_ble_eq_true hb) hm0
  exact ci (x:=yv) (w':=X'.w) (cb hxv rfl hrun) ⟨X',rfl,hnew,hgb,hrl,hfo⟩
theorem zm{t u ty e:TypeId}{x y:Operand}{pos:String}{af:Array Edge}{g:Option (Nat × Bool)}{sz by_:Nat}{L:List (List AV)}{du:TypeDesc}{v:AV}{S:Prop}(hx:opV σ x=some (.cl sz L))(ht:look T.ty t=some (.slice e))(hu:look T.ty u=some du)(hnz:du=.string∨∃e',du=.slice e')(hz:look T.sz e=some (sz,by_))
  (hy:opV σ y=some v) (hm:Cf sz v=some ([],S)) (hS:S):
  OpV P ⟨some d,.call { callee:=.builtin .append,args:= #[x,y],argTypes:= #[t,u] },ty,pos,af,g⟩ σ (.cl sz L):=by
 intro F X a hs
 obtain⟨i,hi1,hi2,hi3,zv,hi4,hi5⟩:=T.szOk _ _ _ hz
 obtain⟨σ',hs',hy'⟩:=Au hs (y:=y) (by simp[Op.operands,Call.operands]) hy
 obtain⟨c',hadd⟩:=rx (P:=P) hy' (by rw[HG];exact hm) hS F X a hs'
 have hrel:=co hs (by simp[Op.operands,Call.operands]) hx
 have hrun:(Builtin.append_ #[t,u] ty #[a.eval x,a.eval y]).run P X.w=.ok (a.eval x) X.w:=by
  generalize a.eval x=xv at hrel
  cases hrel with
  |cl _ _ ad n hr=>
   have hl:=hadd.len
   have hf:=hadd.first X.w rfl
   have hrc:rowCells sz ([] :List (List AV)).length c'=[] :=by simp[rowCells]
   rw[hrc] at hf
   simp only[List.length_nil] at hl hf
   have hu':=T.tyOk _ _ hu
   have ht':=T.tyOk _ _ ht
   rcases hnz with rfl| ⟨e',rfl⟩<;> simp[Builtin.append_,run_underlying ht',run_underlying hu',sizeOf,typeInfo,hi1,hi2,hl,hf]
   all_goals cases ad<;> simp[hf,storeCells]
 exact ci (cb rfl rfl hrun) ⟨X,rfl,New.refl X,hs.gb,hrel,FreshOk.plain rfl⟩
end
end Go.Proofs.YtobacplonkjigaaDoor
