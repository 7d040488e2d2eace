import Derived.Test.YtobacplonkjigaaDoorBk03
import Derived.Lib.SliceRun
set_option linter.unusedSimpArgs false
set_option linter.unusedVariables false
namespace Go.Proofs.YtobacplonkjigaaDoor
open Go.RowKit P
inductive Tree (L:Type):Type 1 where
 |leaf (x:L)
 |cond (b:Bool) (t f:Tree L)
 |bnd {α:Type} (o:Option α) (k:α→Tree L)
 |sm {α:Type} (x:PR α) (k:α→Tree L) (p:Value→Tree L)
 |nl {α:Type} (l:List α) (t f:Tree L)
 |fail
def Tree.holds{L:Type}(K:L→Prop):Tree L→Prop
 |.leaf x=>K x
 |.cond b t f=>(b=true→t.holds K)∧(b=false→f.holds K)
 |.bnd o k=>∃z,o=some z∧(k z).holds K
 |.sm x k p=>(∀z,x=.ok z→(k z).holds K)∧∀v,x=.pan v→(p v).holds K
 |.nl l t f=>(l=[] →t.holds K)∧f.holds K
 |.fail=>False
def Tree.bind{L M:Type}(f:L→Tree M):Tree L→Tree M
 |.leaf x=>f x
 |.cond b s t=>.cond b (s.bind f) (t.bind f)
 |.bnd o k=>.bnd o fun z=>(k z).bind f
 |.sm x k p=>.sm x (fun z=>(k z).bind f) fun v=>(p v).bind f
 |.nl l s t=>.nl l (s.bind f) (t.bind f)
 |.fail=>.fail
theorem bo{L M:Type}{f:L→Tree M}{K:M→Prop}:∀ {t:Tree L},(t.bind f).holds K→t.holds fun x=>(f x).holds K
 |.leaf x,h=>h
 |.cond b s t,h=>⟨fun e=>bo (h.1 e),fun e=>bo (h.2 e)⟩
 |.bnd o k,⟨z,h1,h2⟩=>⟨z,h1,bo h2⟩
 |.sm x k p,h=>⟨fun z e=>bo (h.1 z e),fun v e=>bo (h.2 v e)⟩
 |.nl l s t,h=>⟨fun e=>bo (h.1 e),bo h.2⟩
 |.fail,h=>h
theorem Tree.holds.mono{L:Type}{K K':L→Prop}(hk:∀x,K x→K' x):∀ {t:Tree L},t.holds K→t.holds K'
 |.leaf x,h=>hk x h
 |.cond b s t,h=>⟨fun e=>(h.1 e).mono hk,fun e=>(h.2 e).mono hk⟩
 |.bnd o k,⟨z,h1,h2⟩=>⟨z,h1,h2.mono hk⟩
 |.sm x k p,h=>⟨fun z e=>(h.1 z e).mono hk,fun v e=>(h.2 v e).mono hk⟩
 |.nl l s t,h=>⟨fun e=>(h.1 e).mono hk,h.2.mono hk⟩
 |.fail,h=>h
def LeV(u u':AV):Prop:=Le1 u u'∨((∀X v,Rel X u v→Rel X u' v)∧cw (some u')=none)
theorem LeV.rel{u u':AV}(h:LeV u u'){X:GW}{v:Value}(hr:Rel X u v):Rel X u' v:=by
 rcases h with h|h
 ·exact h.rel hr
 ·exact h.1 X v hr
theorem SimE.le3{F:Nat→Prop}{X:GW}{σ σ':AS}{tm:Array Value}(h:SimE F X σ tm)(hn:σ'.n=σ.n)(ht:∀t u',look σ'.t t=some u'→∃u,look σ.t t=some u∧LeV u u')(hh:∀k cs',look σ'.h k=some cs'→∃cs,look σ.h k=some cs∧LeL cs cs')(he:∀p∈σ'.e,p∈σ.e):SimE F X σ' tm:=by
 have heq:lM σ'.e tm X.w:=fun p hp=>h.eqm p (he p hp)
 refine⟨h.toSim.reown hn (fun t u hu=> ?_) (fun k cs hk=> ?_) heq.look id (fun r sz l ho=> ?_) (fun _ _ hne _ _=>hne),heq⟩
 ·obtain⟨u0,h1,h2⟩:=ht t u hu
  exact h2.rel (h.slot t u0 h1)
 ·obtain⟨cs0,h1,h2⟩:=hh k cs hk
  rcases h.box k cs0 h1 with ⟨_,b1,b2,arr,e,fr,b3,b4,b5,b6⟩| ⟨l,rfl,hmk⟩
  case inr=>
   cases h2 with
   |cons hu hr=>
    cases hr
    cases hu
    exact .inr ⟨l,rfl,hmk⟩
  refine eg.box ⟨b1,b2,arr,e,fr,b3,by rw[b4];exact h2.length,b5,fun o u x hu hx=> ?_⟩
  obtain⟨u0,k1,k2⟩:=h2.get o u hu
  exact k2.rel (b6 o u0 x k1 hx)
 ·cases r with
  |s t=>
   simp only[AS.own] at ho
   cases hlk:look σ'.t t with
   |none=>rw[hlk] at ho;cases ho
   |some u=>
    rw[hlk] at ho
    obtain⟨u0,h1,h2⟩:=ht t u hlk
    rcases h2 with h2|h2
    ·rcases h2.own ho with h3| ⟨h3,h4⟩
     ·right;simp only[id,AS.own];rw[h1];exact⟨h3,trivial⟩
     ·left
      subst h3
      have:=h.slot t _ h1
      refine⟨?_,h4⟩
      simp only[rootV]
      generalize tm.getD t undef=y at this
      cases this;rfl
    ·rw[h2.2] at ho;cases ho
  |c k o=>
   simp only[AS.own] at ho
   cases hlk:look σ'.h k with
   |none=>rw[hlk] at ho;cases ho
   |some cs=>
    rw[hlk] at ho
    simp only at ho
    obtain⟨cs0,h1,h2⟩:=hh k cs hlk
    cases hc:cs[o]? with
    |none=>rw[hc] at ho;cases ho
    |some u=>
     rw[hc] at ho
     obtain⟨u0,k1,k2⟩:=h2.get o u hc
     rcases k2.own ho with h3| ⟨h3,h4⟩
     ·right;simp only[id,AS.own];rw[h1];simp only;rw[k1];exact⟨h3,trivial⟩
     ·left
      subst h3
      obtain⟨b1,b2,arr,e,fr,b3,b4,b5,b6⟩:=(h.box k cs0 h1).at k1 rfl
      have hlt:=(List.getElem?_eq_some_iff.1 k1).1
      have hx:arr[o]? =some arr[o] :=Array.getElem?_eq_getElem (by omega)
      have:=b6 o _ _ k1 hx
      refine⟨?_,h4⟩
      simp only[rootV,World.cell?,b3]
      rw[hx]
      generalize arr[o] =y at this
      cases this;rfl
theorem SimE.retell{F:Nat→Prop}{X:GW}{σ σ':AS}{tm:Array Value}(h:SimE F X σ tm)(hn:σ'.n=σ.n)(ht:∀t u',look σ'.t t=some u'→(∃u,look σ.t t=some u∧LeV u u')∨(Rel X u' (tm.getD t undef)∧cw (some u')=none))(hh:∀k cs',look σ'.h k=some cs'→(∃cs,look σ.h k=some cs∧LeL cs cs')∨(eI F X k cs'∧fM cs'))(he:∀p∈σ'.e,p∈σ.e):SimE F X σ' tm:=by
 have heq:lM σ'.e tm X.w:=fun p hp=>h.eqm p (he p hp)
 have hbox:∀k cs cs0,look σ.h k=some cs0→LeL cs0 cs→eI F X k cs:=fun k cs cs0 h1 h2=>by
  rcases h.box k cs0 h1 with ⟨_,b1,b2,arr,e,fr,b3,b4,b5,b6⟩| ⟨l,rfl,hmk⟩
  case inr=>
   cases h2 with
   |cons hu hr=>
    cases hr
    cases hu
    exact .inr ⟨l,rfl,hmk⟩
  refine eg.box ⟨b1,b2,arr,e,fr,b3,by rw[b4];exact h2.length,b5,fun o u x hu hx=> ?_⟩
  obtain⟨u0,k1,k2⟩:=h2.get o u hu
  exact k2.rel (b6 o u0 x k1 hx)
 refine⟨h.toSim.reown hn (fun t u hu=> ?_) (fun k cs hk=> ?_) heq.look id (fun r sz l ho=> ?_) (fun _ _ hne _ _=>hne),heq⟩
 ·rcases ht t u hu with ⟨u0,h1,h2⟩| ⟨h1,_⟩
  ·exact h2.rel (h.slot t u0 h1)
  ·exact h1
 ·rcases hh k cs hk with ⟨cs0,h1,h2⟩| ⟨h1,_⟩
  ·exact hbox k cs cs0 h1 h2
  ·exact h1
 ·cases r with
  |s t=>
   simp only[AS.own] at ho
   cases hlk:look σ'.t t with
   |none=>rw[hlk] at ho;cases ho
   |some u=>
    rw[hlk] at ho
    rcases ht t u hlk with ⟨u0,h1,h2⟩| ⟨_,h2⟩
    ·rcases h2 with h2|h2
     ·rcases h2.own ho with h3| ⟨h3,h4⟩
      ·right;simp only[id,AS.own];rw[h1];exact⟨h3,trivial⟩
      ·left
       subst h3
       have:=h.slot t _ h1
       refine⟨?_,h4⟩
       simp only[rootV]
       generalize tm.getD t undef=y at this
       cases this;rfl
     ·rw[h2.2] at ho;cases ho
    ·rw[h2] at ho;cases ho
  |c k o=>
   simp only[AS.own] at ho
   cases hlk:look σ'.h k with
   |none=>rw[hlk] at ho;cases ho
   |some cs=>
    rw[hlk] at ho
    simp only at ho
    cases hc:cs[o]? with
    |none=>rw[hc] at ho;cases ho
    |some u=>
     rw[hc] at ho
     rcases hh k cs hlk with ⟨cs0,h1,h2⟩| ⟨_,h2⟩
     ·obtain⟨u0,k1,k2⟩:=h2.get o u hc
      rcases k2.own ho with h3| ⟨h3,h4⟩
      ·right;simp only[id,AS.own];rw[h1];simp only;rw[k1];exact⟨h3,trivial⟩
      ·left
       subst h3
       obtain⟨b1,b2,arr,e,fr,b3,b4,b5,b6⟩:=(h.box k cs0 h1).at k1 rfl
       have hlt:=(List.getElem?_eq_some_iff.1 k1).1
       have hx:arr[o]? =some arr[o] :=Array.getElem?_eq_getElem (by omega)
       have:=b6 o _ _ k1 hx
       refine⟨?_,h4⟩
       simp only[rootV,World.cell?,b3]
       rw[hx]
       generalize arr[o] =y at this
       cases this;rfl
     ·rw[h2 u (List.mem_of_getElem? hc)] at ho;cases ho
theorem SimE.rebox{F:Nat→Prop}{X:GW}{σ σ':AS}{tm:Array Value}(h:SimE F X σ tm)(hn:σ'.n=σ.n)(ht:∀t u',look σ'.t t=some u'→∃u,look σ.t t=some u∧LeV u u')(hh:∀k cs',look σ'.h k=some cs'→(∃cs,look σ.h k=some cs∧LeL cs cs')∨(eI F X k cs'∧fM cs'))(he:∀p∈σ'.e,p∈σ.e):SimE F X σ' tm:=
 h.retell hn (fun t u' hu=>.inl (ht t u' hu)) hh he
theorem SimE.le2{F:Nat→Prop}{X:GW}{σ σ':AS}{tm:Array Value}(h:SimE F X σ tm)(hn:σ'.n=σ.n)(ht:∀t u',look σ'.t t=some u'→∃u,look σ.t t=some u∧Le1 u u')(hh:∀k cs',look σ'.h k=some cs'→∃cs,look σ.h k=some cs∧LeL cs cs')(he:∀p∈σ'.e,p∈σ.e):SimE F X σ' tm:=
 h.le3 hn (fun t u' hu=>let ⟨u,h1,h2⟩:=ht t u' hu;⟨u,h1,.inl h2⟩) hh he
theorem ai.args{P:Program}{f:FuncId}{us us':List AV}{H:List (Nat × List AV)}{post:AOut→List (Nat × List AV)→Prop}(hl:us.length=us'.length)(hr:∀ (i:Nat) u u',us[i]? =some u→us'[i]? =some u'→LeV u u')(h:ai P f us' H post):ai P f us H post:=by
 refine⟨h.1,fun F X vs hs=>h.2 F X vs ?_⟩
 refine hs.le3 hl.symm (fun t u' hu=> ?_) (fun k cs' hk=>⟨cs',hk,LeL.refl _⟩) (fun p hp=>hp)
 obtain⟨_,h2⟩:=cY us' 0 t u' hu
 have hlt:=(List.getElem?_eq_some_iff.1 h2).1
 have hlt':t < us.length:=by omega
 have e:us[t]? =some us[t] :=List.getElem?_eq_getElem hlt'
 refine⟨us[t],?_,hr t _ _ e h2⟩
 have key:∀ (us:List AV) (k t:Nat) (u:AV),us[t]? =some u→look (slotsOf k us) (k+t)=some u:=by
  intro us
  induction us with
  |nil=>intro k t u h;simp at h
  |cons a us ih=>
   intro k t u h
   simp only[slotsOf,ab]
   cases t with
   |zero=>simp at h;subst h;simp
   |succ t=>
    rw[if_neg (by omega),show k+ (t+1)=(k+1)+t by omega]
    exact ih (k+1) t u (by simpa using h)
 simpa using key us 0 t _ e
section
variable {E:Env} {ρ:Rn}
def TS.rootT{T:Nat→Type}(σ:TS T)(s:Nat):Option Root:=match look σ.t s with
 |some (.a (.own _ _))=>some (.s s)
 |some (.a (.d (.sl _) _))=>look σ.e s
 |_=>none
theorem t6{σ:TS E.T}{s:Nat}{r:Root}(h:σ.rootT s=some r):kI (σ.to E.toEnc ρ) s=some (r.to ρ):=by
 unfold TS.rootT at h
 unfold kI
 split at h
 ·rename_i t l hl;cases h;simp only[TS.to,bD,hl];rfl
 ·rename_i t l hl;simp only[TS.to,bD,hl,Dq,h];rfl
 ·cases h
theorem Gn{σ:TS E.T}{s:Nat}(h:σ.rootT s=none){u:TV E.T}(hu:look σ.t s=some u):kI (σ.to E.toEnc ρ) s=none∨∃v,u=.a (.raw v):=by
 unfold TS.rootT at h
 unfold kI
 rw[hu] at h
 simp only[TS.to,bD,hu,Dq]
 cases u with
 |a x=>
  cases x with
  |d t x=>
   cases t with
   |sl t=>left;show Option.map (Root.to ρ) (look σ.e s)=none;rw[show look σ.e s=none from h];rfl
   |ptr t=>left;cases x<;> rfl
   |_=>left;rfl
  |own t l=>cases h
  |raw v=>right;exact⟨v,rfl⟩
  |_=>left;rfl
 |_=>left;rfl
def TS.mvT{T:Nat→Type}(σ:TS T)(d s:Nat)(u:TV T):TS T:=match σ.rootT s with
 |some r=>match r.in d with
  |true=>σ.put d u.rd
  |false=>(σ.put d u.rd).alias d r
 |none=>σ.put d u.rd
theorem Kg{σ:TS E.T}{d s:Nat}{u:TV E.T}(hu:look σ.t s=some u)(hr:∀v,u≠.a (.raw v)):(σ.to E.toEnc ρ).mv d s (u.to E.toEnc ρ)=(σ.mvT d s u).to E.toEnc ρ:=by
 unfold AS.mv TS.mvT
 cases h:σ.rootT s with
 |none=>
  rcases Gn (ρ:=ρ) h hu with h1| ⟨v,h1⟩
  ·rw[h1];simp only[ce,TV.rd_to]
  ·exact absurd h1 (hr v)
 |some r=>
  rw[t6 h]
  simp only[B2]
  cases r.in d
  ·simp only[DD,ce,TV.rd_to]
  ·simp only[ce,TV.rd_to]
theorem Rk{T:Nat→Type}(σ:TS T)(d s:Nat)(u:TV T):(σ.mvT d s u).h=σ.h:=by
 unfold TS.mvT
 split
 ·split<;> rfl
 ·rfl
def ng(d:Nat):List (Nat × Root)→Option Nat
 | [] =>none
 | (x,.s t)::r=>match Nat.beq t d,Nat.beq x d with|true,false=>some x|_,_=>ng d r
 | (_,.c _ _)::r=>ng d r
theorem qM(d:Nat):∀ (e:List (Nat × Root)),kB d (eTo ρ e)=ng d e
 | [] =>rfl
 | (x,.s t)::r=>by
   have:=qM d r
   show(match Nat.beq t d,Nat.beq x d with|true,false=>some x|_,_=>kB d (eTo ρ r))=(match Nat.beq t d,Nat.beq x d with|true,false=>some x|_,_=>ng d r)
   rw[this]
 | (x,.c k o)::r=>qM d r
def TS.freeT{T:Nat→Type}(σ:TS T)(d:Nat):TS T:=match ng d σ.e with
 |some x=>σ.hand x d
 |none=>σ
theorem sn{σ:AS}{x:Nat}{r:Root}(h:σ.own r=none):σ.hand x r=σ:=by unfold AS.hand;rw[h]
theorem Kq(σ:TS E.T)(x t:Nat)(hr:∀v,look σ.t t≠some (.a (.raw v))):(σ.hand x t).to E.toEnc ρ=(σ.to E.toEnc ρ).hand x (.s t):=by
 by_cases h:∃ty l,look σ.t t=some (.a (.own ty l))
 ·obtain⟨ty,l,hl⟩:=h
  exact Ij σ hl
 ·have h1:σ.hand x t=σ:=by
   unfold TS.hand
   split
   ·rename_i ty l hl;exact absurd ⟨ty,l,hl⟩ h
   ·rfl
  rw[h1,sn]
  simp only[AS.own,TS.to,bD]
  cases hl:look σ.t t with
  |none=>rfl
  |some u=>
   cases u with
   |a x=>
    cases x with
    |d t x=>exact vA _ _ _
    |own t l=>exact absurd ⟨t,l,hl⟩ h
    |raw v=>exact absurd hl (hr v)
    |_=>rfl
   |_=>rfl
theorem PD{T:Nat→Type}(σ:TS T)(d:Nat):(σ.freeT d).h=σ.h:=by
 unfold TS.freeT
 split
 ·unfold TS.hand;split<;> rfl
 ·rfl
theorem LO{σ:AS}{x t:Nat}{v:Value}(h:look σ.t t=some (.v v)):σ.hand x (.s t)=σ:=sn (by simp only[AS.own,h];rfl)
theorem DB(σ:TS E.T)(d:Nat):(σ.freeT d).to E.toEnc ρ=(σ.to E.toEnc ρ).free d:=by
 unfold TS.freeT AS.free
 have:kB d (σ.to E.toEnc ρ).e=ng d σ.e:=qM d σ.e
 rw[this]
 cases hx:ng d σ.e with
 |some x=>
  simp only
  by_cases hr:∃v,look σ.t d=some (.a (.raw v))
  ·obtain⟨v,hv⟩:=hr
   have h1:σ.hand x d=σ:=by unfold TS.hand;rw[hv]
   rw[h1]
   exact(LO (v:=v) (by simp only[TS.to,bD,hv];rfl)).symm
  ·exact Kq σ x d fun v hv=>hr ⟨v,hv⟩
 |none=>rfl
def lm(e:List (Nat × Root)):List (Nat × Root):=e.filter fun p=>match p.2 with|.s _=>true|.c _ _=>false
theorem iC(e:List (Nat × Root)):(eTo ρ e).filter (fun p=>match p.2 with|.s _=>true|.c _ _=>false)=eTo ρ (lm e):=by
 unfold eTo lm
 rw[List.filter_map]
 congr 1
 apply List.filter_congr
 intro p _
 obtain⟨a,b⟩:=p
 cases b<;> rfl
def TS.dropC{T:Nat→Type}(σ:TS T):TS T:={ n:=σ.n,t:=σ.t,h:=σ.h,e:=lm σ.e }
theorem uD(σ:TS E.T):σ.dropC.to E.toEnc ρ=(σ.to E.toEnc ρ).dropC:=congrArg (AS.mk _ _ _) (iC σ.e).symm
def TS.setc{T:Nat→Type}(σ:TS T)(k:Nat)(cs:List (TA T)):TS T:={ n:=σ.n,t:=σ.t,h:=(k,.cs cs)::σ.h,e:=lm σ.e }
theorem wT(σ:TS E.T)(k:Nat)(cs:List (TA E.T)):(σ.setc k cs).to E.toEnc ρ=(σ.to E.toEnc ρ).setc (ρ k) (cs.map (TA.to E.toEnc ρ)):=congrArg (AS.mk _ _ _) (iC σ.e).symm
theorem kJ{T:Nat→Type}{h:List (Nat × TB T)}{k:Nat}{b b':TB T}(hi:Inj ρ h)(hb:look h k=some b)(hl:a8 ρ b=a8 ρ b'):Inj ρ ((k,b')::h):=hi.sub fun p hp=>by
 rcases List.mem_cons.1 hp with rfl|hp
 ·exact⟨_,cI hb,rfl,hl⟩
 ·exact⟨p,hp,rfl,rfl⟩
def TA.noId{T:Nat→Type}(d:Nat):TA T→Bool
 |.box i _=> !Nat.beq i d
 |.mpr i=> !Nat.beq i d
 |.fnb _ l=>l.all fun i=> !Nat.beq i d
 |.bsl i _ _ _=> !Nat.beq i d
 |.vec _ i _=> !Nat.beq i d
 |.pel _ i _ _=> !Nat.beq i d
 |.vsl _ i _ _=> !Nat.beq i d
 |_=>true
def TC.noId{T:Nat→Type}(d:Nat):TC T→Bool
 |.a x=>x.noId d
 |.ag l=>l.all (TA.noId d)
def TV.noId{T:Nat→Type}(d:Nat):TV T→Bool
 |.a x=>x.noId d
 |.ag l=>l.all (TA.noId d)
 |.el l=>l.all (TA.noId d)
 |.tu l=>l.all (TC.noId d)
 |.fn _ l=>l.all (TA.noId d)
 |.ifc _ x=>x.noId d
def TB.noId{T:Nat→Type}(d:Nat):TB T→Bool
 |.cs l=>l.all (TA.noId d)
 |.smap _ _=>true
 |.imap _ _=>true
 |.row _ _=>true
 |.vec i _ _=> !Nat.beq i d
def Root.noId(d:Nat):Root→Bool
 |.s _=>true
 |.c k _=> !Nat.beq k d
def TS.noId{T:Nat→Type}(d:Nat)(σ:TS T):Bool:=σ.t.all (fun p=>p.2.noId d) && σ.h.all (fun p=> !Nat.beq p.1 d && p.2.noId d) && σ.e.all fun p=>p.2.noId d
def dA(ρ:Rn)(d:Nat)(x:Bk):Rn:=⟨fun i=>if i=d then x else ρ.k i⟩
abbrev upd(ρ:Rn)(d k:Nat):Rn:=dA ρ d ⟨k,false,[]⟩
theorem ua{d:Nat}{x:Bk}{i:Nat}(h:(!Nat.beq i d)=true):(dA ρ d x).k i=ρ.k i:=by
 unfold dA
 simp only
 rw[if_neg]
 rintro rfl
 rw[Nat.beq_refl] at h;cases h
theorem lK{d:Nat}{x:Bk}{i:Nat}(h:(!Nat.beq i d)=true):dA ρ d x i=ρ i:=by unfold Rn.b;rw[ua h]
theorem nU(ρ:Rn)(d:Nat)(x:Bk):(dA ρ d x).k d=x:=by unfold dA;exact if_pos rfl
theorem kO(ρ:Rn)(d:Nat)(x:Bk):dA ρ d x d=x.b:=by unfold Rn.b;rw[nU]
theorem TA.updB_to{d:Nat}{y:Bk}{x:TA E.T}(h:x.noId d=true):x.to E.toEnc (dA ρ d y)=x.to E.toEnc ρ:=by
 cases x with
 |box i o=>simp only[TA.to,lK (ρ:=ρ) (x:=y) h]
 |mpr i=>simp only[TA.to,lK (ρ:=ρ) (x:=y) h]
 |bsl i off n c=>simp only[TA.to,lK (ρ:=ρ) (x:=y) h]
 |vec t i n=>simp only[TA.to,ua (ρ:=ρ) (x:=y) h]
 |pel t i j o=>simp only[TA.to,lK (ρ:=ρ) (x:=y) h]
 |vsl t i off n=>simp only[TA.to,ua (ρ:=ρ) (x:=y) h]
 |fnb f l=>simp only[TA.to];rw[List.map_congr_left fun i hi=>by rw[lK (ρ:=ρ) (x:=y) (List.all_eq_true.1 h i hi)]]
 |_=>rfl
theorem ls{d:Nat}{y:Bk}{l:List (TA E.T)}(h:l.all (TA.noId d)=true):l.map (TA.to E.toEnc (dA ρ d y))=l.map (TA.to E.toEnc ρ):=
 List.map_congr_left fun x hx=>TA.updB_to (List.all_eq_true.1 h x hx)
theorem TC.updB_to{d:Nat}{y:Bk}{x:TC E.T}(h:x.noId d=true):x.to E.toEnc (dA ρ d y)=x.to E.toEnc ρ:=by
 cases x with
 |a x=>exact TA.updB_to h
 |ag l=>simp only[TC.to];rw[ls h]
theorem TV.updB_to{d:Nat}{y:Bk}{x:TV E.T}(h:x.noId d=true):x.to E.toEnc (dA ρ d y)=x.to E.toEnc ρ:=by
 cases x with
 |a x=>exact TA.updB_to h
 |ag l=>simp only[TV.to];rw[ls h]
 |el l=>simp only[TV.to];rw[ls h]
 |tu l=>simp only[TV.to];rw[List.map_congr_left fun x hx=>TC.updB_to (List.all_eq_true.1 h x hx)]
 |fn f l=>simp only[TV.to];rw[ls h]
 |ifc t x=>simp only[TV.to];rw[TC.updB_to h]
theorem TB.updB_to{d:Nat}{y:Bk}{x:TB E.T}(h:x.noId d=true):x.to E.toEnc (dA ρ d y)=x.to E.toEnc ρ:=by
 cases x with
 |cs l=>exact ls h
 |smap t l=>rfl
 |imap t l=>rfl
 |row t l=>rfl
 |vec i t l=>simp only[TB.to,ua (ρ:=ρ) (x:=y) h]
theorem sC{d:Nat}{y:Bk}{x:TB E.T}(h:x.noId d=true):a8 (dA ρ d y) x=a8 ρ x:=by
 cases x with
 |vec i t l=>simp only[a8,ua (ρ:=ρ) (x:=y) h]
 |_=>rfl
theorem E7{d:Nat}{y:Bk}:∀ {h:List (Nat × TB E.T)},(h.all fun p=> !Nat.beq p.1 d && p.2.noId d)=true→hTo E.toEnc (dA ρ d y) h=hTo E.toEnc ρ h
 | [],_=>rfl
 | (k,b)::r,h=>by
   simp only[List.all_cons,Bool.and_eq_true] at h
   obtain⟨⟨h1,h2⟩,h3⟩:=h
   have ih:=E7 (y:=y) (h:=r) (by simpa only[Bool.and_eq_true] using h3)
   cases hb:a8 ρ b with
   |true=>rw[dQ _ _ hb,dQ _ _ (by rw[sC h2];exact hb),ih,TB.updB_to h2,lK h1]
   |false=>rw[fH _ _ hb,fH _ _ (by rw[sC h2];exact hb),ih]
theorem TS.updB_to{d:Nat}{y:Bk}{σ:TS E.T}(h:σ.noId d=true):σ.to E.toEnc (dA ρ d y)=σ.to E.toEnc ρ:=by
 unfold TS.noId at h
 simp only[Bool.and_eq_true] at h
 obtain⟨⟨h1,h2⟩,h3⟩:=h
 unfold TS.to
 congr 1
 ·exact List.map_congr_left fun p hp=>by rw[TV.updB_to (List.all_eq_true.1 h1 p hp)]
 ·exact E7 h2
 ·exact List.map_congr_left fun p hp=>by
   have:=List.all_eq_true.1 h3 p hp
   obtain⟨a,b⟩:=p
   cases b with
   |s t=>rfl
   |c k o=>simp only[Root.to,lK (ρ:=ρ) this]
def TS.boxT{T:Nat→Type}(σ:TS T)(d:Nat)(cs:List (TA T)):TS T:={ n:=σ.n,t:=σ.t,h:=(d,.cs cs)::σ.h,e:=σ.e }
def TS.boxM{T:Nat→Type}(σ:TS T)(d:Nat)(t:Ty)(l:List (List UInt8 × Den T t)):TS T:={ n:=σ.n,t:=σ.t,h:=(d,.smap t l)::σ.h,e:=σ.e }
def TS.boxR{T:Nat→Type}(σ:TS T)(d:Nat)(t:Ty)(l:List (Den T t)):TS T:={ n:=σ.n,t:=σ.t,h:=(d,.row t l)::σ.h,e:=σ.e }
def TS.setr{T:Nat→Type}(σ:TS T)(k:Nat)(t:Ty)(l:List (Den T t)):TS T:={ n:=σ.n,t:=σ.t,h:=(k,.row t l)::σ.h,e:=lm σ.e }
def TS.setm{T:Nat→Type}(σ:TS T)(k:Nat)(t:Ty)(l:List (List UInt8 × Den T t)):TS T:={ n:=σ.n,t:=σ.t,h:=(k,.smap t l)::σ.h,e:=lm σ.e }
def TS.boxI{T:Nat→Type}(σ:TS T)(d:Nat)(t:Ty)(l:List (Int × Den T t)):TS T:={ n:=σ.n,t:=σ.t,h:=(d,.imap t l)::σ.h,e:=σ.e }
def TS.seti{T:Nat→Type}(σ:TS T)(k:Nat)(t:Ty)(l:List (Int × Den T t)):TS T:={ n:=σ.n,t:=σ.t,h:=(k,.imap t l)::σ.h,e:=lm σ.e }
theorem O5(σ:TS E.T)(k:Nat)(t:Ty)(l:List (Int × Den E.T t)):(σ.seti k t l).to E.toEnc ρ=(σ.to E.toEnc ρ).setc (ρ k) [imap (l.map fun p=>(p.1,one E.toEnc t p.2))] :=congrArg (AS.mk _ _ _) (iC σ.e).symm
theorem P4(σ:TS E.T)(k:Nat)(t:Ty)(l:List (List UInt8 × Den E.T t)):(σ.setm k t l).to E.toEnc ρ=(σ.to E.toEnc ρ).setc (ρ k) [smap (l.map fun p=>(p.1,one E.toEnc t p.2))] :=congrArg (AS.mk _ _ _) (iC σ.e).symm
theorem Iw(σ:TS E.T)(k:Nat)(t:Ty)(l:List (Den E.T t)):(σ.setr k t l).to E.toEnc ρ=(σ.to E.toEnc ρ).setc (ρ k) ((TB.row t l:TB E.T).to E.toEnc ρ):=congrArg (AS.mk _ _ _) (iC σ.e).symm
theorem iZ{σ:TS E.T}{d:Nat}{x:Bk}{b:TB E.T}(hi:Inj ρ σ.h)(hn:σ.noId d=true)(hk:a8 (dA ρ d x) b=true→gm x.b (σ.to E.toEnc ρ).h):Inj (dA ρ d x) ((d,b)::σ.h):=by
 unfold TS.noId at hn
 simp only[Bool.and_eq_true] at hn
 have h2:=List.all_eq_true.1 hn.1.2
 have hne:∀p∈σ.h,dA ρ d x p.1=ρ p.1∧a8 (dA ρ d x) p.2=a8 ρ p.2∧p.1≠d:=fun p hp=>by
  have:=h2 p hp
  simp only[Bool.and_eq_true] at this
  exact⟨lK this.1,sC this.2,fun e=>by rw[e,Nat.beq_refl] at this;cases this.1⟩
 have hfr:a8 (dA ρ d x) b=true→∀p∈σ.h,a8 ρ p.2=true→ρ p.1≠x.b:=fun hb p hp hl=>hk hb (ρ p.1,p.2.to E.toEnc ρ) (xb hp hl)
 intro p hp q hq
 rcases List.mem_cons.1 hp with rfl|hp
 ·rcases List.mem_cons.1 hq with rfl|hq
  ·exact⟨fun _ _ _=>rfl,fun _=>rfl⟩
  ·obtain⟨e1,e2,e3⟩:=hne q hq
   refine⟨fun l1 l2 e=> ?_,fun e=>absurd e.symm e3⟩
   rw[e2] at l2
   simp only[kO] at e
   rw[e1] at e;exact absurd e.symm (hfr l1 q hq l2)
 ·obtain⟨e1,e2,e3⟩:=hne p hp
  rcases List.mem_cons.1 hq with rfl|hq
  ·refine⟨fun l1 l2 e=> ?_,fun e=>absurd e e3⟩
   rw[e2] at l1
   simp only[kO] at e
   rw[e1] at e;exact absurd e (hfr l2 p hp l1)
  ·obtain⟨f1,f2,f3⟩:=hne q hq
   rw[e1,f1,e2,f2];exact hi p hp q hq
theorem C3{σ:TS E.T}{d k:Nat}{cs:List (TA E.T)}(hi:Inj ρ σ.h)(hn:σ.noId d=true)(hk:gm k (σ.to E.toEnc ρ).h):Inj (upd ρ d k) (σ.boxT d cs).h:=iZ hi hn fun _=>hk
def TS.newB{T:Nat→Type}(σ:TS T)(d:Nat)(b:TB T):TS T:={ n:=σ.n,t:=σ.t,h:=(d,b)::σ.h,e:=σ.e }
theorem pt{σ:TS E.T}{d:Nat}{x:Bk}{b:TB E.T}(hn:σ.noId d=true)(hl:a8 (dA ρ d x) b=true):(σ.newB d b).to E.toEnc (dA ρ d x)=(σ.to E.toEnc ρ).box x.b (b.to E.toEnc (dA ρ d x)):=by
 have h1:=TS.updB_to (ρ:=ρ) (y:=x) hn
 unfold TS.to at h1
 injection h1 with _ h2 h3 h4
 unfold TS.to TS.newB AS.box
 simp only[dQ _ _ hl,kO,h2,h3,h4]
def v7{T:Nat→Type}:List Ty→List Value→List (TA T)
 |.sl t::ts,.slice none 0 0::vs=>.own t [] ::v7 ts vs
 |_::ts,v::vs=>atomT v::v7 ts vs
 | [],vs=>vs.map atomT
 |_::_,[] =>[]
theorem zh:∀ (ts:List Ty) (vs:List Value),LeL (vs.map AV.v) ((v7 ts vs).map (TA.to E.toEnc ρ))
 | [],vs=>by
   simp only[v7,List.map_map]
   induction vs with
   |nil=>exact .nil
   |cons v vs ih=>exact .cons (by show Le1 (AV.v v) ((atomT v).to E.toEnc ρ);rw[tU];exact .refl _) ih
 |t::ts,[] =>by cases t<;> exact .nil
 |t::ts,v::vs=>by
  unfold v7
  split
  ·rename_i h1 h2;cases h1;cases h2;exact .cons (.nil _ _) (zh _ _)
  ·rename_i h1 h2;cases h1;cases h2;exact .cons (by rw[tU];exact .refl _) (zh _ _)
  ·rename_i h2;cases h2
  ·rename_i h2;cases h2
end
def wq{T:Nat→Type}:List Ty→List (TA T)→List (TA T)
 |.sl t::ts,.raw (.slice none 0 0)::vs=>.own t [] ::wq ts vs
 |_::ts,v::vs=>v::wq ts vs
 | [],vs=>vs
 |_::_,[] =>[]
theorem wP{E:Env}{ρ:Rn}:∀ (ts:List Ty) (vs:List (TA E.T)),LeL (vs.map (TA.to E.toEnc ρ)) ((wq ts vs).map (TA.to E.toEnc ρ))
 | [],vs=>by unfold wq;exact LeL.refl _
 |t::ts,[] =>by cases t<;> exact .nil
 |t::ts,v::vs=>by
  unfold wq
  split
  ·rename_i h1 h2;cases h1;cases h2;exact .cons (.nil _ _) (wP _ _)
  ·rename_i h1 h2;cases h1;cases h2;exact .cons (.refl _) (wP _ _)
  ·rename_i h2;cases h2
  ·rename_i h2;cases h2
def TA.ids{T:Nat→Type}(p:Nat→Bool):TA T→Bool
 |.box i _=>p i
 |.mpr i=>p i
 |.fnb _ l=>l.all p
 |.bsl i _ _ _=>p i
 |.vec _ i _=>p i
 |.pel _ i _ _=>p i
 |.vsl _ i _ _=>p i
 |_=>true
def TC.ids{T:Nat→Type}(p:Nat→Bool):TC T→Bool
 |.a x=>x.ids p
 |.ag l=>l.all (TA.ids p)
def TV.ids{T:Nat→Type}(p:Nat→Bool):TV T→Bool
 |.a x=>x.ids p
 |.ag l=>l.all (TA.ids p)
 |.el l=>l.all (TA.ids p)
 |.tu l=>l.all (TC.ids p)
 |.fn _ l=>l.all (TA.ids p)
 |.ifc _ x=>x.ids p
def TB.ids{T:Nat→Type}(p:Nat→Bool):TB T→Bool
 |.cs l=>l.all (TA.ids p)
 |.smap _ _=>true
 |.imap _ _=>true
 |.row _ _=>true
 |.vec i _ _=>p i
def sM{T:Nat→Type}(p:Nat→Bool)(h:List (Nat × TB T)):Bool:=h.all fun q=>p q.1 && q.2.ids p
section
variable {E:Env} {ρ ρ':Rn} {p:Nat→Bool}
theorem TA.ids_to(hp:∀i,p i=true→ρ'.k i=ρ.k i){x:TA E.T}(h:x.ids p=true):x.to E.toEnc ρ'=x.to E.toEnc ρ:=by
 have hb:∀i,p i=true→ρ' i=ρ i:=fun i hi=>by unfold Rn.b;rw[hp i hi]
 cases x with
 |box i o=>simp only[TA.to,hb i h]
 |mpr i=>simp only[TA.to,hb i h]
 |bsl i off n c=>simp only[TA.to,hb i h]
 |vec t i n=>simp only[TA.to,hp i h]
 |pel t i j o=>simp only[TA.to,hb i h]
 |vsl t i off n=>simp only[TA.to,hp i h]
 |fnb f l=>simp only[TA.to];rw[List.map_congr_left fun i hi=>by rw[hb i (List.all_eq_true.1 h i hi)]]
 |_=>rfl
theorem oL(hp:∀i,p i=true→ρ'.k i=ρ.k i){l:List (TA E.T)}(h:l.all (TA.ids p)=true):l.map (TA.to E.toEnc ρ')=l.map (TA.to E.toEnc ρ):=
 List.map_congr_left fun x hx=>TA.ids_to hp (List.all_eq_true.1 h x hx)
theorem TC.ids_to(hp:∀i,p i=true→ρ'.k i=ρ.k i){x:TC E.T}(h:x.ids p=true):x.to E.toEnc ρ'=x.to E.toEnc ρ:=by
 cases x with
 |a x=>exact TA.ids_to hp h
 |ag l=>simp only[TC.to];rw[oL hp h]
theorem TV.ids_to(hp:∀i,p i=true→ρ'.k i=ρ.k i){x:TV E.T}(h:x.ids p=true):x.to E.toEnc ρ'=x.to E.toEnc ρ:=by
 cases x with
 |a x=>exact TA.ids_to hp h
 |ag l=>simp only[TV.to];rw[oL hp h]
 |el l=>simp only[TV.to];rw[oL hp h]
 |tu l=>simp only[TV.to];rw[List.map_congr_left fun x hx=>TC.ids_to hp (List.all_eq_true.1 h x hx)]
 |fn f l=>simp only[TV.to];rw[oL hp h]
 |ifc t x=>simp only[TV.to];rw[TC.ids_to hp h]
theorem TB.ids_to(hp:∀i,p i=true→ρ'.k i=ρ.k i){x:TB E.T}(h:x.ids p=true):x.to E.toEnc ρ'=x.to E.toEnc ρ:=by
 cases x with
 |cs l=>exact oL hp h
 |smap t l=>rfl
 |imap t l=>rfl
 |row t l=>rfl
 |vec i t l=>simp only[TB.to,hp i h]
theorem vd(hp:∀i,p i=true→ρ'.k i=ρ.k i){x:TB E.T}(h:x.ids p=true):a8 ρ' x=a8 ρ x:=by
 cases x with
 |vec i t l=>simp only[a8,hp i h]
 |_=>rfl
theorem Cr(hp:∀i,p i=true→ρ'.k i=ρ.k i):∀ {h:List (Nat × TB E.T)},sM p h=true→hTo E.toEnc ρ' h=hTo E.toEnc ρ h
 | [],_=>rfl
 | (k,b)::r,hh=>by
   simp only[sM,List.all_cons,Bool.and_eq_true] at hh
   obtain⟨⟨h1,h2⟩,h3⟩:=hh
   have ih:=Cr hp (h:=r) (by simp only[sM,Bool.and_eq_true];exact h3)
   have hb:ρ' k=ρ k:=by unfold Rn.b;rw[hp k h1]
   cases hl:a8 ρ b with
   |true=>rw[dQ _ _ hl,dQ _ _ (by rw[vd hp h2];exact hl),ih,TB.ids_to hp h2,hb]
   |false=>rw[fH _ _ hl,fH _ _ (by rw[vd hp h2];exact hl),ih]
end
def TA.ren{T:Nat→Type}(m:Nat→Nat):TA T→TA T
 |.box i o=>.box (m i) o
 |.mpr i=>.mpr (m i)
 |.fnb f l=>.fnb f (l.map m)
 |.bsl i o n c=>.bsl (m i) o n c
 |.vec t i n=>.vec t (m i) n
 |.pel t i j o=>.pel t (m i) j o
 |.vsl t i o n=>.vsl t (m i) o n
 |x=>x
def TC.ren{T:Nat→Type}(m:Nat→Nat):TC T→TC T
 |.a x=>.a (x.ren m)
 |.ag l=>.ag (l.map (TA.ren m))
def TV.ren{T:Nat→Type}(m:Nat→Nat):TV T→TV T
 |.a x=>.a (x.ren m)
 |.ag l=>.ag (l.map (TA.ren m))
 |.el l=>.el (l.map (TA.ren m))
 |.tu l=>.tu (l.map (TC.ren m))
 |.fn f l=>.fn f (l.map (TA.ren m))
 |.ifc t x=>.ifc t (x.ren m)
def TB.ren{T:Nat→Type}(m:Nat→Nat):TB T→TB T
 |.cs l=>.cs (l.map (TA.ren m))
 |.vec i t l=>.vec (m i) t l
 |b=>b
def pU{T:Nat→Type}(m:Nat→Nat):List (Nat × TB T)→List (Nat × TB T)
 | [] =>[]
 | (k,b)::r=>(m k,b.ren m)::pU m r
section
variable {E:Env} {ρ ρ':Rn} {p:Nat→Bool} {m:Nat→Nat}
theorem TA.ren_to(hp:∀i,p i=true→ρ'.k (m i)=ρ.k i){x:TA E.T}(h:x.ids p=true):(x.ren m).to E.toEnc ρ'=x.to E.toEnc ρ:=by
 have hb:∀i,p i=true→ρ' (m i)=ρ i:=fun i hi=>by unfold Rn.b;rw[hp i hi]
 cases x with
 |box i o=>simp only[TA.ren,TA.to,hb i h]
 |mpr i=>simp only[TA.ren,TA.to,hb i h]
 |bsl i off n c=>simp only[TA.ren,TA.to,hb i h]
 |vec t i n=>simp only[TA.ren,TA.to,hp i h]
 |pel t i j o=>simp only[TA.ren,TA.to,hb i h]
 |vsl t i off n=>simp only[TA.ren,TA.to,hp i h]
 |fnb f l=>
  simp only[TA.ren,TA.to,List.map_map]
  rw[List.map_congr_left fun i hi=>by simp only[Function.comp];rw[hb i (List.all_eq_true.1 h i hi)]]
 |_=>rfl
theorem pb(hp:∀i,p i=true→ρ'.k (m i)=ρ.k i){l:List (TA E.T)}(h:l.all (TA.ids p)=true):(l.map (TA.ren m)).map (TA.to E.toEnc ρ')=l.map (TA.to E.toEnc ρ):=by
 rw[List.map_map]
 exact List.map_congr_left fun x hx=>TA.ren_to hp (List.all_eq_true.1 h x hx)
theorem TC.ren_to(hp:∀i,p i=true→ρ'.k (m i)=ρ.k i){x:TC E.T}(h:x.ids p=true):(x.ren m).to E.toEnc ρ'=x.to E.toEnc ρ:=by
 cases x with
 |a x=>exact TA.ren_to hp h
 |ag l=>simp only[TC.ren,TC.to];rw[pb hp h]
theorem TV.ren_to(hp:∀i,p i=true→ρ'.k (m i)=ρ.k i){x:TV E.T}(h:x.ids p=true):(x.ren m).to E.toEnc ρ'=x.to E.toEnc ρ:=by
 cases x with
 |a x=>exact TA.ren_to hp h
 |ag l=>simp only[TV.ren,TV.to];rw[pb hp h]
 |el l=>simp only[TV.ren,TV.to];rw[pb hp h]
 |tu l=>
  simp only[TV.ren,TV.to,List.map_map]
  rw[List.map_congr_left fun x hx=>by simp only[Function.comp];exact TC.ren_to hp (List.all_eq_true.1 h x hx)]
 |fn f l=>simp only[TV.ren,TV.to];rw[pb hp h]
 |ifc t x=>simp only[TV.ren,TV.to];rw[TC.ren_to hp h]
theorem TB.ren_to(hp:∀i,p i=true→ρ'.k (m i)=ρ.k i){x:TB E.T}(h:x.ids p=true):(x.ren m).to E.toEnc ρ'=x.to E.toEnc ρ:=by
 cases x with
 |cs l=>exact pb hp h
 |smap t l=>rfl
 |imap t l=>rfl
 |row t l=>rfl
 |vec i t l=>simp only[TB.ren,TB.to,hp i h]
theorem rb(hp:∀i,p i=true→ρ'.k (m i)=ρ.k i){x:TB E.T}(h:x.ids p=true):a8 ρ' (x.ren m)=a8 ρ x:=by
 cases x with
 |vec i t l=>simp only[TB.ren,a8,hp i h]
 |_=>rfl
theorem tz(hp:∀i,p i=true→ρ'.k (m i)=ρ.k i):∀ {h:List (Nat × TB E.T)},sM p h=true→hTo E.toEnc ρ' (pU m h)=hTo E.toEnc ρ h
 | [],_=>rfl
 | (k,b)::r,hh=>by
   simp only[sM,List.all_cons,Bool.and_eq_true] at hh
   obtain⟨⟨h1,h2⟩,h3⟩:=hh
   have ih:=tz hp (h:=r) (by simp only[sM,Bool.and_eq_true];exact h3)
   have hb:ρ' (m k)=ρ k:=by unfold Rn.b;rw[hp k h1]
   simp only[pU]
   cases hl:a8 ρ b with
   |true=>rw[dQ _ _ hl,dQ _ _ (by rw[rb hp h2];exact hl),ih,TB.ren_to hp h2,hb]
   |false=>rw[fH _ _ hl,fH _ _ (by rw[rb hp h2];exact hl),ih]
theorem ud:∀ {h:List (Nat × TB E.T)} {q:Nat × TB E.T},q∈pU m h→∃q0∈h,q=(m q0.1,q0.2.ren m)
 | [],_,h=>by cases h
 | (k,b)::r,q,h=>by
   simp only[pU] at h
   rcases List.mem_cons.1 h with rfl|h
   ·exact⟨_,List.mem_cons_self,rfl⟩
   ·obtain⟨q0,h1,h2⟩:=ud h
    exact⟨q0,List.mem_cons_of_mem _ h1,h2⟩
theorem tx(hp:∀i,p i=true→ρ'.k (m i)=ρ.k i)(hm:∀i j,p i=true→p j=true→m i=m j→i=j){h:List (Nat × TB E.T)}(hh:sM p h=true)(hi:Inj ρ h):Inj ρ' (pU m h):=by
 have hb:∀i,p i=true→ρ' (m i)=ρ i:=fun i hi=>by unfold Rn.b;rw[hp i hi]
 intro x hx y hy
 obtain⟨x0,h1,rfl⟩:=ud hx
 obtain⟨y0,h2,rfl⟩:=ud hy
 have ix:=List.all_eq_true.1 hh x0 h1
 have iy:=List.all_eq_true.1 hh y0 h2
 simp only[Bool.and_eq_true] at ix iy
 simp only
 rw[rb hp ix.2,rb hp iy.2,hb _ ix.1,hb _ iy.1]
 obtain⟨k1,k2⟩:=hi x0 h1 y0 h2
 exact⟨fun l1 l2 e=>by rw[k1 l1 l2 e],fun e=>k2 (hm _ _ ix.1 iy.1 e)⟩
end
theorem Inj.one{T:Nat→Type}{ρ:Rn}{k:Nat}{b:TB T}:Inj ρ [(k,b)] :=fun p hp q hq=>by
 rw[List.mem_singleton.1 hp,List.mem_singleton.1 hq]
 exact⟨fun _ _ _=>rfl,fun _=>rfl⟩
theorem Inj.two{T:Nat→Type}{ρ:Rn}{k k':Nat}{b b':TB T}(hk:k≠k')(h:ρ k≠ρ k'):Inj ρ [(k,b),(k',b')] :=fun p hp q hq=>by
 simp only[List.mem_cons,List.not_mem_nil,or_false] at hp hq
 rcases hp with rfl|rfl<;> rcases hq with rfl|rfl
 ·exact⟨fun _ _ _=>rfl,fun _=>rfl⟩
 ·exact⟨fun _ _ e=>absurd e h,fun e=>absurd e hk⟩
 ·exact⟨fun _ _ e=>absurd e.symm h,fun e=>absurd e.symm hk⟩
 ·exact⟨fun _ _ _=>rfl,fun _=>rfl⟩
def TB.nv{T:Nat→Type}:TB T→Bool
 |.vec _ _ _=>false
 |_=>true
def nvH{T:Nat→Type}(h:List (Nat × TB T)):Bool:=h.all fun p=>p.2.nv
theorem xu{T:Nat→Type}{ρ:Rn}{b:TB T}(h:b.nv=true):a8 ρ b=true:=by
 cases b with
 |vec i t l=>cases h
 |_=>rfl
def Tl{T:Nat→Type}(h:List (Nat × TB T))(k:Nat):Bool:=match look h k with
 |some b=>b.nv
 |none=>false
theorem Jj{T:Nat→Type}{h:List (Nat × TB T)}{k:Nat}(e:Tl h k=true):∃b,look h k=some b∧b.nv=true:=by
 unfold Tl at e
 split at e
 ·rename_i b hb;exact⟨b,hb,e⟩
 ·cases e
theorem CG{T:Nat→Type}{h:List (Nat × TB T)}(hh:nvH h=true){p:Nat × TB T}(hp:p∈h)(ρ:Rn):a8 ρ p.2=true:=xu (List.all_eq_true.1 hh p hp)
def big(i:Nat):Bool:=Nat.ble 100000 i && Nat.ble i 199999
def Agr(ρ ρ':Rn):Prop:=∀i,big i=true→ρ'.k i=ρ.k i
theorem Agr.refl(ρ:Rn):Agr ρ ρ:=fun _ _=>rfl
theorem Agr.trans{ρ ρ' ρ'':Rn}(h:Agr ρ ρ')(h':Agr ρ' ρ''):Agr ρ ρ'':=fun i hi=>(h' i hi).trans (h i hi)
theorem Agr.updB{ρ:Rn}{d:Nat}{x:Bk}(h:Nat.ble d 99999=true):Agr ρ (dA ρ d x):=fun i hi=>by
 have h1:=Nat.le_of_ble_eq_true h
 have h2:100000≤i:=by
  unfold big at hi
  rw[Bool.and_eq_true] at hi
  exact Nat.le_of_ble_eq_true hi.1
 unfold Go.Proofs.YtobacplonkjigaaDoor.dA
 simp only
 rw[if_neg (by omega)]
theorem Agr.upd{ρ:Rn}{d k:Nat}(h:Nat.ble d 99999=true):Agr ρ (upd ρ d k):=Agr.updB h
theorem Agr.b{ρ ρ':Rn}(h:Agr ρ ρ'){i:Nat}(hi:big i=true):ρ' i=ρ i:=by unfold Rn.b;rw[h i hi]
theorem je{E:Env}{ρ:Rn}{L:List (Nat × TB E.T)}{k:Nat}{cs:List AV}(hi:Inj ρ L)(h:look (hTo E.toEnc ρ L) k=some cs):∃i b,ρ i=k∧look L i=some b∧b.to E.toEnc ρ=cs∧a8 ρ b=true:=by
 obtain⟨i,b,h1,h2,h3,h4,h5⟩:=py h
 exact⟨i,b,h2,h5 hi,h3.symm,h4⟩
def ko:List Nat→Nat→Bool
 | [],_=>false
 |k::r,i=>match Nat.beq i k with|true=>true|false=>ko r i
theorem d7:∀ {l:List Nat} {i:Nat},ko l i=true ↔ i∈l
 | [],i=>⟨fun h=>(by cases h),fun h=>(by cases h)⟩
 |k::r,i=>by
  simp only[ko,List.mem_cons]
  split
  ·rename_i e;exact⟨fun _=>.inl (Nat.eq_of_beq_eq_true e),fun _=>rfl⟩
  ·rename_i e
   rw[d7 (l:=r)]
   exact⟨.inr,fun h=>h.resolve_left fun e2=>by subst e2;rw[Nat.beq_refl] at e;cases e⟩
def dropHH{T:Nat→Type}(ids:List Nat):List (Nat × TB T)→List (Nat × TB T)
 | [] =>[]
 | (k,b)::r=>match ko ids k with
   |true=>dropHH ids r
   |false=>(k,b)::dropHH ids r
theorem lV{T:Nat→Type}{h:List (Nat × TB T)}:∀ {ids:List Nat} {i:Nat} {b:TB T},look (cW h ids) i=some b→look h i=some b∧i∈ids
 | [],_,_,e=>by cases e
 |k::ks,i,b,e=>by
  simp only[cW] at e
  split at e
  ·rename_i b' hb
   rw[ab] at e
   split at e
   ·rename_i e2;subst e2;cases e;exact⟨hb,List.mem_cons_self⟩
   ·exact⟨(lV e).1,List.mem_cons_of_mem _ (lV e).2⟩
  ·exact⟨(lV e).1,List.mem_cons_of_mem _ (lV e).2⟩
theorem j8{T:Nat→Type}{ids:List Nat}:∀ {h:List (Nat × TB T)} {i:Nat} {b:TB T},look (dropHH ids h) i=some b→look h i=some b∧i ∉ ids
 | [],_,_,e=>by cases e
 | (k,b')::r,i,b,e=>by
   simp only[dropHH] at e
   split at e
   ·rename_i hk
    obtain⟨h1,h2⟩:=j8 (h:=r) e
    refine⟨?_,h2⟩
    rw[ab,if_neg]
    ·exact h1
    ·rintro rfl;exact h2 (d7.1 hk)
   ·rename_i hk
    rw[ab] at e ⊢
    split at e
    ·rename_i e2
     subst e2
     exact⟨by rw[if_pos rfl];exact e,fun hm=>by rw[d7.2 hm] at hk;cases hk⟩
    ·rename_i e2
     rw[if_neg e2]
     exact j8 e
theorem td{T:Nat→Type}{ids:List Nat}:∀ {h:List (Nat × TB T)} {p:Nat × TB T},p∈dropHH ids h→p.1 ∉ ids
 | [],_,hp=>by cases hp
 | (k,b)::r,p,hp=>by
   simp only[dropHH] at hp
   split at hp
   ·exact td hp
   ·rename_i hk
    rcases List.mem_cons.1 hp with rfl|hp
    ·intro hc;rw[d7.2 hc] at hk;cases hk
    ·exact td hp
theorem qK{α:Type}:∀ {l:List (Nat × α)} {k:Nat} {c:α},(k,c)∈l→∃c',look l k=some c'
 | [],_,_,h=>by cases h
 | (k0,c0)::l,k,c,h=>by
   by_cases e2:k=k0
   ·exact⟨c0,by rw[ab,if_pos e2]⟩
   ·rcases List.mem_cons.1 h with h|h
    ·cases h;exact absurd rfl e2
    ·obtain⟨c',h'⟩:=qK h
     exact⟨c',by rw[ab,if_neg e2];exact h'⟩
theorem gL{T:Nat→Type}{ids:List Nat}:∀ {h:List (Nat × TB T)},∀p∈dropHH ids h,p∈h
 | [],p,hp=>by cases hp
 | (k,b)::r,p,hp=>by
   simp only[dropHH] at hp
   split at hp
   ·exact List.mem_cons_of_mem _ (gL p hp)
   ·rcases List.mem_cons.1 hp with rfl|hp
    ·exact List.mem_cons_self
    ·exact List.mem_cons_of_mem _ (gL p hp)
def ql(nw i:Nat):Bool:=Nat.ble 300000 i && Nat.blt i (300000+nw)
def oD(d nw i:Nat):Bool:=Nat.ble (400000+16 * d) i && Nat.blt i (400000+16 * d+nw)
def nmN(nw d i:Nat):Nat:=match ql nw i with
 |true=>400000+16 * d+ (i - 300000)
 |false=>i
def mvP(ids:List Nat)(nw i:Nat):Bool:=ko ids i || ql nw i
def mvQ(mv:List Nat)(nw d i:Nat):Bool:= !ko mv i && !oD d nw i
def CO(ids mv:List Nat)(nw d:Nat):Bool:=(ids.all fun i=> !ql nw i && !oD d nw i) && (mv.all fun i=>ko ids i && !big i)
def vZ{T:Nat→Type}(q:TV T→Bool):List Nat→List (Nat × TV T)→List (Nat × TV T)
 |_,[] =>[]
 |seen,(k,u)::r=>match ko seen k with
  |true=>vZ q seen r
  |false=>match q u with
   |true=>(k,u)::vZ q (k::seen) r
   |false=>vZ q (k::seen) r
theorem tn{T:Nat→Type}{q:TV T→Bool}:∀ {t:List (Nat × TV T)} {seen:List Nat} {k:Nat} {u:TV T},look (vZ q seen t) k=some u→look t k=some u∧q u=true∧k ∉ seen
 | [],_,_,_,h=>by cases h
 | (k0,u0)::r,seen,k,u,h=>by
   simp only[vZ] at h
   cases hm:ko seen k0 with
   |true=>
    rw[hm] at h
    obtain⟨h1,h2,h3⟩:=tn h
    refine⟨?_,h2,h3⟩
    rw[ab,if_neg]
    ·exact h1
    ·rintro rfl;exact h3 (d7.1 hm)
   |false=>
    rw[hm] at h
    have hns:k0 ∉ seen:=fun hc=>by rw[d7.2 hc] at hm;cases hm
    have rest:look (vZ q (k0::seen) r) k=some u→look ((k0,u0)::r) k=some u∧q u=true∧k ∉ seen:=fun h=>by
     obtain⟨h1,h2,h3⟩:=tn h
     have hne:k≠k0:=fun e=>h3 (by rw[e];exact List.mem_cons_self)
     exact⟨by rw[ab,if_neg hne];exact h1,h2,fun hc=>h3 (List.mem_cons_of_mem _ hc)⟩
    cases hq:q u0 with
    |true=>
     rw[hq] at h
     simp only at h
     rw[ab] at h
     split at h
     ·rename_i e
      subst e
      cases h
      exact⟨by rw[ab,if_pos rfl],hq,hns⟩
     ·exact rest h
    |false=>rw[hq] at h;exact rest h
def TS.giveM{T:Nat→Type}(σ:TS T)(ids mv:List Nat)(nw d:Nat)(h':List (Nat × TB T)):TS T:={ n:=σ.n,t:=vZ (fun u=>u.ids (mvQ mv nw d)) [] σ.t,h:=h'++dropHH ids σ.h,e:=lm σ.e }
def mvR(ρ ρ':Rn)(mv:List Nat)(nw d:Nat):Rn:=⟨fun i=>match ko mv i with
 |true=>ρ'.k i
 |false=>match oD d nw i with
  |true=>ρ'.k (300000+ (i - (400000+16 * d)))
  |false=>ρ.k i⟩
theorem oY{nw i:Nat}:ql nw i=true ↔ 300000≤i∧i < 300000+nw:=by
 unfold ql
 rw[Bool.and_eq_true]
 exact⟨fun h=>⟨Nat.le_of_ble_eq_true h.1,Nat.le_of_ble_eq_true h.2⟩,fun h=>⟨Nat.ble_eq_true_of_le h.1,Nat.ble_eq_true_of_le h.2⟩⟩
theorem rn{d nw i:Nat}:oD d nw i=true ↔ 400000+16 * d≤i∧i < 400000+16 * d+nw:=by
 unfold oD
 rw[Bool.and_eq_true]
 exact⟨fun h=>⟨Nat.le_of_ble_eq_true h.1,Nat.le_of_ble_eq_true h.2⟩,fun h=>⟨Nat.ble_eq_true_of_le h.1,Nat.ble_eq_true_of_le h.2⟩⟩
section
variable {ρ ρ':Rn} {ids mv:List Nat} {nw d:Nat}
theorem zf(h:CO ids mv nw d=true){i:Nat}(hi:i∈ids):ql nw i=false∧oD d nw i=false:=by
 unfold CO at h
 rw[Bool.and_eq_true] at h
 have:=List.all_eq_true.1 h.1 i hi
 simpa using this
theorem GU(h:CO ids mv nw d=true){i:Nat}(hi:i∈mv):i∈ids∧big i=false:=by
 unfold CO at h
 rw[Bool.and_eq_true] at h
 have:=List.all_eq_true.1 h.2 i hi
 rw[Bool.and_eq_true] at this
 exact⟨d7.1 this.1,by simpa using this.2⟩
theorem zj(h:CO ids mv nw d=true)(hρ:∀i∈ids,i ∉ mv→ρ'.k i=ρ.k i):∀i,mvP ids nw i=true→(mvR ρ ρ' mv nw d).k (nmN nw d i)=ρ'.k i:=by
 intro i hi
 unfold mvP at hi
 rw[Bool.or_eq_true] at hi
 cases hn:ql nw i with
 |true=>
  have hr:=oY.1 hn
  have e:nmN nw d i=400000+16 * d+ (i - 300000):=by unfold nmN;rw[hn]
  have hf:oD d nw (nmN nw d i)=true:=rn.2 (by rw[e];omega)
  have hm:ko mv (nmN nw d i)=false:=by
   cases hm:ko mv (nmN nw d i) with
   |false=>rfl
   |true=>
    have:=(zf h (GU h (d7.1 hm)).1).2
    rw[hf] at this;cases this
  unfold mvR
  simp only[hm,hf]
  rw[e]
  congr 1;omega
 |false=>
  have hid:i∈ids:=d7.1 (hi.resolve_right (by rw[hn];decide))
  have e:nmN nw d i=i:=by unfold nmN;rw[hn]
  rw[e]
  unfold mvR
  simp only
  cases hm:ko mv i with
  |true=>rfl
  |false=>
   simp only[(zf h hid).2]
   exact(hρ i hid fun hc=>by rw[d7.2 hc] at hm;cases hm).symm
theorem PE(h:CO ids mv nw d=true):∀i j,mvP ids nw i=true→mvP ids nw j=true→nmN nw d i=nmN nw d j→i=j:=by
 have key:∀i,mvP ids nw i=true→(ql nw i=true∧nmN nw d i=400000+16 * d+ (i - 300000)∧oD d nw (nmN nw d i)=true)∨(ql nw i=false∧nmN nw d i=i∧oD d nw i=false):=fun i hi=>by
  unfold mvP at hi
  rw[Bool.or_eq_true] at hi
  cases hn:ql nw i with
  |true=>
   have hr:=oY.1 hn
   have e:nmN nw d i=400000+16 * d+ (i - 300000):=by unfold nmN;rw[hn]
   exact .inl ⟨rfl,e,rn.2 (by rw[e];omega)⟩
  |false=>exact .inr ⟨rfl,by unfold nmN;rw[hn],(zf h (d7.1 (hi.resolve_right (by rw[hn];decide)))).2⟩
 intro i j hi hj e
 rcases key i hi with ⟨a1,a2,a3⟩| ⟨a1,a2,a3⟩<;> rcases key j hj with ⟨b1,b2,b3⟩| ⟨b1,b2,b3⟩
 ·have:=oY.1 a1
  have:=oY.1 b1
  rw[a2,b2] at e;omega
 ·rw[e,b2] at a3;rw[a3] at b3;cases b3
 ·rw[← e,a2] at b3;rw[b3] at a3;cases a3
 ·rw[a2,b2] at e;exact e
theorem Dh:∀i,mvQ mv nw d i=true→(mvR ρ ρ' mv nw d).k i=ρ.k i:=by
 intro i hi
 unfold mvQ at hi
 rw[Bool.and_eq_true] at hi
 have h1:ko mv i=false:=by simpa using hi.1
 have h2:oD d nw i=false:=by simpa using hi.2
 unfold mvR
 simp only[h1,h2]
theorem HL(h:CO ids mv nw d=true):Agr ρ (mvR ρ ρ' mv nw d):=fun i hi=>by
 refine Dh i ?_
 unfold mvQ
 rw[Bool.and_eq_true]
 constructor
 ·cases hm:ko mv i with
  |false=>rfl
  |true=>rw[(GU h (d7.1 hm)).2] at hi;cases hi
 ·cases hf:oD d nw i with
  |false=>rfl
  |true=>
   have:=rn.1 hf
   unfold big at hi
   rw[Bool.and_eq_true] at hi
   have:=Nat.le_of_ble_eq_true hi.2
   omega
end
section
variable {P:Program} {T:Tys P} {σ:AS} {t u ty e:TypeId} {x y:Operand} {pos:String} {af:Array Edge} {g:Option (Nat × Bool)}
theorem pN{d n c by_ sz N:Nat}{olds us:List AV}{du:TypeDesc}(hold:∀F X (a:Act),SimE F X σ a.tmps→∃ (ad:Option Addr) (os:List Value),a.eval x=.slice ad n c∧(∀w',w'.heap=X.w.heap→(Builtin.firstCells sz n (.slice ad n c)).run P w'=.ok os.toArray w')∧os.length=n * sz∧∀ (i:Nat) u v,olds[i]? =some u→os[i]? =some v→Rel X u v)
  (hlo:olds.length=n * sz) (ht:look T.ty t=some (.slice e)) (hu:look T.ty u=some du) (hnz:du=.string∨∃e',du=.slice e') (hz:look T.sz e=some (sz,by_)) (hb1:1≤by_)
  (hsrc:∀F X (a:Act),SimE F X σ a.tmps→∃vs,SrcA P X sz N N us (a.eval y) vs) (hroom:c < n+N) (hfit:(n+N) * by_≤140737488355328) (hpl:fM us) (hpc:fM olds) (hd:Nat.ble (d+1) σ.n=true)
  {R:AS→Prop} (hR:∀k' cap (sp:List Value),gm k' σ.h→n+N≤cap→(olds++us++sp.map AV.v).length=cap * sz→R ((σ.box k' (olds++us++sp.map AV.v)).put d (.v (.slice (some ⟨k',0,none⟩) (n+N) cap)))):cy P ⟨some d,.call { callee:=.builtin .append,args:= #[x,y],argTypes:= #[t,u] },ty,pos,af,g⟩ σ R:=by
 refine nE (us0:=olds++us) (Fact:=fun cap sp=>n+N≤cap∧(olds++us++sp).length=cap * sz∧∃vs:List Value,sp=vs.map AV.v) rfl hd (fun cap sp h v hv=> ?_) (fun F X a hs=> ?_) (fun k' cap sp hk ⟨h1,h2,vs,h3⟩=>by subst h3;exact hR k' cap vs hk h1 h2)
 ·rcases List.mem_append.1 hv with hv|hv
  ·rcases List.mem_append.1 hv with hv|hv
   ·exact hpc v hv
   ·exact hpl v hv
  ·obtain⟨vs,rfl⟩:=h.2.2
   obtain⟨z,_,rfl⟩:=List.mem_map.1 hv;rfl
 ·obtain⟨ad,os,e1,ho1,ho2,ho3⟩:=hold F X a hs
  obtain⟨vs,hv⟩:=hsrc F X a hs
  obtain⟨i,hi1,hi2,hi3,zv,hi4,hi5⟩:=T.szOk _ _ _ hz
  have hcge:=grownCap_ge X.w (n+N) c e
  have hrun:=gc (P:=P) (ty:=ty) (sLen:=n) (sCap:=c) (a:=ad) (m:=N) (olds:=os) (news:=vs) (x:=a.eval y) (T.tyOk _ _ ht) (T.tyOk _ _ hu) hnz hi1 hi4 ⟨hv.len,by rw[hi2];exact hv.first,by rw[hi2];exact hv.lv⟩ (fun w' hw=>by rw[hi2];exact ho1 w' hw) hroom (by rw[hi3];exact hfit) (by rw[hi3];exact hb1)
  refine⟨_,e,grownCap X.w (n+N) c e,(Builtin.zeroCells zv.cells (grownCap X.w (n+N) c e - (n+N))).toList.map .v,⟨hcge,?_,_,rfl⟩,cb e1 rfl hrun,?_,fun j u0 v hu0 hv0=> ?_⟩
  ·rw[List.length_append,List.length_append,hv.lu,hlo,List.length_map,Array.length_toList]
   have:(Builtin.zeroCells zv.cells (grownCap X.w (n+N) c e - (n+N))).size=(grownCap X.w (n+N) c e - (n+N)) * sz:=by simp[Builtin.zeroCells,hi5]
   rw[this,← Nat.add_mul,← Nat.add_mul];congr 1;omega
  ·simp only[Array.size_append,List.size_toArray,List.length_append,hv.lu,hlo,hv.lv,ho2,List.length_map,Array.length_toList]
  ·have hl0:(os.toArray++vs.toArray++Builtin.zeroCells zv.cells (grownCap X.w (n+N) c e - (n+N)))[j]? =(os++vs++ (Builtin.zeroCells zv.cells (grownCap X.w (n+N) c e - (n+N))).toList)[j]? :=by
    rw[← Array.getElem?_toList];simp
   rw[hl0] at hv0
   refine rA (by rw[List.length_append,List.length_append,hlo,hv.lu,ho2,hv.lv]) (rA (by rw[hlo,ho2]) ho3 hv.rel) (fun i u v hu hv=> ?_) j u0 v hu0 hv0
   rw[List.getElem?_map,hv] at hu
   cases hu
   exact .v _
theorem Qd{n c k sz:Nat}{cs:List AV}(hx:opV σ x=some (.v (.slice (some ⟨k,0,none⟩) n c)))(hb:look σ.h k=some cs)(hmp:fx cs=false)(hl:n * sz≤cs.length)(ho:∀u∈cs.take (n * sz),u.one=true):∀F X (a:Act),SimE F X σ a.tmps→∃ (ad:Option Addr) (os:List Value),a.eval x=.slice ad n c∧(∀w',w'.heap=X.w.heap→(Builtin.firstCells sz n (.slice ad n c)).run P w'=.ok os.toArray w')∧os.length=n * sz∧∀ (i:Nat) u v,(cs.take (n * sz))[i]? =some u→os[i]? =some v→Rel X u v:=fun F X a hs=>by
 have e1:=bF (bt hs hx)
 obtain⟨os,hos⟩:=xS (P:=P) (sz:=sz) (off:=0) (n:=n) (c:=c) (q:=n) hs hb hmp (by omega) (by rw[List.drop_zero];exact ho)
 rw[List.drop_zero] at hos
 exact⟨_,os,e1,hos.first,hos.lv,hos.rel⟩
theorem Pc{sz:Nat}{ad:Option Addr}(hx:opV σ x=some (.v (.slice ad 0 0))):∀F X (a:Act),SimE F X σ a.tmps→∃ (ad:Option Addr) (os:List Value),a.eval x=.slice ad 0 0∧(∀w',w'.heap=X.w.heap→(Builtin.firstCells sz 0 (.slice ad 0 0)).run P w'=.ok os.toArray w')∧os.length=0 * sz∧∀ (i:Nat) u v,([] :List AV)[i]? =some u→os[i]? =some v→Rel X u v:=fun F X a hs=>by
 have e1:=bF (bt hs hx)
 refine⟨ad,[],e1,fun w' _=> ?_,by simp,fun i u v h=>by simp at h⟩
 cases ad with
 |none=>simp[Builtin.firstCells]
 |some b=>exact run_firstCells_some (P:=P) (w:=w') sz 0 b 0 0 [] (by simp) (fun j v hv=>by simp at hv)
end
def jf{α:Type}(by_:Nat)(l m:List α):Option (List α):=if(l.length+m.length) * by_≤140737488355328 then some (l++m) else none
def Rq{α:Type}(by_:Nat)(l m:List α):Option (List α):=match m with
 | [] =>none
 |_::_=>jf by_ l m
def EO{T:Nat→Type}(t:Ty):Option (TV T)→Option (List (Den T t))
 |some (.a (.d (.sl t') l))=>kw (.sl t') (.sl t) l
 |some (.a (.own t' l))=>kw (.sl t') (.sl t) l
 |some (.a (.d .str s))=>kw (.sl .byte) (.sl t) s
 |some (.a (.raw (.slice none 0 0)))=>some []
 |_=>none
section
variable {E:Env}
def cbs{T:Nat→Type}:List (TA T)→Option (List Nat)
 | [] =>some []
 |.box i 0::r=>match cbs r with
  |some l=>some (i::l)
  |none=>none
 |_=>none
theorem Ck:∀ {l:List (TA E.T)} {is:List Nat},cbs l=some is→l=is.map fun i=>.box i 0
 | [],is,h=>by cases h;rfl
 |x::r,is,h=>by
  unfold cbs at h
  split at h
  ·rename_i e;cases e
  ·rename_i i r' e
   cases e
   split at h
   ·rename_i l hl
    cases h
    rw[Ck hl];rfl
   ·cases h
  ·cases h
end
def TV.cs1{T:Nat→Type}:TV T→Option (List (TA T))
 |.a x=>match x.simple with
  |true=>some [x.rd]
  |false=>none
 |.ag l=>match l.all (fun x=>x.simple && x.plain) with
  |true=>some l
  |false=>none
 |.fn f l=>match cbs l with
  |some is=>some [.fnb f is]
  |none=>none
 |_=>none
def Pj{T:Nat→Type}(t:Ty):Option (TV T)→Option (Den T t)
 |some (.a (.d t' x))=>kw t' t x
 |some (.a .tt)=>kw .bool t (true:Bool)
 |some (.a .ff)=>kw .bool t (false:Bool)
 |_=>none
theorem HA{E:Env}{ρ:Rn}{σ:TS E.T}{t:Ty}{y:Operand}{x:Den E.T t}(h:Pj t (opT σ y)=some x):∃v,opV (σ.to E.toEnc ρ) y=some v∧v.rd=one E.toEnc t x:=by
 cases hy:opT σ y with
 |none=>rw[hy] at h;cases h
 |some u=>
  rw[hy] at h
  refine⟨u.to E.toEnc ρ,ax hy,?_⟩
  unfold Pj at h
  split at h
  ·rename_i t' x' e;cases e
   obtain⟨e,rfl⟩:=em h
   cases e
   exact tp _ _ _
  ·rename_i e;cases e
   obtain⟨e,rfl⟩:=em h
   cases e;rfl
  ·rename_i e;cases e
   obtain⟨e,rfl⟩:=em h
   cases e;rfl
  ·cases h
def ww:List Nat→Nat→Bool
 | [],_=>false
 |k::r,i=>match Nat.beq i k with|true=>true|false=>ww r i
def byA:TypeDesc→Option Ty
 |.int .u8=>some .byte
 |d=>MA d
def NJ{T:Nat→Type}(t:Ty)(v:Value):Option (Den T t):=match t with
 |.byte=>match v with
  |.int .u8 n=>if((UInt8.ofNat n.toNat).toNat:Int)=n then some (UInt8.ofNat n.toNat) else none
  |_=>none
 |.int k=>rZ (.int k) v
 |.bool=>rZ .bool v
 |.str=>rZ .str v
 |_=>none
def y7{T:Nat→Type}(t:Ty):List Value→Option (List (Den T t))
 | [] =>some []
 |v::vs=>match NJ t v,y7 t vs with
  |some z,some zs=>some (z::zs)
  |_,_=>none
def Oc{T:Nat→Type}:TV T→Bool
 |.a x=>x.plain && x.simple
 |_=>false
def zB{α:Type}(l:List α)(o:Nat)(v:α):Option (List α):=if o < l.length then some (l.set o v) else none
def UB{α:Type}(l:List α)(n c:Nat)(m:List α):Option (List α):=if n+m.length≤c∧n+m.length≤l.length then some (l.take n++m++l.drop (n+m.length)) else none
def SD(by_:Nat)(n c:Int):Option (Nat × Nat):=if 0≤n∧n≤c∧(by_:Int) * c≤281474976710656∧c≤9223372036854775807 then some (n.toNat,c.toNat) else none
def ut:TypeDesc→Bool
 |.string=>true
 |.slice _=>true
 |_=>false
def vg{α:Type}(by_ n:Nat)(l m:List α):Option (List α):=if n=l.length∧0 < m.length∧(l.length+m.length) * by_≤140737488355328 then some (l++m) else none
def NL{α:Type}(n:Nat)(l:List α)(j:Int):Option (List α):=if n=l.length∧0≤j∧j≤n then some (l.take j.toNat) else none
def TS.drpB{T:Nat→Type}(σ:TS T)(k:Nat):TS T:={ n:=σ.n,t:=σ.t,h:=dropHH [k] σ.h,e:=lm σ.e }
def TS.setv{T:Nat→Type}(σ:TS T)(k:Nat)(t:Ty)(l:List (Den T t)):TS T:={ n:=σ.n,t:=σ.t,h:=(k,.vec k t l)::σ.h,e:=lm σ.e }
section
variable {P:Program} (Y:Tys P) (E:Env) (G:Gam E)
def oN(σ:TS E.T)(d:Nat)(op:Op)(ty:TypeId):Tree (TS E.T):=
 match evP Y E G σ op ty with
 |.one u=>.leaf (σ.put d u)
 |.opt o u=>.bnd o fun z=>.leaf (σ.put d (u z))
 |.bad=>.fail
def TJ(σ:TS E.T)(d:Nat)(t e:TypeId)(x y:Operand)(sz by_:Nat):Tree (TS E.T):=
 match x with
 |.tmp s=>match σ.rootT s with
  |some r=>match σ.ownAt r with
   |some ⟨ty,l⟩=>match Nat.beq sz (csz E.toEnc ty),EO ty (opT σ y) with
    |true,some m=>.bnd (jf by_ l m) fun r'=>.leaf ((σ.lay r).dropC.put d (.a (.own ty r')))
    |_,_=>.fail
   |none=>.fail
  |none=>match look σ.t s,look E.et t with
   |some (.a (.raw (.slice none 0 0))),some (.sl ty)=>match Nat.beq sz (csz E.toEnc ty),EO ty (opT σ y) with
    |true,some m=>.bnd (jf by_ [] m) fun r'=>.leaf (σ.dropC.put d (.a (.own ty r')))
    |_,_=>.fail
   |some (.a (.clip ty l)),_=>match Nat.beq sz (csz E.toEnc ty),EO ty (opT σ y) with
    |true,some m=>.bnd (Rq by_ l m) fun r'=>.leaf (σ.dropC.put d (.a (.own ty r')))
    |_,_=>.fail
   |_,_=>.fail
 |.const (.slice none 0 0)=>match look E.et t with
  |some (.sl ty)=>match Nat.beq sz (csz E.toEnc ty),EO ty (opT σ y) with
   |true,some m=>.bnd (jf by_ [] m) fun r'=>.leaf (σ.dropC.put d (.a (.own ty r')))
   |_,_=>.fail
  |_=>.fail
 |_=>.fail
def yb(σ:TS E.T)(t:TypeId)(k o n:Nat)(y:Operand):Tree (TS E.T):=
 match look σ.h k,opT σ y with
 |some (.cs cs),some (.a (.raw (.slice none 0 0)))=>match look E.et t with
  |some (.sl ty)=>match Nat.beq n 1 && Nat.ble (o+1) cs.length with
   |true=>.leaf (σ.setc k (spl cs o [.own ty []]))
   |false=>.fail
  |_=>.fail
 |some (.cs cs),some u=>match u.cs1 with
  |some vs=>match Nat.beq vs.length n && Nat.ble (o+n) cs.length with
   |true=>.leaf (σ.setc k (spl cs o (wq ((look E.ct t).getD []) vs)))
   |false=>.fail
  |none=>.fail
 |_,_=>.fail
def J9(o:Oper)(σ:TS E.T):Tree (TS E.T):=
 match o.dst with
 |some d=>match Nat.ble (d+1) σ.n with
  |true=>match o.op with
   |.move (.tmp s)=>match look σ.t s with
    |some (.a (.raw _))=>oN Y E G σ d o.op o.type
    |some u=>.leaf (σ.mvT d s u)
    |none=>.fail
   |.assign (.tmp s)=>match look (σ.freeT d).t s with
    |some (.a (.raw _))=>oN Y E G σ d o.op o.type
    |some u=>.leaf ((σ.freeT d).mvT d s u)
    |none=>.fail
   |.pick c x y=>match opT σ c with
    |some (.a .tt)=>match opT σ x with
     |some u=>.leaf (σ.put d u.rd)
     |none=>.fail
    |some (.a .ff)=>match opT σ y with
     |some u=>.leaf (σ.put d u.rd)
     |none=>.fail
    |some (.a (.d .bool b))=>match opT σ x,opT σ y with
     |some u,some v=>.cond b (.leaf (σ.put d u.rd)) (.leaf (σ.put d v.rd))
     |_,_=>.fail
    |_=>.fail
   |.alloc el=>match look Y.zr el,σ.noId d && Nat.ble d 99999 with
    |some zv,true=>.leaf ((σ.boxT d (v7 ((look E.ct el).getD []) zv.cells.toList)).put d (.a (.box d 0)))
    |_,_=>.fail
   |.box el x=>match opT σ x,σ.noId d && Nat.ble d 99999 with
    |some u,true=>match u.cs1 with
     |some vs=>.leaf ((σ.boxT d vs).put d (.a (.box d 0)))
     |none=>.fail
    |_,_=>.fail
   |.load t x=>match opT σ x,look Y.ty t with
    |some (.a (.box k p)),some dsc=>match lf dsc with
     |true=>match look σ.h k with
      |some (.cs cs)=>match cs[p]? with
       |some c=>.leaf ((σ.put d (.a c.rd)).alias d (.c k p))
       |none=>.fail
      |_=>.fail
     |false=>oN Y E G σ d o.op o.type
    |_,_=>oN Y E G σ d o.op o.type
   |.makeMap t none=>match look Y.ty t with
    |some (.map kt et)=>match look Y.ty kt,(look Y.ty et).bind MA,σ.noId d && Nat.ble d 99999 with
     |some .string,some ty,true=>.leaf ((σ.boxM d ty []).put d (.a (.mpr d)))
     |_,_,_=>.fail
    |_=>.fail
   |.call { callee:=.builtin .append,args:=xs,argTypes:=ats }=>match xs.toList,ats.toList with
    | [x,y],[t,u] =>match look Y.ty t,look Y.ty u with
      |some (.slice e),some du=>match look Y.sz e with
       |some (sz,by_)=>match ut du && Nat.ble 1 by_ with
        |true=>TJ E σ d t e x y sz by_
        |false=>.fail
       |none=>.fail
      |_,_=>.fail
    |_,_=>.fail
   |op=>oN Y E G σ d op o.type
  |false=>.fail
 |none=>match o.op with
  |.store t x y=>match opT σ x,look Y.sz t with
   |some (.a (.box k p)),some (n,_)=>match y with
    |.tmp s=>match σ.rootT s with
     |some r=>match σ.ownAt r with
      |some ⟨ty,l⟩=>match look (σ.lay r).h k with
       |some (.cs cs)=>match Nat.beq n 1 && Nat.ble (p+1) cs.length with
        |true=>.leaf ((σ.lay r).setc k (spl cs p [.own ty l]))
        |false=>.fail
       |_=>.fail
      |none=>yb E σ t k p n y
     |none=>yb E σ t k p n y
    |y=>yb E σ t k p n y
   |_,_=>.fail
  |.mapUpdate t x y z=>match look Y.ty t,opT σ x,asS (opT σ y) with
   |some (.map kt _),some (.a (.mpr k)),some key=>match look Y.ty kt,look σ.h k with
    |some .string,some (.smap ty l)=>match Pj ty (opT σ z) with
     |some v=>.leaf (σ.setm k ty (zV l key v))
     |none=>.fail
    |_,_=>.fail
   |_,_,_=>.fail
  |_=>.fail
def LM(o:Oper)(σ:TS E.T):Option (Tree (TS E.T)):=
 match o.dst,o.op with
 |some d,.alloc el=>match look Y.ty el with
  |some (.array _ e)=>match(look Y.ty e).bind byA,look Y.zr el,(σ.noId d && Nat.ble d 99999) && Nat.ble (d+1) σ.n with
   |some ty,some zv,true=>match ty.lone,y7 (T:=E.T) ty zv.cells.toList with
    |true,some l=>some (.leaf ((σ.boxR d ty l).put d (.a (.box d 0))))
    |_,_=>none
   |_,_,_=>none
  |_=>none
 |some d,.makeSlice t x y=>match ww G.mu d,look Y.ty t,asI (opT σ x),asI (opT σ y) with
  |true,some (.slice e),some (_,n),some (_,c)=>match(look Y.ty e).bind byA,look Y.zr e,look Y.sz e,(σ.noId d && Nat.ble d 99999) && Nat.ble (d+1) σ.n with
   |some ty,some zv,some (1,by_),true=>match ty.lone,y7 (T:=E.T) ty zv.cells.toList with
    |true,some [z] =>some (.bnd (SD by_ n c) fun p=>.leaf (match ww G.mu (d+1000000) with
     |true=>(σ.newB d (.vec d ty (List.replicate p.1 z))).put d (.a (.vec ty d (List.replicate p.1 z).length))
     |false=>(σ.boxR d ty (List.replicate p.2 z)).put d (.a (.bsl d 0 p.1 p.2))))
    |_,_=>none
   |_,_,_,_=>none
  |_,_,_,_=>none
 |some d,.buildSlice t len ps=>match ww G.mu d,look Y.ty t,look E.et t,u7 σ (ps.toList.map (·.2)) with
  |true,some (.slice e),some (.sl ty),some us=>match ty.lone && sz1 Y e,t7 E ty us,(σ.noId d && Nat.ble d 99999) && Nat.ble (d+1) σ.n,pm ps.toList 0 && Nat.beq len ps.toList.length && Nat.ble (len * 1) 16777216 && us.all Oc with
   |true,some xs,true,true=>some (.leaf ((σ.boxR d ty xs).put d (.a (.bsl d 0 len len))))
   |_,_,_,_=>none
  |_,_,_,_=>none
 |some d,.load t x=>match opT σ x with
  |some (.a (.box k _))=>match look σ.h k,Nat.ble (d+1) σ.n with
   |some (.row _ _),true=>some (oN Y E G σ d o.op o.type)
   |_,_=>none
  |_=>none
 |some d,.call { callee:=.builtin .append,args:=⟨[x,y]⟩,argTypes:=⟨[t,u]⟩ }=>match opT σ x with
  |some (.a (.bsl k 0 n c))=>match look Y.ty t,look Y.ty u,look σ.h k with
   |some (.slice e),some du,some (.row ty l)=>match ty.lone && sz1 Y e && ut du && Nat.ble (d+1) σ.n,EO ty (opT σ y) with
    |true,some m=>some (.bnd (UB l n c m) fun l'=>.leaf ((σ.setr k ty l').put d (.a (.bsl k 0 (n+m.length) c))))
    |_,_=>none
   |_,_,_=>none
  |_=>none
 |none,.store t x y=>match opT σ x with
  |some (.a (.box k p))=>match look σ.h k with
   |some (.row ty l)=>match ty.lone && sz1 Y t,(opT σ y).bind TV.cs1 with
    |true,some [a] =>match asD ty a with
     |some v=>some (.bnd (zB l p v) fun l'=>.leaf (σ.setr k ty l'))
     |none=>none
    |_,_=>none
   |_=>none
  |_=>none
 |_,_=>none
def MC(o:Oper)(σ:TS E.T):Option (Tree (TS E.T)):=
 match o.dst,o.op with
 |some d,.call { callee:=.builtin .append,args:=⟨[x,y]⟩,argTypes:=⟨[t,u]⟩ }=>match opT σ x with
  |some (.a (.vec ty k n))=>match look Y.ty t,look Y.ty u,pL σ.h ty k,asL (opT σ y) with
   |some (.slice e),some du,some l,some w=>match kw (.sl w.t) (.sl ty) w.l,look Y.sz e with
    |some m,some (sz,by_)=>match(Nat.beq sz (csz E.toEnc ty) && ut du && Nat.ble 1 by_ && Nat.ble 1 sz) && (σ.noId d && Nat.ble d 99999 && Nat.ble (d+1) σ.n) with
     |true=>some (.bnd (vg by_ n l m) fun l'=>.leaf (((σ.drpB k).newB d (.vec d ty l')).put d (.a (.vec ty d l'.length))))
     |false=>none
    |_,_=>none
   |_,_,_,_=>none
  |_=>none
 |some d,.slice t x none (some hi) none=>match opT σ x with
  |some (.a (.vec ty k n))=>match look Y.ty t,pL σ.h ty k,asI (opT σ hi) with
   |some (.slice e),some l,some (.i64,j)=>match(FC Y e (csz E.toEnc ty) && Nat.ble 1 (csz E.toEnc ty)) && (σ.noId d && Nat.ble d 99999 && Nat.ble (d+1) σ.n) with
    |true=>some (.bnd (NL n l j) fun l'=>.leaf (((σ.drpB k).newB d (.vec d ty l')).put d (.a (.vec ty d l'.length))))
    |false=>none
   |_,_,_=>none
  |_=>none
 |none,.store t x y=>match opT σ x with
  |some (.a (.pel ty k j o))=>match pL σ.h ty k,look Y.sz t,(opT σ y).bind TV.cs1 with
   |some l,some (n,_),some vs=>match Nat.beq vs.length n && Nat.ble (o+n) (csz E.toEnc ty) with
    |true=>some (.bnd l[j]? fun z=>match pkT E ty (spl (ga E ty z) o vs) with
     |some (z',[])=>.leaf (σ.setv k ty (l.set j z'))
     |_=>.fail)
    |false=>none
   |_,_,_=>none
  |_=>none
 |_,_=>none
def JJ{α:Type}(off n:Nat)(l:List α):Option (List α):=if off+n≤l.length then some ((l.drop off).take n) else none
def AN{T:Nat→Type}:Option (TV T)→Option (Ty × Nat × Nat × Nat)
 |some (.a (.vsl t k off n))=>some (t,k,off,n)
 |some (.a (.vec t k n))=>some (t,k,0,n)
 |_=>none
def MZ(o:Oper)(σ:TS E.T):Option (Tree (TS E.T)):=
 match o.dst,o.op with
 |some d,.call { callee:=.builtin .append,args:=⟨[.tmp s,y]⟩,argTypes:=⟨[t,u]⟩ }=>match AN (opT σ y),σ.rootT s with
  |some (ty,k,off,n),some r=>match σ.ownAt r,pL σ.h ty k with
   |some w,some l=>match kw (.sl w.t) (.sl ty) w.l,look Y.ty t,look Y.ty u with
    |some L,some (.slice e),some (.slice _)=>match look Y.sz e with
     |some (sz,by_)=>match(Nat.beq sz (csz E.toEnc ty) && Nat.ble 1 by_) && (Nat.ble 1 sz && Nat.ble (d+1) σ.n) with
      |true=>some (.bnd (JJ off n l) fun m=>.bnd (jf by_ L m) fun r'=>.leaf ((σ.lay r).dropC.put d (.a (.own ty r'))))
      |false=>none
     |none=>none
    |_,_,_=>none
   |_,_=>none
  |_,_=>none
 |_,_=>none
def Rx{α:Type}(off n:Nat)(l:List α)(z:α):Option (List α):=if 0 < n∧off+n≤l.length then some (l.take off++List.replicate n z++l.drop (off+n)) else none
def Kt(o:Oper)(σ:TS E.T):Option (Tree (TS E.T)):=
 match o.dst,o.op with
 |none,.call { callee:=.builtin .clear,args:=⟨[x]⟩,argTypes:=⟨[t]⟩ }=>match opT σ x,look Y.ty t with
  |some (.a (.vsl ty k off n)),some (.slice e)=>match pL σ.h ty k,look Y.zr e with
   |some l,some zv=>match pkT E ty (zv.cells.toList.map atomT),zv.cells.toList.all Value.oneCell',Nat.beq zv.cells.size (csz E.toEnc ty) with
    |some (z,[]),true,true=>some (.bnd (Rx off n l z) fun l'=>.leaf (σ.setv k ty l'))
    |_,_,_=>none
   |_,_=>none
  |_,_=>none
 |_,_=>none
def Lh(o:Oper)(σ:TS E.T):Option (Tree (TS E.T)):=
 match o.dst,o.op with
 |some d,.makeMap t none=>match look Y.ty t with
  |some (.map kt et)=>match look Y.ty kt,(look Y.ty et).bind MA,(σ.noId d && Nat.ble d 99999) && Nat.ble (d+1) σ.n with
   |some (.int .i64),some ty,true=>some (.leaf ((σ.boxI d ty []).put d (.a (.mpr d))))
   |_,_,_=>none
  |_=>none
 |none,.mapUpdate t x y z=>match look Y.ty t,opT σ x,asI (opT σ y) with
  |some (.map kt _),some (.a (.mpr k)),some (.i64,key)=>match look Y.ty kt,look σ.h k with
   |some (.int .i64),some (.imap ty l)=>match Pj ty (opT σ z) with
    |some v=>some (.leaf (σ.seti k ty (Dm l key v)))
    |none=>none
   |_,_=>none
  |_,_,_=>none
 |_,_=>none
def wo(o:Oper)(σ:TS E.T):Tree (TS E.T):=match Lh Y E o σ with
 |some t=>t
 |none=>match Kt Y E o σ with
 |some t=>t
 |none=>match MZ Y E o σ with
 |some t=>t
 |none=>match MC Y E o σ with
 |some t=>t
 |none=>match LM Y E G o σ with
  |some t=>t
  |none=>J9 Y E G o σ
end
section
variable {P:Program} {Y:Tys P} {E:Env} {G:Gam E} {ρ:Rn} {σ:TS E.T} {Q:Exit→AS→Prop} {ks:List It} {l:List Oper} {k:Nat} {o:Oper} {rest:List Oper}
abbrev On(P:Program)(E:Env)(Q:Exit→AS→Prop)(ρ:Rn)(its:List It)(σ':TS E.T):Prop:=∀ρ',Inj ρ' σ'.h→Agr ρ ρ'→aY P Q its (σ'.to E.toEnc ρ')
abbrev OnE(E:Env)(R:AS→Prop)(A:Rn→Prop)(σ':TS E.T):Prop:=∀ρ',Inj ρ' σ'.h→A ρ'→R (σ'.to E.toEnc ρ')
def Kn(mu:List Nat)(o:Oper):Bool:=match o.op with
 |.alloc _|.box _ _|.makeMap _ _=>true
 |_=>match o.dst with
  |some d=>ww mu d
  |none=>false
def Rt{T:Nat→Type}:Option (TV T)→Bool
 |some (.a (.vec _ _ _))=>true
 |_=>false
def Jl{T:Nat→Type}(σ:TS T)(o:Oper):Bool:=match o.op with
 |.call { callee:=.builtin .append,args:=⟨[x,_]⟩,argTypes:=_ }=>Rt (opT σ x)
 |.slice _ x none (some _) none=>Rt (opT σ x)
 |_=>false
def K1{T:Nat→Type}(mu:List Nat)(σ:TS T)(o:Oper):Bool:=Kn mu o || Jl σ o
def Low(R:AS→Prop):Prop:=∀σ σ':AS,σ.n=σ'.n→oz σ σ'→R σ'→R σ
section
variable {R:AS→Prop} {A:Rn→Prop}
theorem Low.low{σ σ':AS}(h:Low R)(hr:R σ')(hs:oz σ σ')(hn:σ.n=σ'.n):R σ:=h σ σ' hn hs hr
theorem p8{it:It}(hit:(match it with|.c _=>true|.o _ _ _=>true|_=>false)=true):Low (fun τ=>aY P Q (it::ks) τ):=fun _ _ _ hs h=>jH hit hs h
theorem sy{o:Oper}{σ:AS}{d:Nat}{u:AV}(hdst:o.dst=some d)(hd:Nat.ble (d+1) σ.n=true)(h:OpV P o σ u)(hn:R (σ.put d u)):cy P o σ R:=fun F X a hs=>
 (h F X a (hs.r o.op)).mono fun x w' ⟨X',h1,h2,h3,h4,h5⟩=>⟨X',σ.put d u,h1,hn,by rw[hdst];exact hs.put_new (ba hd) h2 h3 h4 h5,h2.ext hs.gb hs.fb⟩
theorem E1{σ:AS}{d s:Nat}{u:AV}{ty:TypeId}{pos:String}{af:Array Edge}{g:Option (Nat × Bool)}(hd:Nat.ble (d+1) σ.n=true)(hu:look σ.t s=some u)(hn:R (σ.mv d s u)):cy P ⟨some d,.move (.tmp s),ty,pos,af,g⟩ σ R:=fun F X a hs=>
 ci (x:=a.eval (.tmp s)) (w':=X.w) rfl ⟨X,_,rfl,hn,hs.mv (ba hd) hu,Ext.refl F X⟩
theorem zR{σ:AS}{d s:Nat}{u:AV}{ty:TypeId}{pos:String}{af:Array Edge}{g:Option (Nat × Bool)}(hd:Nat.ble (d+1) σ.n=true)(hu:look (σ.free d).t s=some u)(hn:R ((σ.free d).mv d s u)):cy P ⟨some d,.assign (.tmp s),ty,pos,af,g⟩ σ R:=fun F X a hs=>
 ci (x:=a.eval (.tmp s)) (w':=X.w) rfl ⟨X,_,rfl,hn,(hs.free d).mv (by rw[FN];exact ba hd) hu,Ext.refl F X⟩
theorem BN{σ:AS}{d b o:Nat}{cs:List AV}{u:AV}{t ty:TypeId}{x:Operand}{pos:String}{af:Array Edge}{g:Option (Nat × Bool)}{T:Tys P}{dsc:TypeDesc}(hd:Nat.ble (d+1) σ.n=true)(hx:opV σ x=some (.v (.pointer (some ⟨b,o,none⟩))))(hb:look σ.h b=some cs)(hu:cs[o]? =some u)(h0:look T.ty t=some dsc)(h1:lf dsc=true)
  (hm:u.isMp=false) (hn:R ((σ.put d u.rd).alias d (.c b o))):cy P ⟨some d,.load t x,ty,pos,af,g⟩ σ R:=by
 intro F X a hs
 have e1:=aL (hs.r (.load t x)) (by simp[Op.operands]) hx
 obtain⟨b1,b2,arr,e,fr,b3,b4,b5,b6⟩:=(hs.box b cs hb).at hu hm
 have hlt:=(List.getElem?_eq_some_iff.1 hu).1
 have hx:arr[o]? =some arr[o] :=Array.getElem?_eq_getElem (by omega)
 have hc:X.w.cell? ⟨b,o,none⟩=some arr[o] :=by simp only[World.cell?,b3];exact hx
 refine ci (x:=arr[o]) (w':=X.w) (by simp only[execOp,e1];exact aW (oQ (T.tyOk _ _ h0) h1 hc)) ⟨X,_,rfl,hn,?_,Ext.refl F X⟩
 have hput:=hs.put_new (ba hd) (New.refl X) hs.gb (b6 o u _ hu hx).rd (FreshOk.plain (ef u))
 refine hput.alias ?_
 simp only[rootV]
 rw[iF (by rw[hs.size];exact ba hd),hc]
theorem lq{d:Nat}(hi:Inj ρ σ.h)(hG:GOk P Y E G)(hA0:A ρ)(hdst:o.dst=some d)(hd:Nat.ble (d+1) σ.n=true)
  (h:(oN Y E G σ d o.op o.type).holds (OnE E R A)):cy P o (σ.to E.toEnc ρ) R:=by
 have hok:=Fp (Y:=Y) (σ:=σ) (d:=o.dst) (ty:=o.type) (pos:=o.pos) (af:=o.after) (g:=o.guard) hi hG o.op
 unfold oN at h
 cases hp:evP Y E G σ o.op o.type with
 |one u=>
  rw[hp] at h hok
  refine sy hdst hd hok ?_
  rw[← ce]
  exact h ρ hi hA0
 |opt q u=>
  rw[hp] at h hok
  obtain⟨z,hz,h⟩:=h
  refine sy hdst hd (hok z hz) ?_
  rw[← ce]
  exact h ρ hi hA0
 |bad=>rw[hp] at h;cases h
theorem BE(hi:Inj ρ σ.h)(r:Root):Inj ρ (σ.lay r).h:=hi.sub fun p hp=>let ⟨q,h1,h2,h3⟩:=Qu σ r p hp;⟨q,h1,h2,h3 ρ⟩
theorem uC{t:Ty}{y:Operand}{m:List (Den E.T t)}(h:EO t (opT σ y)=some m):∃v S,opV (σ.to E.toEnc ρ) y=some v∧Cf (csz E.toEnc t) v=some (m.map (cells E.toEnc t),S)∧S:=by
 have hone:∀ (t:Ty) (m:List (Den E.T t)),bE (m.map (cells E.toEnc t)):=fun t m r hr u hu=>by
  obtain⟨x,_,rfl⟩:=List.mem_map.1 hr
  exact(jU E.toEnc t x u hu).1
 cases hy:opT σ y with
 |none=>rw[hy] at h;cases h
 |some u=>
  rw[hy] at h
  refine⟨u.to E.toEnc ρ,?_⟩
  rw[ax hy]
  have hrow:∀ (l:List (Den E.T t)),(match Nat.beq (csz E.toEnc t) (csz E.toEnc t) with|true=>some (l.map (cells E.toEnc t),bE (l.map (cells E.toEnc t)))|false=>none)=some (l.map (cells E.toEnc t),bE (l.map (cells E.toEnc t))):=fun l=>by rw[Nat.beq_refl]
  cases u with
  |a x=>
   cases x with
   |d t' x=>
    cases t' with
    |sl t'=>
     obtain⟨e,rfl⟩:=em (show kw (.sl t') (.sl t) x=some m from h)
     cases e
     exact⟨_,rfl,hrow _,hone _ _⟩
    |str=>
     obtain⟨e,rfl⟩:=em (show kw (.sl .byte) (.sl t) x=some m from h)
     cases e
     exact⟨True,rfl,rfl,trivial⟩
    |_=>cases h
   |own t' l=>
    obtain⟨e,rfl⟩:=em (show kw (.sl t') (.sl t) l=some m from h)
    cases e
    exact⟨_,rfl,hrow _,hone _ _⟩
   |raw v=>
    cases v with
    |slice a n c=>
     cases a<;> cases n<;> cases c<;> first
      | (have h' : some [] = some m := h
         cases h'
         exact⟨True,rfl,rfl,trivial⟩)
      |cases h
    |_=>cases h
   |_=>cases h
  |_=>cases h
theorem oV{α:Type}{by_:Nat}{l m r:List α}(h:jf by_ l m=some r):(l.length+m.length) * by_≤140737488355328∧r=l++m:=by
 unfold jf at h
 split at h
 ·rename_i h0;cases h;exact⟨h0,rfl⟩
 ·cases h
theorem EX{T:Nat→Type}(d:Nat)(v:Value):(constT v:TV T).noId d=true:=by
 cases v with
 |int k n=>
  cases k with
  |u8=>unfold constT;simp only;split<;> rfl
  |_=>rfl
 |bool b=>cases b<;> rfl
 |agg xs=>simp[constT,TV.noId,TA.noId]
 |tuple xs=>simp[constT,TV.noId,TC.noId,TA.noId]
 |_=>rfl
theorem Kr{d:Nat}{x y:Operand}{t u e:TypeId}{du:TypeDesc}{sz by_:Nat}(hi:Inj ρ σ.h)(hA0:A ρ)
  (hop:o=⟨some d,.call { callee:=.builtin .append,args:= #[x,y],argTypes:= #[t,u] },o.type,o.pos,o.after,o.guard⟩) (hd:Nat.ble (d+1) σ.n=true) (ht:look Y.ty t=some (.slice e)) (hu:look Y.ty u=some du) (hnz:ut du=true) (hz:look Y.sz e=some (sz,by_)) (hb:Nat.ble 1 by_=true)
  (h:(TJ E σ d t e x y sz by_).holds (OnE E R A)):cy P o (σ.to E.toEnc ρ) R:=by
 have nilCase : ∀ (ty : Ty), opV (σ.to E.toEnc ρ) x = some (.v (.slice none 0 0)) → (match Nat.beq sz (csz E.toEnc ty), EO ty (opT σ y) with
    |true,some m=>Tree.bnd (jf by_ [] m) fun r'=>.leaf (σ.dropC.put d (.a (.own ty r')))
    |_,_=>.fail).holds (OnE E R A)→cy P o (σ.to E.toEnc ρ) R:=by
  intro ty hx hh
  split at hh
  ·rename_i m hs hm
   obtain⟨r',hr,hh⟩:=hh
   obtain⟨h1,h2⟩:=oV hr
   obtain⟨v,S,k1,k2,k3⟩:=uC (ρ:=ρ) hm
   have hs':=kT hs
   subst hs'
   have heff:=cU (P:=P) (T:=Y) (d:=d) (ty:=o.type) (pos:=o.pos) (af:=o.after) (g:=o.guard) hx ht hu (by cases du<;> first|rfl|cases hnz) hz hb k1 k2 hd k3 (by simpa using h1)
   rw[hop]
   refine heff _ ?_
   have:=hh ρ hi hA0
   rw[ce,uD,h2,List.nil_append] at this
   exact this
  ·cases hh
 unfold TJ at h
 split at h
 ·rename_i s
  split at h
  ·rename_i r hr
   split at h
   ·rename_i ty L hown
    split at h
    ·rename_i m hs hm
     obtain⟨r',hr',h⟩:=h
     obtain⟨h1,h2⟩:=oV hr'
     obtain⟨v,S,k1,k2,k3⟩:=uC (ρ:=ρ) hm
     have hs':=kT hs
     subst hs'
     have heff:=a7 (P:=P) (T:=Y) (d:=d) (ty:=o.type) (pos:=o.pos) (af:=o.after) (g:=o.guard) (t6 hr) (y9 σ hi hown) ht hu (by cases du<;> first|rfl|cases hnz) hz hb k1 k2 hd k3 (by simpa using h1)
     rw[hop]
     refine heff _ ?_
     have:=h ρ (BE hi r) hA0
     rw[ce,uD,BI σ hi hown,h2] at this
     have e2:(TV.a (TA.own ty (L++m)):TV E.T).to E.toEnc ρ=.sl true (csz E.toEnc ty) (L.map (cells E.toEnc ty)++m.map (cells E.toEnc ty)):=by
      show AV.sl true _ (List.map _ (L++m))=_
      rw[List.map_append]
     rw[e2] at this
     exact this
    ·cases h
   ·cases h
  ·split at h
   ·rename_i ty hx hty
    exact nilCase ty (ax (x:=.tmp s) hx) h
   ·rename_i ty L hx
    split at h
    ·rename_i m hs hm
     obtain⟨r',hr,hh⟩:=h
     have hr2:m≠[] ∧jf by_ L m=some r':=by
      unfold Rq at hr
      split at hr
      ·cases hr
      ·exact⟨by simp,hr⟩
     obtain⟨h1,h2⟩:=oV hr2.2
     obtain⟨v,S,k1,k2,k3⟩:=uC (ρ:=ρ) hm
     have hs':=kT hs
     subst hs'
     have heff:=zC (P:=P) (T:=Y) (σ:=σ.to E.toEnc ρ) (d:=d) (ty:=o.type) (pos:=o.pos) (af:=o.after) (g:=o.guard) (L:=L.map (cells E.toEnc ty)) (m:=m.map (cells E.toEnc ty)) (ax (x:=.tmp s) hx) ht hu (by cases du<;> first|exact .inl rfl|exact .inr ⟨_,rfl⟩|cases hnz) hz hb (rx k1 k2 k3) (by simpa using h1) (by simpa using hr2.1) hd (R:=R)
     rw[hop]
     refine heff ?_
     have:=hh ρ hi hA0
     rw[ce,uD,h2] at this
     have e2:(TV.a (TA.own ty (L++m)):TV E.T).to E.toEnc ρ=.sl true (csz E.toEnc ty) (L.map (cells E.toEnc ty)++m.map (cells E.toEnc ty)):=by
      show AV.sl true _ (List.map _ (L++m))=_
      rw[List.map_append]
     rw[e2] at this
     exact this
    ·cases h
   ·cases h
 ·split at h
  ·rename_i ty hty
   exact nilCase ty rfl h
  ·cases h
 ·cases h
theorem yN{x:TA E.T}(h:x.simple=true):(x.to E.toEnc ρ).one=true:=by
 cases x with
 |d t x=>
  cases t with
  |nam i=>cases h
  |bits n=>cases h
  |ptr t=>cases x<;> rfl
  |_=>rfl
 |clip t l=>cases h
 |raw v=>cases v<;> first|rfl|cases h
 |vec t i n=>obtain⟨a,m,c,e⟩:=TA.vec_form E.toEnc ρ t i n;rw[e];rfl
 |vsl t i off n=>obtain⟨a,m,c,e⟩:=TA.vsl_form E.toEnc ρ t i off n;rw[e];rfl
 |_=>rfl
theorem A8{x:TA E.T}(h:x.simple=true):x.rd.simple=true:=by
 cases x<;> first|exact h|rfl
theorem NT(x:TA E.T):x.rd.plain=true:=by cases x<;> rfl
theorem mh{x:TA E.T}(h:x.simple=true):(x.to E.toEnc ρ).cells=[x.to E.toEnc ρ] ∧(x.to E.toEnc ρ).okc=true:=by
 cases x with
 |d t x=>
  cases t with
  |nam i=>cases h
  |bits n=>cases h
  |ptr t=>cases x<;> exact⟨rfl,rfl⟩
  |_=>exact⟨rfl,rfl⟩
 |raw v=>cases v<;> first|exact⟨rfl,rfl⟩|cases h
 |vec t i n=>obtain⟨a,m,c,e⟩:=TA.vec_form E.toEnc ρ t i n;rw[e];exact⟨rfl,rfl⟩
 |vsl t i off n=>obtain⟨a,m,c,e⟩:=TA.vsl_form E.toEnc ρ t i off n;rw[e];exact⟨rfl,rfl⟩
 |_=>exact⟨rfl,rfl⟩
theorem yj{u:TV E.T}{vs:List (TA E.T)}(h:u.cs1=some vs):(u.to E.toEnc ρ).okc=true∧(u.to E.toEnc ρ).rd.cells=vs.map (TA.to E.toEnc ρ)∧((u.to E.toEnc ρ).rd.cells.all AV.one)=true∧((u.to E.toEnc ρ).rd.cells.all fun u=>(cw (some u)).isNone)=true:=by
 unfold TV.cs1 at h
 split at h
 ·rename_i x
  split at h
  ·rename_i hs
   cases h
   obtain⟨h1,h2⟩:=mh (ρ:=ρ) hs
   obtain⟨h3,h4⟩:=mh (ρ:=ρ) (A8 hs)
   have e:((TV.a x:TV E.T).to E.toEnc ρ).rd.cells=[x.rd.to E.toEnc ρ] :=by
    show(x.to E.toEnc ρ).rd.cells=_
    rw[← TA.rd_to,h3]
   refine⟨h2,e,?_,?_⟩
   ·rw[e];simp only[List.all_cons,List.all_nil,Bool.and_true];exact yN (A8 hs)
   ·rw[e];simp only[List.all_cons,List.all_nil,Bool.and_true,TA.plain_to _ _ (NT x)];rfl
  ·cases h
 ·rename_i l
  split at h
  ·rename_i hs
   cases h
   refine⟨rfl,rfl,?_,?_⟩
   ·show(vs.map (TA.to E.toEnc ρ)).all AV.one=true
    rw[List.all_map,List.all_eq_true]
    intro x hx
    have:=List.all_eq_true.1 hs x hx
    simp only[Bool.and_eq_true] at this
    exact yN this.1
   ·show(vs.map (TA.to E.toEnc ρ)).all (fun u=>(cw (some u)).isNone)=true
    rw[List.all_map,List.all_eq_true]
    intro x hx
    have:=List.all_eq_true.1 hs x hx
    simp only[Bool.and_eq_true] at this
    simp only[Function.comp,TA.plain_to _ _ this.2];rfl
  ·cases h
 ·rename_i f l
  split at h
  ·rename_i is hc
   cases h
   have e:(TV.fn f l:TV E.T).to E.toEnc ρ=(TA.fnb f is:TA E.T).to E.toEnc ρ:=by
    rw[Ck hc]
    simp only[TV.to,TA.to,List.map_map]
    rfl
   rw[e]
   exact⟨rfl,rfl,rfl,rfl⟩
  ·cases h
 ·cases h
theorem uu{k:Nat}{cs0:List (TA E.T)}(hi:Inj ρ σ.h)(hb:look σ.h k=some (.cs cs0))(cs:List (TA E.T)):Inj ρ (σ.setc k cs).h:=kJ hi hb rfl
theorem tk{t:TypeId}{kk p n by_:Nat}{x y:Operand}(hi:Inj ρ σ.h)(hR:Low R)(hA0:A ρ)(hop:o=⟨none,.store t x y,o.type,o.pos,o.after,o.guard⟩)
  (hx:opT σ x=some (.a (.box kk p))) (hz:look Y.sz t=some (n,by_)) (h:(yb E σ t kk p n y).holds (OnE E R A)):cy P o (σ.to E.toEnc ρ) R:=by
 unfold yb at h
 split at h
 ·rename_i cs hb hy
  split at h
  ·rename_i ty hty
   split at h
   ·rename_i hc
    simp only[Bool.and_eq_true] at hc
    have hn:=kT hc.1
    subst hn
    rw[hop]
    have heff:=eY (P:=P) (T:=Y) (ty:=o.type) (pos:=o.pos) (af:=o.after) (g:=o.guard) (u0:=.v (.slice none 0 0)) (ax (ρ:=ρ) hx) (lR hi hb) (ax (ρ:=ρ) hy) rfl hz rfl rfl rfl (by simpa using hc.2) (sB cs)
    refine heff _ ?_
    refine hR.low (h ρ (uu hi hb _) hA0) (fun F X tm hs=> ?_) rfl
    refine hs.le2 rfl (fun t u' hu=>⟨u',hu,.refl _⟩) (fun q cs' hq=> ?_) (fun p hp=> ?_)
    ·have e:((σ.setc kk (spl cs p [.own ty []])).to E.toEnc ρ).h=(ρ kk,(spl cs p [.own ty []]).map (TA.to E.toEnc ρ))::hTo E.toEnc ρ σ.h:=rfl
     rw[e,ab] at hq
     have e2:((σ.to E.toEnc ρ).setc (ρ kk) (b7 (cs.map (TA.to E.toEnc ρ)) p (AV.rd (.v (.slice none 0 0))).cells)).h=(ρ kk,b7 (cs.map (TA.to E.toEnc ρ)) p [.v (.slice none 0 0)])::hTo E.toEnc ρ σ.h:=rfl
     rw[e2,ab]
     split at hq
     ·rename_i e3
      rw[if_pos e3]
      cases hq
      refine⟨_,rfl,?_⟩
      rw[re]
      unfold b7
      exact((LeL.refl _).append (.cons (.nil _ _) .nil)).append (LeL.refl _)
     ·rename_i e3
      rw[if_neg e3]
      exact⟨cs',hq,LeL.refl _⟩
    ·rw[wT] at hp;exact hp
   ·cases h
  ·cases h
 ·rename_i cs u hnn hb hy
  split at h
  ·rename_i vs hvs
   split at h
   ·rename_i hc
    simp only[Bool.and_eq_true] at hc
    obtain⟨c1,c2,c3,c4⟩:=yj (ρ:=ρ) hvs
    rw[hop]
    have heff:=eY (P:=P) (T:=Y) (ty:=o.type) (pos:=o.pos) (af:=o.after) (g:=o.guard) (ax (ρ:=ρ) hx) (lR hi hb) (ax (ρ:=ρ) hy) c1 hz (by rw[c2,List.length_map];exact hc.1) c3 c4 (by simpa using hc.2) (sB cs)
    refine heff _ ?_
    have hle:=wP (E:=E) (ρ:=ρ) ((look E.ct t).getD []) vs
    refine hR.low (h ρ (uu hi hb _) hA0) (fun F X tm hs=> ?_) rfl
    refine hs.le2 rfl (fun t u' hu=>⟨u',hu,.refl _⟩) (fun q cs' hq=> ?_) (fun pp hp=> ?_)
    ·have e:((σ.setc kk (spl cs p (wq ((look E.ct t).getD []) vs))).to E.toEnc ρ).h=(ρ kk,(spl cs p (wq ((look E.ct t).getD []) vs)).map (TA.to E.toEnc ρ))::hTo E.toEnc ρ σ.h:=rfl
     rw[e,ab] at hq
     have e2:((σ.to E.toEnc ρ).setc (ρ kk) (b7 (cs.map (TA.to E.toEnc ρ)) p (u.to E.toEnc ρ).rd.cells)).h=(ρ kk,b7 (cs.map (TA.to E.toEnc ρ)) p (u.to E.toEnc ρ).rd.cells)::hTo E.toEnc ρ σ.h:=rfl
     rw[e2,ab]
     split at hq
     ·rename_i e3
      rw[if_pos e3]
      cases hq
      refine⟨_,rfl,?_⟩
      rw[re,c2]
      unfold b7
      rw[hle.length]
      exact((LeL.refl _).append hle).append (LeL.refl _)
     ·rename_i e3
      rw[if_neg e3]
      exact⟨cs',hq,LeL.refl _⟩
    ·rw[wT] at hp;exact hp
   ·cases h
  ·cases h
 ·cases h
theorem IP(hi:Inj ρ σ.h)(hG:GOk P Y E G)(hR:Low R)(hA0:A ρ)(hA1:Kn G.mu o=true→∀d x,Nat.ble d 99999=true→A (dA ρ d x))(h:(J9 Y E G o σ).holds (OnE E R A)):cy P o (σ.to E.toEnc ρ) R:=by
 obtain⟨dst,op,ty,pos,af,g⟩:=o
 unfold J9 at h
 simp only at h
 split at h
 ·rename_i d
  split at h
  ·rename_i hd
   split at h
   ·rename_i s
    split at h
    ·exact lq (Y:=Y) hi hG hA0 rfl hd h
    ·rename_i u hn hu
     refine E1 hd (u:=u.to E.toEnc ρ) (by simp only[TS.to,bD,hu];rfl) ?_
     have:=h ρ (by rw[Rk];exact hi) hA0
     rw[← Kg hu (fun v e=>hn v e)] at this
     exact this
    ·cases h
   ·rename_i s
    split at h
    ·exact lq (Y:=Y) hi hG hA0 rfl hd h
    ·rename_i u hn hu
     refine zR hd (u:=u.to E.toEnc ρ) (by rw[← DB];simp only[TS.to,bD,hu];rfl) ?_
     have:=h ρ (by rw[Rk,PD];exact hi) hA0
     rw[← Kg hu (fun v e=>hn v e),DB] at this
     exact this
    ·cases h
   ·rename_i c x y
    split at h
    ·rename_i hc
     split at h
     ·rename_i u hu
      refine sy rfl hd (jZ (b:=true) (ax hc) rfl (ax hu)) ?_
      have:=h ρ hi hA0
      rw[ce,TV.rd_to] at this
      exact this
     ·cases h
    ·rename_i hc
     split at h
     ·rename_i u hu
      refine sy rfl hd (ka (b:=false) (ax hc) rfl (ax hu)) ?_
      have:=h ρ hi hA0
      rw[ce,TV.rd_to] at this
      exact this
     ·cases h
    ·rename_i b hc
     split at h
     ·rename_i u v hu hv
      cases hb:b with
      |true=>
       refine sy rfl hd (jZ (b:=b) (ax hc) hb (ax hu)) ?_
       have:=h.1 hb ρ hi hA0
       rw[ce,TV.rd_to] at this
       exact this
      |false=>
       refine sy rfl hd (ka (b:=b) (ax hc) hb (ax hv)) ?_
       have:=h.2 hb ρ hi hA0
       rw[ce,TV.rd_to] at this
       exact this
     ·cases h
    ·cases h
   ·rename_i el
    split at h
    ·rename_i zv hz hn'
     simp only[Bool.and_eq_true] at hn'
     obtain⟨hn,hnb⟩:=hn'
     refine rr (T:=Y) hz hd fun b hb=> ?_
     have:=h (upd ρ d b) (C3 hi hn hb) (hA1 rfl d ⟨b,false,[]⟩ hnb)
     refine hR.low this (fun F X tm hs=> ?_) rfl
     rw[ce]
     have e:((σ.boxT d (v7 ((look E.ct el).getD []) zv.cells.toList)).to E.toEnc (upd ρ d b))=(σ.to E.toEnc ρ).box b ((v7 ((look E.ct el).getD []) zv.cells.toList).map (TA.to E.toEnc (upd ρ d b))):=by
      exact pt (x:=⟨b,false,[]⟩) hn rfl
     have e2:(TV.a (TA.box d 0):TV E.T).to E.toEnc (upd ρ d b)=.v (.pointer (some ⟨b,0,none⟩)):=by
      show AV.v (.pointer (some ⟨upd ρ d b d,0,none⟩))=_
      rw[kO]
     rw[e,e2]
     refine hs.le2 rfl (fun t u' hu=>⟨u',hu,.refl _⟩) (fun q cs' hq=> ?_) (fun p hp=>hp)
     simp only[AS.put,AS.box,ab] at hq ⊢
     split at hq
     ·rename_i e3
      rw[if_pos e3]
      cases hq
      exact⟨_,rfl,zh _ _⟩
     ·rename_i e3
      rw[if_neg e3]
      exact⟨cs',hq,LeL.refl _⟩
    ·cases h
   ·rename_i el x
    split at h
    ·rename_i u hx hn'
     simp only[Bool.and_eq_true] at hn'
     obtain⟨hn,hnb⟩:=hn'
     split at h
     ·rename_i vs hvs
      obtain⟨c1,c2,c3,c4⟩:=yj (ρ:=ρ) hvs
      refine MP (ax (ρ:=ρ) hx) c1 c4 hd fun b hb=> ?_
      have:=h (upd ρ d b) (C3 hi hn hb) (hA1 rfl d ⟨b,false,[]⟩ hnb)
      rw[ce] at this
      have hnv:vs.all (TA.noId d)=true∨True:=.inr trivial
      have e2:(TV.a (TA.box d 0):TV E.T).to E.toEnc (upd ρ d b)=.v (.pointer (some ⟨b,0,none⟩)):=by
       show AV.v (.pointer (some ⟨upd ρ d b d,0,none⟩))=_
       rw[kO]
      have hvu:vs.map (TA.to E.toEnc (upd ρ d b))=vs.map (TA.to E.toEnc ρ):=by
       refine ls ?_
       have hu:u.noId d=true:=by
        cases x with
        |tmp t=>
         simp only[opT] at hx
         unfold TS.noId at hn
         simp only[Bool.and_eq_true] at hn
         exact List.all_eq_true.1 hn.1.1 _ (cI hx)
        |const v=>cases hx;exact EX d v
        |func f=>cases hx;rfl
        |global g=>cases hx;rfl
       unfold TV.cs1 at hvs
       split at hvs
       ·rename_i x0
        split at hvs
        ·cases hvs
         simp only[List.all_cons,List.all_nil,Bool.and_true]
         cases x0<;> first|exact hu|rfl
        ·cases hvs
       ·split at hvs
        ·cases hvs;exact hu
        ·cases hvs
       ·rename_i f l
        split at hvs
        ·rename_i is hc
         cases hvs
         have hu':l.all (TA.noId d)=true:=hu
         rw[Ck hc] at hu'
         simp only[List.all_map] at hu'
         simp only[List.all_cons,List.all_nil,Bool.and_true]
         exact hu'
        ·cases hvs
       ·cases hvs
      have e:((σ.boxT d vs).to E.toEnc (upd ρ d b))=(σ.to E.toEnc ρ).box b (vs.map (TA.to E.toEnc ρ)):=by
       rw[← hvu];exact pt (x:=⟨b,false,[]⟩) hn rfl
      rw[e,e2,← c2] at this
      exact this
     ·cases h
    ·cases h
   ·rename_i t x
    split at h
    ·rename_i kk p dsc hx h0
     split at h
     ·rename_i h1
      split at h
      ·rename_i cs hb
       split at h
       ·rename_i c hc
        have:=h ρ hi hA0
        rw[DD,ce] at this
        refine BN (T:=Y) hd (ax (ρ:=ρ) hx) (lR hi hb) (u:=c.to E.toEnc ρ) (by simp[hc]) h0 h1 (TA.to_notMp _ _ _) ?_
        have e:(TV.a c.rd:TV E.T).to E.toEnc ρ=(c.to E.toEnc ρ).rd:=TA.rd_to _ _ _
        rw[e] at this
        exact this
       ·cases h
      ·cases h
     ·exact lq (Y:=Y) hi hG hA0 rfl hd h
    ·exact lq (Y:=Y) hi hG hA0 rfl hd h
   ·rename_i t
    split at h
    ·rename_i kt et h0
     split at h
     ·rename_i ty' hk het hn'
      simp only[Bool.and_eq_true] at hn'
      obtain⟨hn,hnb⟩:=hn'
      refine n6 (T:=Y) rfl h0 hk hd fun b hb=> ?_
      have:=h (upd ρ d b) (iZ hi hn fun _=>hb) (hA1 rfl d ⟨b,false,[]⟩ hnb)
      rw[ce] at this
      have e:((σ.boxM d ty' []).to E.toEnc (upd ρ d b))=(σ.to E.toEnc ρ).box b [smap []] :=by
       exact pt (x:=⟨b,false,[]⟩) hn rfl
      have e2:(TV.a (TA.mpr d):TV E.T).to E.toEnc (upd ρ d b)=.v (.map (some b)):=by
       show AV.v (.map (some (upd ρ d b d)))=_
       rw[kO]
      rw[e,e2] at this
      exact this
     ·cases h
    ·cases h
   ·rename_i xs ats
    split at h
    ·rename_i x y t u hxs hats
     have hxs':xs= #[x,y] :=by cases xs;simp at hxs;subst hxs;rfl
     have hats':ats= #[t,u] :=by cases ats;simp at hats;subst hats;rfl
     subst hxs' hats'
     split at h
     ·rename_i e du ht hu
      split at h
      ·rename_i sz by_ hz
       split at h
       ·rename_i hc
        simp only[Bool.and_eq_true] at hc
        exact Kr (Y:=Y) hi hA0 rfl hd ht hu hc.1 hz hc.2 h
       ·cases h
      ·cases h
     ·cases h
    ·cases h
   ·exact lq (Y:=Y) hi hG hA0 rfl hd h
  ·cases h
 ·split at h
  ·rename_i t x y
   split at h
   ·rename_i kk p n by_ hx hz
    split at h
    ·rename_i s
     split at h
     ·rename_i r hr
      split at h
      ·rename_i ty' L hown
       split at h
       ·rename_i cs hb
        split at h
        ·rename_i hc
         simp only[Bool.and_eq_true] at hc
         have hn:=kT hc.1
         subst hn
         have hi':=BE (σ:=σ) hi r
         have hlk:look ((σ.to E.toEnc ρ).lay (r.to ρ)).h (ρ kk)=some (cs.map (TA.to E.toEnc ρ)):=by
          rw[← BI σ hi hown];exact dc E.toEnc hi' hb rfl
         have heff:=fB (P:=P) (T:=Y) (ty:=ty) (pos:=pos) (af:=af) (g:=g) (ax (ρ:=ρ) hx) (t6 hr) (y9 σ hi hown) hlk hz (by simpa using hc.2) (sB cs)
         refine heff _ ?_
         have:=h ρ (uu hi' hb _) hA0
         rw[wT,re,BI σ hi hown] at this
         exact this
        ·cases h
       ·cases h
      ·exact tk (Y:=Y) hi hR hA0 rfl hx hz h
     ·exact tk (Y:=Y) hi hR hA0 rfl hx hz h
    ·exact tk (Y:=Y) hi hR hA0 rfl hx hz h
   ·cases h
  ·rename_i t x y z
   split at h
   ·rename_i kt et kk key h0 hx hy
    split at h
    ·rename_i ty' l hk hb
     split at h
     ·rename_i v hv
      obtain⟨u,hu1,hu2⟩:=HA (ρ:=ρ) hv
      have hb':look (σ.to E.toEnc ρ).h (ρ kk)=some [smap (l.map fun p=>(p.1,one E.toEnc ty' p.2))] :=dc E.toEnc hi hb rfl
      refine BW (T:=Y) (ax (ρ:=ρ) hx) hb' (nZ hy) hu1 h0 hk ?_
      rw[hu2,E0]
      have:=h ρ (kJ hi hb rfl) hA0
      rw[P4] at this
      exact this
     ·cases h
    ·cases h
   ·cases h
  ·cases h
theorem Oq{t:Ty}{v:Value}{z:Den E.T t}(h:NJ t v=some z):AV.v v=one E.toEnc t z:=by
 cases t with
 |byte=>
  cases v with
  |int k n=>
   cases k with
   |u8=>
    simp only[NJ] at h
    split at h
    ·rename_i hn
     cases h
     show _=AV.v (.int .u8 ((UInt8.ofNat n.toNat).toNat:Int))
     rw[hn]
    ·cases h
   |_=>cases h
  |_=>cases h
 |int k=>
  have h':rZ (.int k) v=some z:=h
  cases v with
  |int k' n=>exact(kv (E:=E.toEnc) h').1
  |_=>cases h'
 |bool=>
  have h':rZ .bool v=some z:=h
  cases v with
  |bool b=>exact(kv (E:=E.toEnc) h').1
  |_=>cases h'
 |str=>
  have h':rZ .str v=some z:=h
  cases v with
  |string b=>exact(kv (E:=E.toEnc) h').1
  |_=>cases h'
 |_=>cases h
theorem va{t:Ty}:∀ {vs:List Value} {zs:List (Den E.T t)},y7 t vs=some zs→vs.map AV.v=zs.map (one E.toEnc t)
 | [],_,h=>by cases h;rfl
 |v::vs,zs,h=>by
  simp only[y7] at h
  split at h
  ·rename_i z zs' hz hzs
   cases h
   rw[List.map_cons,List.map_cons,Oq hz,va hzs]
  ·cases h
theorem Bx{d b:Nat}{t:Ty}{l:List (Den E.T t)}(hl:t.lone=true)(hn:σ.noId d=true):(σ.boxR d t l).to E.toEnc (upd ρ d b)=(σ.to E.toEnc ρ).box b (l.map (one E.toEnc t)):=by
 rw[← kh (ρ:=upd ρ d b) hl]
 exact pt (x:=⟨b,false,[]⟩) hn rfl
theorem yU{d k:Nat}{t:Ty}{l:List (Den E.T t)}(hi:Inj ρ σ.h)(hn:σ.noId d=true)(hk:gm k (σ.to E.toEnc ρ).h):Inj (upd ρ d k) (σ.boxR d t l).h:=iZ hi hn fun _=>hk
theorem Tk(d b:Nat):(TV.a (TA.box d 0):TV E.T).to E.toEnc (upd ρ d b)=.v (.pointer (some ⟨b,0,none⟩)):=by
 show AV.v (.pointer (some ⟨upd ρ d b d,0,none⟩))=_
 rw[kO]
theorem Mk(d b n c:Nat):(TV.a (TA.bsl d 0 n c):TV E.T).to E.toEnc (upd ρ d b)=.v (.slice (some ⟨b,0,none⟩) n c):=by
 show AV.v (.slice (some ⟨upd ρ d b d,0,none⟩) n c)=_
 rw[kO]
theorem Nj(v:Value)(m:Nat):(madeCells #[v] m).toList=List.replicate m v:=by
 have:madeCells #[v] m=Array.replicate m v:=by
  apply Array.ext
  ·simp[madeCells]
  ·intro j h1 h2
   have hm:j % 1=0:=Nat.mod_one j
   simp[madeCells,hm]
 rw[this];simp
theorem I7{by_:Nat}{n c:Int}{p:Nat × Nat}(h:SD by_ n c=some p):n=(p.1:Int)∧c=(p.2:Int)∧p.1≤p.2∧by_ * p.2≤281474976710656∧p.2≤9223372036854775807:=by
 unfold SD at h
 split at h
 ·rename_i hc
  cases h
  obtain⟨h1,h2,h3,h4⟩:=hc
  have e:((by_ * c.toNat:Nat):Int)=(by_:Int) * c:=by rw[Int.natCast_mul,Int.toNat_of_nonneg (by omega)]
  refine⟨?_,?_,?_,?_,?_⟩<;> simp only<;> omega
 ·cases h
theorem Dd{t:Ty}{l:List (Den E.T t)}{o:Nat}{v:Den E.T t}(h:o < l.length):b7 (l.map (one E.toEnc t)) o [one E.toEnc t v] =(l.set o v).map (one E.toEnc t):=by
 unfold b7
 rw[← List.map_take,List.length_singleton,← List.map_drop,List.set_eq_take_append_cons_drop,if_pos h]
 simp
theorem I2{R:List (List AV)}{t:Ty}{xs:List (Den E.T t)}(hl:t.lone=true)(h:LeR R (xs.map (cells E.toEnc t))):LeL R.flatten (xs.map (one E.toEnc t)):=by
 induction xs generalizing R with
 |nil=>cases h;exact .nil
 |cons x xs ih=>
  rw[List.map_cons] at h ⊢
  cases h with
  |cons h1 h2=>
   rw[pG E.toEnc hl] at h1
   rw[List.flatten_cons]
   exact LeL.append h1 (ih h2)
theorem OE{t:Ty}(h:t.lone=true):csz E.toEnc t=1:=by cases t<;> first|rfl|cases h
theorem yp{t:Ty}(h:t.lone=true)(l:List (Den E.T t)):(l.map (cells E.toEnc t)).flatten=l.map (one E.toEnc t):=kh (ρ:=Rn.zero) h l
theorem I4{t:Tree (TS E.T)}(hi:Inj ρ σ.h)(hG:GOk P Y E G)(hR:Low R)(hA0:A ρ)(hA1:Kn G.mu o=true→∀d x,Nat.ble d 99999=true→A (dA ρ d x))(ht:LM Y E G o σ=some t)(h:t.holds (OnE E R A)):cy P o (σ.to E.toEnc ρ) R:=by
 obtain⟨dst,op,ty,pos,af,g⟩:=o
 unfold LM at ht
 simp only at ht
 split at ht
 ·rename_i d el
  split at ht
  ·rename_i an e ha
   split at ht
   ·rename_i ty' zv hb hz hn'
    simp only[Bool.and_eq_true] at hn'
    obtain⟨⟨hn,hnb⟩,hd⟩:=hn'
    split at ht
    ·rename_i L hlo hzs
     cases ht
     refine rr (T:=Y) hz hd fun b hb=> ?_
     have:=h (upd ρ d b) (yU hi hn hb) (hA1 rfl d ⟨b,false,[]⟩ hnb)
     rw[ce,Bx hlo hn,Tk] at this
     rw[va hzs]
     exact this
    ·cases ht
   ·cases ht
  ·cases ht
 ·rename_i d t0 x y
  split at ht
  ·rename_i e kx n ky c hmu h0 hx hy
   split at ht
   ·rename_i ty' zv by_ hb hz hs hn'
    simp only[Bool.and_eq_true] at hn'
    obtain⟨⟨hn,hnb⟩,hd⟩:=hn'
    split at ht
    ·rename_i z hlo hzs
     cases ht
     obtain⟨p,hp,h⟩:=h
     obtain⟨e1,e2,e3,e4,e5⟩:=I7 hp
     subst e1 e2
     have hc:=va (E:=E) hzs
     have hcz:∃v,zv.cells= #[v] :=by
      have hlen:=congrArg List.length hc
      simp at hlen
      refine⟨zv.cells[0],?_⟩
      apply Array.ext
      ·simp[hlen]
      ·intro j h1 h2;simp at h2;subst h2;simp
     obtain⟨v,hv⟩:=hcz
     refine CE (T:=Y) (dg hx) (dg hy) e3 h0 hs hz e4 e5 hd fun b hb=> ?_
     rw[hv] at hc ⊢
     rw[Nat.mul_one,Nj,List.map_replicate]
     simp only[List.map_cons,List.map_nil,List.cons.injEq,and_true] at hc
     simp only[OnE] at h
     cases hvm:ww G.mu (d+1000000) with
     |true=>
      rw[hvm] at h
      have hll:(List.replicate p.1 z).length=p.1:=List.length_replicate
      have hcs:csz E.toEnc ty'=1:=(eK E.toEnc ty' z).symm.trans (by rw[pG E.toEnc hlo];rfl)
      have hin:Inj (dA ρ d ⟨b,false,List.replicate (p.2 - p.1) v⟩) (((σ.newB d (.vec d ty' (List.replicate p.1 z))).put d (.a (.vec ty' d (List.replicate p.1 z).length))):TS E.T).h:=iZ hi hn fun _=>hb
      have:=h _ hin (hA1 hmu d _ hnb)
      rw[ce,pt (x:=⟨b,false,List.replicate (p.2 - p.1) v⟩) hn (by simp only[a8,nU];rfl)] at this
      have hbx:(TB.vec d ty' (List.replicate p.1 z):TB E.T).to E.toEnc (dA ρ d ⟨b,false,List.replicate (p.2 - p.1) v⟩)=List.replicate p.2 (.v v):=by
       simp only[TB.to,nU]
       have:=kh (ρ:=ρ) hlo (List.replicate p.1 z)
       rw[show((List.replicate p.1 z).map (cells E.toEnc ty')).flatten=_ from this,List.map_replicate,List.map_replicate,← hc,List.replicate_append_replicate]
       congr 1;omega
      have hsl:(TV.a (TA.vec ty' d (List.replicate p.1 z).length):TV E.T).to E.toEnc (dA ρ d ⟨b,false,List.replicate (p.2 - p.1) v⟩)=.v (.slice (some ⟨b,0,none⟩) p.1 p.2):=by
       simp only[TV.to,TA.to,nU]
       unfold vecV
       rw[hcs,hll,if_neg (by simp),Nat.div_one,List.length_replicate]
       congr 3;omega
      rw[hbx,hsl] at this
      exact this
     |false=>
      rw[hvm] at h
      have:=h (upd ρ d b) (yU hi hn hb) (hA1 hmu d ⟨b,false,[]⟩ hnb)
      rw[ce,Bx hlo hn,Mk,List.map_replicate] at this
      rw[hc]
      exact this
    ·cases ht
   ·cases ht
  ·cases ht
 ·rename_i d t0 len ps
  split at ht
  ·rename_i e ty' us hmu h0 het hx
   split at ht
   ·rename_i xs hlo' hp hn' hc'
    simp only[Bool.and_eq_true] at hn' hlo' hc'
    obtain⟨⟨hn,hnb⟩,hd⟩:=hn'
    obtain⟨hlo,hs⟩:=hlo'
    obtain⟨⟨⟨c1,c2⟩,c3⟩,c4⟩:=hc'
    obtain⟨by_,hz⟩:=qB hs
    cases ht
    obtain⟨m1,m2⟩:=sK (ρ:=ρ) hp
    have pl:∀u∈us,∃x,u=TV.a x∧x.plain=true∧x.simple=true:=fun u hu=>by
     have:=List.all_eq_true.1 c4 u hu
     unfold Oc at this
     split at this
     ·rename_i x;rw[Bool.and_eq_true] at this;exact⟨x,rfl,this.1,this.2⟩
     ·cases this
    refine zJ (T:=Y) (sz:=1) rfl h0 hz c1 c2 (jI (ρ:=ρ) hx) ?_ ?_ c3 hd fun b hb=> ?_
    ·rw[List.all_eq_true]
     intro u hu
     obtain⟨u0,hu0,rfl⟩:=List.mem_map.1 hu
     obtain⟨x,rfl,p1,p2⟩:=pl u0 hu0
     obtain⟨q1,q2⟩:=mh (E:=E) (ρ:=ρ) p2
     show((x.to E.toEnc ρ).okc && Nat.beq (x.to E.toEnc ρ).cells.length 1)=true
     rw[q1,q2];rfl
    ·intro u hu
     obtain⟨r,hr,hu⟩:=List.mem_flatten.1 hu
     obtain⟨u1,hu1,rfl⟩:=List.mem_map.1 hr
     obtain⟨u0,hu0,rfl⟩:=List.mem_map.1 hu1
     obtain⟨x,rfl,p1,p2⟩:=pl u0 hu0
     obtain⟨q1,q2⟩:=mh (E:=E) (ρ:=ρ) p2
     have hu':u∈(x.to E.toEnc ρ).cells:=hu
     rw[q1,List.mem_singleton] at hu'
     subst hu'
     exact TA.plain_to _ _ p1
    ·have:=h (upd ρ d b) (yU hi hn hb) (hA1 hmu d ⟨b,false,[]⟩ hnb)
     rw[ce,Bx hlo hn,Mk] at this
     refine hR.low this (fun F X tm hs=> ?_) rfl
     refine hs.le2 rfl (fun t u' hu=>⟨u',hu,.refl _⟩) (fun q cs' hq=> ?_) (fun p hp=>hp)
     simp only[AS.put,AS.box,ab] at hq ⊢
     split at hq
     ·rename_i e3
      rw[if_pos e3]
      cases hq
      exact⟨_,rfl,I2 hlo m1⟩
     ·rename_i e3
      rw[if_neg e3]
      exact⟨cs',hq,LeL.refl _⟩
   ·cases ht
  ·cases ht
 ·rename_i d t0 x
  split at ht
  ·rename_i kk p hx
   split at ht
   ·rename_i hd
    cases ht
    exact lq (Y:=Y) hi hG hA0 rfl hd h
   ·cases ht
  ·cases ht
 ·rename_i d x y t0 u
  split at ht
  ·rename_i kk n c hx
   split at ht
   ·rename_i e du ty' L h0 hu hb
    split at ht
    ·rename_i m hc hm
     simp only[Bool.and_eq_true] at hc
     obtain⟨⟨⟨hlo,hs⟩,hnz⟩,hd⟩:=hc
     obtain⟨by_,hz⟩:=qB hs
     cases ht
     obtain⟨l',hl',h⟩:=h
     unfold UB at hl'
     split at hl'
     ·rename_i hr
      cases hl'
      obtain⟨v,S,k1,k2,k3⟩:=uC (ρ:=ρ) hm
      rw[OE hlo] at k2
      have hlk:=ub (ρ:=ρ) hi hlo hb
      refine y4 (T:=Y) (m:=m.map (cells E.toEnc ty')) (ax (ρ:=ρ) hx) hlk (ge fun u hu=>by obtain⟨z,_,rfl⟩:=List.mem_map.1 hu;exact oS ty' z) h0 hu (by cases du<;> first|exact .inl rfl|exact .inr ⟨_,rfl⟩|cases hnz) hz (rx k1 k2 k3) (by simpa using hr.1) (by simpa using hr.2) hd (fun u hu=>by
       rw[yp hlo] at hu
       obtain⟨z,_,rfl⟩:=List.mem_map.1 hu
       exact vA _ _ z) ?_
      have:=h ρ (kJ hi hb rfl) hA0
      rw[ce,Iw,kh hlo] at this
      rw[yp hlo,List.length_map]
      have e1:b7 (L.map (one E.toEnc ty')) n (m.map (one E.toEnc ty'))=(L.take n++m++L.drop (n+m.length)).map (one E.toEnc ty'):=by
       unfold b7
       rw[List.map_append,List.map_append,List.map_take,List.map_drop,List.length_map]
      rw[e1]
      exact this
     ·cases hl'
    ·cases ht
   ·cases ht
  ·cases ht
 ·rename_i t0 x y
  split at ht
  ·rename_i kk p hx
   split at ht
   ·rename_i ty' L hb
    split at ht
    ·rename_i a hc hy
     split at ht
     ·rename_i v hv
      cases ht
      simp only[Bool.and_eq_true] at hc
      obtain⟨hlo,hs⟩:=hc
      obtain⟨by_,hz⟩:=qB hs
      obtain⟨u,hu,hcs⟩:=Option.bind_eq_some_iff.1 hy
      obtain⟨c1,c2,c3,c4⟩:=yj (ρ:=ρ) hcs
      obtain⟨l',hl',h⟩:=h
      unfold zB at hl'
      split at hl'
      ·rename_i hlt
       cases hl'
       have hlk:=ub (ρ:=ρ) hi hlo hb
       have heff:=eY (P:=P) (T:=Y) (ty:=ty) (pos:=pos) (af:=af) (g:=g) (ax (ρ:=ρ) hx) hlk (ax (ρ:=ρ) hu) c1 hz (by rw[c2];rfl) c3 c4 (by rw[List.length_map];exact Nat.ble_eq_true_of_le hlt) (ge fun u hu=>by obtain⟨z,_,rfl⟩:=List.mem_map.1 hu;exact oS ty' z)
       refine heff _ ?_
       have:=h ρ (kJ hi hb rfl) hA0
       rw[Iw,kh hlo,← Dd hlt] at this
       refine hR.low this (fun F X tm hs=> ?_) rfl
       refine hs.le2 rfl (fun t u' hu=>⟨u',hu,.refl _⟩) (fun q cs' hq=> ?_) (fun p hp=>hp)
       simp only[AS.setc,ab] at hq ⊢
       split at hq
       ·rename_i e3
        rw[if_pos e3]
        cases hq
        refine⟨_,rfl,?_⟩
        rw[c2]
        have hle:Le1 (a.to E.toEnc ρ) (one E.toEnc ty' v):=by
         have h1:=xQ E.toEnc ρ hv
         rw[TA.rd_to] at h1
         exact(qv _).trans h1
        unfold b7
        exact LeL.append (LeL.append (LeL.refl _) (.cons hle .nil)) (LeL.refl _)
       ·rename_i e3
        rw[if_neg e3]
        exact⟨cs',hq,LeL.refl _⟩
      ·cases hl'
     ·cases ht
    ·cases ht
   ·cases ht
  ·cases ht
 ·cases ht
theorem AK{k:Nat}{b:TB E.T}(hi:Inj ρ σ.h)(hb:look σ.h k=some b)(hl:a8 ρ b=true):gm (ρ k) ((σ.drpB k).to E.toEnc ρ).h:=by
 intro p hp e
 obtain⟨q,hq,rfl⟩:=List.mem_map.1 hp
 obtain⟨hq1,hq2⟩:=List.mem_filter.1 hq
 have hm:=gL q hq1
 have:=(hi _ hm _ (cI hb)).1 hq2 hl e
 have hno:∀ {h:List (Nat × TB E.T)},q∈dropHH [k] h→q.1≠k:=by
  intro h
  induction h with
  |nil=>intro h;cases h
  |cons p r ih=>
   intro h
   obtain⟨k0,b0⟩:=p
   simp only[dropHH,ko] at h
   cases e:Nat.beq k0 k with
   |true=>simp only[e] at h;exact ih h
   |false=>
    simp only[e] at h
    rcases List.mem_cons.1 h with h|h
    ·rw[h];intro e2;rw[show k0=k from e2,Nat.beq_refl] at e;cases e
    ·exact ih h
 exact hno hq1 this
theorem oI{k d:Nat}(h:σ.noId d=true):(σ.drpB k).noId d=true:=by
 unfold TS.noId at h ⊢
 simp only[Bool.and_eq_true] at h ⊢
 obtain⟨⟨h1,h2⟩,h3⟩:=h
 refine⟨⟨h1,List.all_eq_true.2 fun p hp=>List.all_eq_true.1 h2 p (gL p hp)⟩,List.all_eq_true.2 fun p hp=>List.all_eq_true.1 h3 p ?_⟩
 exact(List.mem_filter.1 hp).1
theorem tE{k:Nat}(hi:Inj ρ σ.h):Inj ρ (σ.drpB k).h:=hi.sub fun p hp=>⟨p,gL p hp,rfl,rfl⟩
theorem tI{k:Nat}(hi:Inj ρ σ.h){q:Nat}{cs:List AV}(h:look ((σ.drpB k).to E.toEnc ρ).h q=some cs):look (σ.to E.toEnc ρ).h q=some cs:=by
 obtain⟨i,b,h1,h2,h3,h4⟩:=je (tE (k:=k) hi) h
 rw[← h1,← h3]
 exact dc E.toEnc hi (j8 h2).1 h4
theorem M8{k:Nat}{p:Nat × Root}(h:p∈((σ.drpB k).to E.toEnc ρ).e):p∈(σ.to E.toEnc ρ).e:=by
 obtain⟨q,hq,rfl⟩:=List.mem_map.1 h
 exact List.mem_map.2 ⟨q,(List.mem_filter.1 hq).1,rfl⟩
theorem xq{k d:Nat}{x:Bk}{ty:Ty}{l':List (Den E.T ty)}(hn:σ.noId d=true)(hl:a8 (dA ρ d x) (.vec d ty l':TB E.T)=true):(((σ.drpB k).newB d (.vec d ty l')).put d (.a (.vec ty d l'.length)):TS E.T).to E.toEnc (dA ρ d x)=(((σ.drpB k).to E.toEnc ρ).box x.b ((l'.map (cells E.toEnc ty)).flatten++x.sp.map AV.v)).put d (.v (vecV x (csz E.toEnc ty) l'.length)):=by
 rw[ce,pt (oI hn) hl]
 simp only[TV.to,TA.to,TB.to,nU]
theorem FT{k d:Nat}{x:Bk}{ty:Ty}{l':List (Den E.T ty)}(hn:σ.noId d=true)(hl:a8 (dA ρ d x) (.vec d ty l':TB E.T)=false):(((σ.drpB k).newB d (.vec d ty l')).put d (.a (.vec ty d l'.length)):TS E.T).to E.toEnc (dA ρ d x)=((σ.drpB k).to E.toEnc ρ).put d (.v (vecV x (csz E.toEnc ty) l'.length)):=by
 rw[ce]
 have h1:=TS.updB_to (ρ:=ρ) (y:=x) (oI (k:=k) hn)
 have e:((σ.drpB k).newB d (.vec d ty l'):TS E.T).to E.toEnc (dA ρ d x)=(σ.drpB k).to E.toEnc ρ:=by
  rw[← h1]
  unfold TS.to TS.newB
  simp only[fH _ _ hl]
 rw[e]
 simp only[TV.to,TA.to,nU]
theorem Ma{x:Bk}{d:Nat}{ty:Ty}{l':List (Den E.T ty)}(h:(x.nil && Nat.beq l'.length 0)=false):a8 (dA ρ d x) (.vec d ty l':TB E.T)=true:=by
 simp only[a8,nU]
 cases hx:x.nil with
 |false=>rfl
 |true=>
  rw[hx] at h
  cases l' with
  |nil=>simp at h
  |cons=>rfl
theorem QV{x:Bk}{d:Nat}{ty:Ty}{l':List (Den E.T ty)}(h:(x.nil && Nat.beq l'.length 0)=true):a8 (dA ρ d x) (.vec d ty l':TB E.T)=false:=by
 simp only[a8,nU]
 rw[Bool.and_eq_true] at h
 have:l'=[] :=List.length_eq_zero_iff.1 (Nat.eq_of_beq_eq_true h.2)
 rw[h.1,this];rfl
theorem uL{t:Ty}{l:List (Den E.T t)}{sp:List Value}:fM ((l.map (cells E.toEnc t)).flatten++sp.map AV.v):=fun u hu=>by
 rcases List.mem_append.1 hu with hu|hu
 ·obtain⟨r,hr,hu⟩:=List.mem_flatten.1 hu
  obtain⟨z,_,rfl⟩:=List.mem_map.1 hr
  have:=(jU E.toEnc t z u hu).2
  cases u with
  |sl o sz l=>
   cases o with
   |false=>rfl
   |true=>cases this
  |_=>rfl
 ·obtain⟨v,_,rfl⟩:=List.mem_map.1 hu;rfl
theorem eZ{t:Ty}(l:List (Den E.T t)):(l.map (cells E.toEnc t)).flatten.length=l.length * csz E.toEnc t:=by
 induction l with
 |nil=>simp
 |cons a l ih=>rw[List.map_cons,List.flatten_cons,List.length_append,ih,eK,List.length_cons,Nat.add_mul];omega
theorem IT{α:Type}{by_ n:Nat}{l m r:List α}(h:vg by_ n l m=some r):n=l.length∧0 < m.length∧(l.length+m.length) * by_≤140737488355328∧r=l++m:=by
 unfold vg at h
 split at h
 ·rename_i hc;cases h;exact⟨hc.1,hc.2.1,hc.2.2,rfl⟩
 ·cases h
theorem qJ(b:Bk)(sz n:Nat):((b.nil && Nat.beq n 0)=true∧n=0∧vecV b sz n=.slice (pf b.sp) 0 0)∨((b.nil && Nat.beq n 0)=false∧vecV b sz n=.slice (some ⟨b.b,0,none⟩) n (n+b.sp.length / sz)):=by
 cases h:(b.nil && Nat.beq n 0) with
 |true=>
  have h':=h
  rw[Bool.and_eq_true] at h'
  exact .inl ⟨rfl,Nat.eq_of_beq_eq_true h'.2,by unfold vecV;rw[if_pos h]⟩
 |false=>exact .inr ⟨rfl,by unfold vecV;rw[if_neg (by rw[h];decide)]⟩
theorem IF{F:Nat→Prop}{X:GW}{k:Nat}{A B:List AV}(h:eI F X k (A++B))(hm:fx (A++B)=false):∃vs:List Value,vs.length=B.length∧eI F X k (A++vs.map AV.v):=by
 obtain⟨b1,b2,arr,e,fr,b3,b4,b5,b6⟩:=h.cells hm
 rw[List.length_append] at b4
 have hv:(arr.toList.drop A.length).length=B.length:=by rw[List.length_drop,Array.length_toList,b4];omega
 refine⟨arr.toList.drop A.length,hv,eg.box ⟨b1,b2,arr,e,fr,b3,?_,b5,fun o u x hu hx=> ?_⟩⟩
 ·rw[List.length_append,List.length_map,hv,b4]
 ·by_cases ho:o < A.length
  ·rw[List.getElem?_append_left ho] at hu
   exact b6 o u x (by rw[List.getElem?_append_left ho];exact hu) hx
  ·rw[List.getElem?_append_right (by omega),List.getElem?_map,List.getElem?_drop,show A.length+ (o - A.length)=o by omega,Array.getElem?_toList,hx] at hu
   cases hu
   exact .v _
theorem IJ{α:Type}{n:Nat}{l r:List α}{j:Int}(h:NL n l j=some r):∃m:Nat,j=(m:Int)∧n=l.length∧m≤l.length∧r=l.take m:=by
 unfold NL at h
 split at h
 ·rename_i hc;cases h;exact⟨j.toNat,by omega,hc.1,by omega,rfl⟩
 ·cases h
theorem wi{t:Ty}{sp vs':List AV}{o:Nat}{z:Den E.T t}:∀ {l:List (Den E.T t)} {j:Nat},l[j]? =some z→o+vs'.length≤csz E.toEnc t→∀z',LeL (b7 (cells E.toEnc t z) o vs') (cells E.toEnc t z')→LeL (b7 ((l.map (cells E.toEnc t)).flatten++sp) (j * csz E.toEnc t+o) vs') (((l.set j z').map (cells E.toEnc t)).flatten++sp)
 | [],_,h,_,_,_=>by simp at h
 |a::l,0,h,ho,z',hz=>by
  simp only[List.getElem?_cons_zero,Option.some.injEq] at h
  subst h
  have hla:=eK E.toEnc t a
  rw[List.set_cons_zero,List.map_cons,List.map_cons,List.flatten_cons,List.flatten_cons,Nat.zero_mul,Nat.zero_add,List.append_assoc,List.append_assoc]
  unfold b7 at hz ⊢
  rw[List.take_append_of_le_length (by omega),List.drop_append_of_le_length (by omega),← List.append_assoc,← List.append_assoc,← List.append_assoc,List.append_assoc _ _ sp]
  have:=LeL.append hz (LeL.refl ((l.map (cells E.toEnc t)).flatten++sp))
  simpa only[List.append_assoc] using this
 |a::l,j+1,h,ho,z',hz=>by
  have ih:=wi (l:=l) (j:=j) (sp:=sp) (by simpa using h) ho z' hz
  have hla:=eK E.toEnc t a
  rw[List.set_cons_succ,List.map_cons,List.map_cons,List.flatten_cons,List.flatten_cons,List.append_assoc,List.append_assoc]
  have e:(j+1) * csz E.toEnc t+o=(cells E.toEnc t a).length+ (j * csz E.toEnc t+o):=by rw[hla,Nat.add_mul];omega
  unfold b7 at ih ⊢
  rw[e,List.take_length_add_append,Nat.add_assoc,List.drop_length_add_append,List.append_assoc,List.append_assoc]
  refine LeL.append (LeL.refl _) ?_
  simpa only[List.append_assoc] using ih
theorem Jo{t:Tree (TS E.T)}(hi:Inj ρ σ.h)(hG:GOk P Y E G)(hR:Low R)(hA0:A ρ)(hA1:Jl σ o=true→∀d x,Nat.ble d 99999=true→A (dA ρ d x))(ht:MC Y E o σ=some t)(h:t.holds (OnE E R A)):cy P o (σ.to E.toEnc ρ) R:=by
 obtain⟨dst,op,ty,pos,af,g⟩:=o
 unfold MC at ht
 simp only at ht
 split at ht
 ·rename_i d x y t u
  split at ht
  ·rename_i vt k n hx
   split at ht
   ·rename_i e du l w h0 hu hv hy
    split at ht
    ·rename_i m sz by_ hm hz
     split at ht
     ·rename_i hc
      cases ht
      simp only[Bool.and_eq_true] at hc
      obtain⟨⟨⟨⟨c1,c2⟩,c3⟩,c4⟩,⟨c5,c6⟩,c7⟩:=hc
      have c1:=Nat.eq_of_beq_eq_true c1
      subst c1
      obtain⟨l',hl',h⟩:=h
      obtain⟨hn,hm0,hfit,rfl⟩:=IT hl'
      subst hn
      obtain⟨e2,rfl⟩:=em hm
      obtain⟨wt,wl⟩:=w
      simp only at e2
      cases e2
      obtain⟨ow,hy'⟩:=qh (ρ:=ρ) hy
      simp only at hy' hm0 hfit h ⊢
      have hx':=ax (ρ:=ρ) hx
      simp only[TV.to,TA.to] at hx'
      have hnz:du=.string∨∃e',du=.slice e':=by cases du<;> first|exact .inl rfl|exact .inr ⟨_,rfl⟩|cases c2
      have hone:∀r∈wl.map (cells E.toEnc vt),∀u∈r,u.one=true:=fun r hr u hu=>by
       obtain⟨z,_,rfl⟩:=List.mem_map.1 hr
       exact(jU E.toEnc vt z u hu).1
      have hsrc:∀F X (a:Act),SimE F X (σ.to E.toEnc ρ) a.tmps→∃vs,SrcA P X (csz E.toEnc vt) wl.length wl.length (wl.map (cells E.toEnc vt)).flatten (a.eval y) vs:=fun F X a hs=>by
       obtain⟨vs,hvs⟩:=wR (P:=P) (Nat.le_of_ble_eq_true c4) (bt hs hy') hone
       rw[List.length_map] at hvs
       exact⟨vs,hvs⟩
      have hplu:fM (wl.map (cells E.toEnc vt)).flatten:=fun u hu=>uL (l:=wl) (sp:=[]) u (by rw[List.map_nil,List.append_nil];exact hu)
      have hplo:fM (l.map (cells E.toEnc vt)).flatten:=fun u hu=>uL (l:=l) (sp:=[]) u (by rw[List.map_nil,List.append_nil];exact hu)
      have hnl:(l++wl).length=l.length+wl.length:=List.length_append
      have hflat:((l++wl).map (cells E.toEnc vt)).flatten=(l.map (cells E.toEnc vt)).flatten++ (wl.map (cells E.toEnc vt)).flatten:=by rw[List.map_append,List.flatten_append]
      have fin:∀ (k' cap:Nat) (sp:List Value),gm k' (σ.to E.toEnc ρ).h→l.length+wl.length≤cap→((l.map (cells E.toEnc vt)).flatten++ (wl.map (cells E.toEnc vt)).flatten++sp.map AV.v).length=cap * csz E.toEnc vt→R (((σ.to E.toEnc ρ).box k' ((l.map (cells E.toEnc vt)).flatten++ (wl.map (cells E.toEnc vt)).flatten++sp.map AV.v)).put d (.v (.slice (some ⟨k',0,none⟩) (l.length+wl.length) cap))):=fun k' cap sp hk hcap hlen=>by
       have hne:((⟨k',false,sp⟩:Bk).nil && Nat.beq (l++wl).length 0)=false:=rfl
       have hin:Inj (dA ρ d ⟨k',false,sp⟩) (((σ.drpB k).newB d (.vec d vt (l++wl))).put d (.a (.vec vt d (l++wl).length)):TS E.T).h:=iZ (tE hi) (oI c5) fun _ p hp=>hk p (by
        obtain⟨q,hq,rfl⟩:=List.mem_map.1 hp
        obtain⟨hq1,hq2⟩:=List.mem_filter.1 hq
        exact xb (gL q hq1) hq2)
       have:=h _ hin (hA1 (by unfold Jl;simp only[hx];rfl) d _ c6)
       rw[xq c5 (Ma hne)] at this
       refine hR.low this (fun F X tm hs=> ?_) rfl
       have hval:vecV (⟨k',false,sp⟩:Bk) (csz E.toEnc vt) (l++wl).length=.slice (some ⟨k',0,none⟩) (l.length+wl.length) cap:=by
        rcases qJ ⟨k',false,sp⟩ (csz E.toEnc vt) (l++wl).length with ⟨q1,_⟩| ⟨_,q2⟩
        ·rw[hne] at q1;cases q1
        ·rw[q2,hnl]
         have hsz:=Nat.le_of_ble_eq_true c4
         have:sp.length=(cap - (l.length+wl.length)) * csz E.toEnc vt:=by
          rw[List.length_append,List.length_append,eZ,eZ,List.length_map,← Nat.add_mul] at hlen
          rw[Nat.sub_mul];omega
         rw[show(⟨k',false,sp⟩:Bk).sp=sp from rfl,this,Nat.mul_div_cancel _ (by omega)]
         congr 1;omega
       rw[hval,hflat]
       refine hs.le2 rfl (fun t u' hu=>⟨u',hu,.refl _⟩) (fun q cs' hq=> ?_) (fun p hp=> ?_)
       ·simp only[AS.put,AS.box,ab] at hq ⊢
        split at hq
        ·rename_i e3;rw[if_pos e3];cases hq;exact⟨_,rfl,LeL.refl _⟩
        ·rename_i e3;rw[if_neg e3];exact⟨cs',tI hi hq,LeL.refl _⟩
       ·simp only[AS.put,AS.box] at hp ⊢
        obtain⟨hp1,hp2⟩:=List.mem_filter.1 hp
        exact List.mem_filter.2 ⟨M8 hp1,hp2⟩
      rcases qJ (ρ.k k) (csz E.toEnc vt) l.length with ⟨q1,q2,q3⟩| ⟨q1,q3⟩
      ·rw[q3] at hx'
       have hl0:l=[] :=List.length_eq_zero_iff.1 q2
       subst hl0
       refine pN (T:=Y) (olds:=[]) (us:=(wl.map (cells E.toEnc vt)).flatten) (N:=wl.length) (n:=0) (c:=0) (Pc hx') (by simp) h0 hu hnz hz (Nat.le_of_ble_eq_true c3) hsrc (by omega) (by simpa using hfit) hplu (fun u hu=>by cases hu) c7 fun k' cap sp hk h1 h2=> ?_
       have:=fin k' cap sp hk (by simpa using h1) (by simpa using h2)
       simpa using this
      ·rw[q3] at hx'
       replace hx':opV (σ.to E.toEnc ρ) x=some (.v (.slice (some ⟨ρ k,0,none⟩) l.length (l.length+ (ρ.k k).sp.length / csz E.toEnc vt))):=hx'
       have hlv:a8 ρ (.vec k vt l:TB E.T)=true:=by
        simp only[a8]
        cases hnn:(ρ.k k).nil with
        |false=>rfl
        |true=>
         rw[hnn] at q1
         cases l with
         |nil=>simp at q1
         |cons=>rfl
       have hb:=dc E.toEnc hi (i4 hv) hlv
       have hb':look (σ.to E.toEnc ρ).h (ρ k)=some ((l.map (cells E.toEnc vt)).flatten++ (ρ.k k).sp.map AV.v):=hb
       have hfl:=eZ l
       have htake:((l.map (cells E.toEnc vt)).flatten++ (ρ.k k).sp.map AV.v).take (l.length * csz E.toEnc vt)=(l.map (cells E.toEnc vt)).flatten:=by rw[← hfl,List.take_left]
       by_cases hroom:l.length+wl.length≤l.length+ (ρ.k k).sp.length / csz E.toEnc vt
       ·have hsz:=Nat.le_of_ble_eq_true c4
        have hroom2:wl.length * csz E.toEnc vt≤(ρ.k k).sp.length:=by
         have h1:wl.length≤(ρ.k k).sp.length / csz E.toEnc vt:=by omega
         exact Nat.le_trans (Nat.mul_le_mul_right _ h1) (Nat.div_mul_le_self _ _)
        refine sg (T:=Y) (N:=wl.length) (us:=(wl.map (cells E.toEnc vt)).flatten) hx' hb' (ge kj) h0 hu hnz hz hsrc hroom (by rw[List.length_append,hfl,List.length_map];omega) hplu c7 ?_
        have hne:((⟨ρ k,false,(ρ.k k).sp.drop (wl.length * csz E.toEnc vt)⟩:Bk).nil && Nat.beq (l++wl).length 0)=false:=rfl
        have hin:Inj (dA ρ d ⟨ρ k,false,(ρ.k k).sp.drop (wl.length * csz E.toEnc vt)⟩) (((σ.drpB k).newB d (.vec d vt (l++wl))).put d (.a (.vec vt d (l++wl).length)):TS E.T).h:=iZ (tE hi) (oI c5) fun _=>AK hi (i4 hv) hlv
        have:=h _ hin (hA1 (by unfold Jl;simp only[hx];rfl) d _ c6)
        rw[xq c5 (Ma hne)] at this
        refine hR.low this (fun F X tm hs=> ?_) rfl
        have hval:vecV (⟨ρ k,false,(ρ.k k).sp.drop (wl.length * csz E.toEnc vt)⟩:Bk) (csz E.toEnc vt) (l++wl).length=.slice (some ⟨ρ k,0,none⟩) (l.length+wl.length) (l.length+ (ρ.k k).sp.length / csz E.toEnc vt):=by
         rcases qJ ⟨ρ k,false,(ρ.k k).sp.drop (wl.length * csz E.toEnc vt)⟩ (csz E.toEnc vt) (l++wl).length with ⟨q1,_⟩| ⟨_,q2⟩
         ·rw[hne] at q1;cases q1
         ·rw[q2,hnl]
          have e1:(⟨ρ k,false,(ρ.k k).sp.drop (wl.length * csz E.toEnc vt)⟩:Bk).sp.length=(ρ.k k).sp.length - wl.length * csz E.toEnc vt:=List.length_drop
          have e3:((ρ.k k).sp.length - wl.length * csz E.toEnc vt) / csz E.toEnc vt=(ρ.k k).sp.length / csz E.toEnc vt - wl.length:=by rw[Nat.mul_comm];exact Nat.sub_mul_div _ _ _
          rw[e1,e3]
          congr 1
          generalize (ρ.k k).sp.length / csz E.toEnc vt=q at hroom ⊢
          omega
        have hspl:b7 ((l.map (cells E.toEnc vt)).flatten++ (ρ.k k).sp.map AV.v) (l.length * csz E.toEnc vt) (wl.map (cells E.toEnc vt)).flatten=(l.map (cells E.toEnc vt)).flatten++ (wl.map (cells E.toEnc vt)).flatten++ ((ρ.k k).sp.drop (wl.length * csz E.toEnc vt)).map AV.v:=by
         unfold b7
         rw[htake,eZ wl,← hfl,List.drop_append,List.drop_eq_nil_of_le (by omega),Nat.add_sub_cancel_left,List.nil_append,List.map_drop]
        rw[hval,hflat]
        rw[hspl] at hs
        refine hs.le2 rfl (fun t u' hu=>⟨u',hu,.refl _⟩) (fun q cs' hq=> ?_) (fun p hp=> ?_)
        ·simp only[AS.put,AS.box,AS.setc,ab] at hq ⊢
         split at hq
         ·rename_i e3;rw[if_pos e3];cases hq;exact⟨_,rfl,LeL.refl _⟩
         ·rename_i e3;rw[if_neg e3];exact⟨cs',tI hi hq,LeL.refl _⟩
        ·simp only[AS.put,AS.box,AS.setc,AS.dropC] at hp ⊢
         obtain⟨hp1,hp2⟩:=List.mem_filter.1 hp
         refine List.mem_filter.2 ⟨?_,hp2⟩
         have e4:((σ.drpB k).to E.toEnc ρ).e=(σ.to E.toEnc ρ).dropC.e:=(iC σ.e).symm
         rw[e4] at hp1
         exact hp1
       ·refine pN (T:=Y) (olds:=(l.map (cells E.toEnc vt)).flatten) (us:=(wl.map (cells E.toEnc vt)).flatten) (N:=wl.length) (n:=l.length) (c:=l.length+ (ρ.k k).sp.length / csz E.toEnc vt) ?_ hfl h0 hu hnz hz (Nat.le_of_ble_eq_true c3) hsrc (by omega) hfit hplu hplo c7 fun k' cap sp hk h1 h2=> ?_
        ·have:=Qd (P:=P) (sz:=csz E.toEnc vt) hx' hb' (ge kj) (by rw[List.length_append,hfl];omega) (fun u hu=>by
          rw[htake] at hu
          obtain⟨r,hr,hu⟩:=List.mem_flatten.1 hu
          obtain⟨z,_,rfl⟩:=List.mem_map.1 hr
          exact(jU E.toEnc vt z u hu).1)
         rw[htake] at this
         exact this
        ·exact fin k' cap sp hk h1 h2
     ·cases ht
    ·cases ht
   ·cases ht
  ·cases ht
 ·rename_i d t x hi'
  split at ht
  ·rename_i vt k n hx
   split at ht
   ·rename_i e l j h0 hv hj
    split at ht
    ·rename_i hc
     cases ht
     simp only[Bool.and_eq_true] at hc
     obtain⟨⟨c1,c0⟩,⟨c5,c6⟩,c7⟩:=hc
     have c0:=Nat.le_of_ble_eq_true c0
     obtain⟨by_,hz⟩:=tR c1
     obtain⟨l',hl',h⟩:=h
     obtain⟨m,rfl,hn,hm,rfl⟩:=IJ hl'
     subst hn
     have hx':=ax (ρ:=ρ) hx
     simp only[TV.to,TA.to] at hx'
     have hlt:(l.take m).length=m:=by rw[List.length_take];omega
     have hcr:Jl σ ⟨some d,.slice t x none (some hi') none,ty,pos,af,g⟩=true:=by unfold Jl;simp only[hx];rfl
     rcases qJ (ρ.k k) (csz E.toEnc vt) l.length with ⟨q1,q2,q3⟩| ⟨q1,q3⟩
     ·rw[q3] at hx'
      have hm0:m=0:=by omega
      subst hm0
      have hop:=tW (P:=P) (Y:=Y) (dd:=some d) (ty:=ty) (pos:=pos) (af:=af) (g:=g) (j:=0) hx' h0 hz (dg hj) (by omega)
      have hv0:(Value.slice (if(0:Nat)=0 then pf (ρ.k k).sp else(pf (ρ.k k).sp).map (·.add (0 * csz E.toEnc vt))) (0 - 0) (0 - 0))=.slice (pf (ρ.k k).sp) 0 0:=rfl
      rw[hv0] at hop
      refine sy rfl c7 hop ?_
      have hdd:((⟨0,true,(ρ.k k).sp⟩:Bk).nil && Nat.beq (l.take 0).length 0)=true:=by simp
      have hin:Inj (dA ρ d ⟨0,true,(ρ.k k).sp⟩) (((σ.drpB k).newB d (.vec d vt (l.take 0))).put d (.a (.vec vt d (l.take 0).length)):TS E.T).h:=iZ (tE hi) (oI c5) fun hl=>by
       have hl':a8 (dA ρ d ⟨0,true,(ρ.k k).sp⟩) (.vec d vt (l.take 0):TB E.T)=true:=hl
       rw[QV hdd] at hl';cases hl'
      have:=h _ hin (hA1 hcr d _ c6)
      rw[FT c5 (QV hdd)] at this
      refine hR.low this (fun F X tm hs=> ?_) rfl
      have hval:vecV (⟨0,true,(ρ.k k).sp⟩:Bk) (csz E.toEnc vt) (l.take 0).length=.slice (pf (ρ.k k).sp) 0 0:=by
       unfold vecV;rw[if_pos hdd]
      rw[hval]
      refine hs.le2 rfl (fun t u' hu=>⟨u',?_,.refl _⟩) (fun q cs' hq=>⟨cs',tI hi hq,LeL.refl _⟩) (fun p hp=> ?_)
      ·exact hu
      ·obtain⟨hp1,hp2⟩:=List.mem_filter.1 hp
       exact List.mem_filter.2 ⟨M8 hp1,hp2⟩
     ·rw[q3] at hx'
      replace hx':opV (σ.to E.toEnc ρ) x=some (.v (.slice (some ⟨ρ k,0,none⟩) l.length (l.length+ (ρ.k k).sp.length / csz E.toEnc vt))):=hx'
      have hlv:a8 ρ (.vec k vt l:TB E.T)=true:=by
       simp only[a8]
       cases hnn:(ρ.k k).nil with
       |false=>rfl
       |true=>
        rw[hnn] at q1
        cases l with
        |nil=>simp at q1
        |cons=>rfl
      have hb':look (σ.to E.toEnc ρ).h (ρ k)=some ((l.map (cells E.toEnc vt)).flatten++ (ρ.k k).sp.map AV.v):=dc E.toEnc hi (i4 hv) hlv
      have hsplit:(l.map (cells E.toEnc vt)).flatten++ (ρ.k k).sp.map AV.v=((l.take m).map (cells E.toEnc vt)).flatten++ (((l.drop m).map (cells E.toEnc vt)).flatten++ (ρ.k k).sp.map AV.v):=by
       rw[← List.append_assoc,← List.flatten_append,← List.map_append,List.take_append_drop]
      have hop:=tW (P:=P) (Y:=Y) (dd:=some d) (ty:=ty) (pos:=pos) (af:=af) (g:=g) (j:=m) hx' h0 hz (dg hj) (Nat.le_trans hm (Nat.le_add_right _ _))
      have hval0:(Value.slice (if l.length+ (ρ.k k).sp.length / csz E.toEnc vt=0 then some ⟨ρ k,0,none⟩ else(some (⟨ρ k,0,none⟩:Addr)).map (·.add (0 * csz E.toEnc vt))) (m - 0) (l.length+ (ρ.k k).sp.length / csz E.toEnc vt - 0))=.slice (some ⟨ρ k,0,none⟩) m (l.length+ (ρ.k k).sp.length / csz E.toEnc vt):=by
       rw[Option.map_some,en,Nat.zero_mul,Nat.add_zero,ite_self,Nat.sub_zero,Nat.sub_zero]
      rw[hval0] at hop
      intro F X a hs
      refine(hop F X a (hs.r _)).mono fun xv w' ⟨X',h1,h2,h3,h4,h5⟩=> ?_
      have hput:=hs.put_new (ba c7) h2 h3 h4 h5
      have hbox:=hput.box (ρ k) _ hb'
      rw[hsplit] at hbox
      obtain⟨vs,hvs,hbox2⟩:=IF hbox (by rw[← hsplit];exact ge kj)
      have hin:Inj (dA ρ d ⟨ρ k,false,vs⟩) (((σ.drpB k).newB d (.vec d vt (l.take m))).put d (.a (.vec vt d (l.take m).length)):TS E.T).h:=iZ (tE hi) (oI c5) fun _=>AK hi (i4 hv) hlv
      have hne:((⟨ρ k,false,vs⟩:Bk).nil && Nat.beq (l.take m).length 0)=false:=rfl
      have:=h _ hin (hA1 hcr d _ c6)
      rw[xq c5 (Ma hne)] at this
      refine⟨X',_,h1,this,?_,h2.ext hs.gb hs.fb⟩
      have hval:vecV (⟨ρ k,false,vs⟩:Bk) (csz E.toEnc vt) (l.take m).length=.slice (some ⟨ρ k,0,none⟩) m (l.length+ (ρ.k k).sp.length / csz E.toEnc vt):=by
       rcases qJ ⟨ρ k,false,vs⟩ (csz E.toEnc vt) (l.take m).length with ⟨q1,_⟩| ⟨_,q2⟩
       ·rw[hne] at q1;cases q1
       ·rw[q2,hlt]
        have e1:(⟨ρ k,false,vs⟩:Bk).sp.length=(ρ.k k).sp.length+ (l.length - m) * csz E.toEnc vt:=by
         show vs.length=_
         rw[hvs,List.length_append,eZ,List.length_drop,List.length_map];omega
        rw[e1]
        congr 1
        rw[Nat.add_mul_div_right _ _ (by omega)]
        generalize (ρ.k k).sp.length / csz E.toEnc vt=q
        omega
      rw[hval]
      refine SimE.rebox (σ:=(σ.to E.toEnc ρ).put d (.v (.slice (some ⟨ρ k,0,none⟩) m (l.length+ (ρ.k k).sp.length / csz E.toEnc vt)))) hput rfl (fun t u' hu=>⟨u',hu,.inl (.refl _)⟩) (fun q cs' hq=> ?_) (fun p hp=> ?_)
      ·simp only[AS.put,AS.box,ab] at hq
       split at hq
       ·rename_i e3
        cases hq
        right
        rw[show q=ρ k from e3]
        exact⟨hbox2,uL⟩
       ·exact .inl ⟨cs',tI hi hq,LeL.refl _⟩
      ·obtain⟨hp1,hp2⟩:=List.mem_filter.1 hp
       exact List.mem_filter.2 ⟨M8 hp1,hp2⟩
    ·cases ht
   ·cases ht
  ·cases ht
 ·rename_i t x y
  split at ht
  ·rename_i vt k j o hx
   split at ht
   ·rename_i l n by_ vs hv hz hy
    split at ht
    ·rename_i hc
     cases ht
     rw[Bool.and_eq_true] at hc
     have hn:=Nat.eq_of_beq_eq_true hc.1
     have ho:=Nat.le_of_ble_eq_true hc.2
     subst hn
     obtain⟨z,hz',h⟩:=h
     simp only at h
     split at h
     ·rename_i z' hpk
      obtain⟨u,hu,hcs⟩:=Option.bind_eq_some_iff.1 hy
      obtain⟨c1,c2,c3,c4⟩:=yj (ρ:=ρ) hcs
      have hl:l≠[] :=fun e=>by rw[e] at hz';simp at hz'
      have hb:=qm hi hv hl
      have hlen:=(vJ ((ρ.k k).sp.map AV.v) hz').2
      have heff:=eY (P:=P) (T:=Y) (ty:=ty) (pos:=pos) (af:=af) (g:=g) (ax (ρ:=ρ) hx) hb (ax (ρ:=ρ) hu) c1 hz (by rw[c2,List.length_map];exact Nat.beq_refl _) c3 c4 (Nat.ble_eq_true_of_le (by omega)) (ge kj)
      refine heff _ ?_
      have hset:(l.set j z')≠[] :=fun e=>hl (by simpa using e)
      have hlv:a8 ρ (.vec k vt (l.set j z'):TB E.T)=true:=by
       cases hq:l.set j z' with
       |nil=>exact absurd hq hset
       |cons=>simp[a8]
      have hlv0:a8 ρ (.vec k vt l:TB E.T)=true:=by
       cases l with
       |nil=>exact absurd rfl hl
       |cons=>simp[a8]
      have:=h ρ (kJ hi (i4 hv) (hlv0.trans hlv.symm)) hA0
      refine hR.low this (fun F X tm hs=> ?_) rfl
      have hle:LeL (b7 (cells E.toEnc vt z) o ((u.to E.toEnc ρ).rd.cells)) (cells E.toEnc vt z'):=by
       have h1:=Ga E ρ hpk
       rw[List.map_nil,List.append_nil] at h1
       have h2:=(lA (ρ:=ρ) (spl (ga E vt z) o vs)).trans h1
       rw[re,tF,← c2] at h2
       exact h2
      have hfin:=wi (sp:=(ρ.k k).sp.map AV.v) hz' (by rw[c2,List.length_map];exact ho) z' hle
      have e5:(σ.setv k vt (l.set j z')).to E.toEnc ρ=(σ.to E.toEnc ρ).setc (ρ k) (((l.set j z').map (cells E.toEnc vt)).flatten++ (ρ.k k).sp.map AV.v):=by
       unfold TS.to TS.setv AS.setc AS.dropC
       simp only[dQ _ _ hlv]
       congr 1
       exact(iC σ.e).symm
      rw[e5]
      refine hs.le2 rfl (fun t u' hu=>⟨u',hu,.refl _⟩) (fun q cs' hq=> ?_) (fun p hp=>hp)
      simp only[AS.setc,ab] at hq ⊢
      split at hq
      ·rename_i e3
       rw[if_pos e3]
       cases hq
       exact⟨_,rfl,hfin⟩
      ·rename_i e3
       rw[if_neg e3]
       exact⟨cs',hq,LeL.refl _⟩
     ·cases h
    ·cases ht
   ·cases ht
  ·cases ht
 ·cases ht
theorem As{α:Type}{off n:Nat}{l m:List α}(h:JJ off n l=some m):off+n≤l.length∧m=(l.drop off).take n:=by
 unfold JJ at h
 split at h
 ·rename_i hc;cases h;exact⟨hc,rfl⟩
 ·cases h
theorem uY{t:Ty}:∀ (l:List (Den E.T t)) (i:Nat),((l.map (cells E.toEnc t)).flatten).drop (i * csz E.toEnc t)=((l.drop i).map (cells E.toEnc t)).flatten
 |l,0=>by rw[Nat.zero_mul,List.drop_zero,List.drop_zero]
 | [],i+1=>by simp
 |a::l,i+1=>by
  rw[List.map_cons,List.flatten_cons,List.drop_succ_cons,← uY l i,show(i+1) * csz E.toEnc t=(cells E.toEnc t a).length+i * csz E.toEnc t by rw[eK,Nat.add_mul,Nat.one_mul,Nat.add_comm],List.drop_append]
  simp
theorem uZ{t:Ty}:∀ (l:List (Den E.T t)) (i:Nat),((l.map (cells E.toEnc t)).flatten).take (i * csz E.toEnc t)=((l.take i).map (cells E.toEnc t)).flatten
 |l,0=>by rw[Nat.zero_mul,List.take_zero,List.take_zero];rfl
 | [],i+1=>by simp
 |a::l,i+1=>by
  rw[List.map_cons,List.flatten_cons,List.take_succ_cons,List.map_cons,List.flatten_cons,← uZ l i,show(i+1) * csz E.toEnc t=(cells E.toEnc t a).length+i * csz E.toEnc t by rw[eK,Nat.add_mul,Nat.one_mul,Nat.add_comm],List.take_append,List.take_of_length_le (Nat.le_add_right _ _),Nat.add_sub_cancel_left]
theorem IE{X:GW}{sz N:Nat}{m:List (List AV)}{x:Value}{vs:List Value}(h0:0 < sz)(h:SrcA P X sz N N m.flatten x vs)(hm:∀r∈m,r.length=sz)(hN:m.length=N):AddsA P X sz m x (fun i j=>vs.getD (i * sz+j) undef):=by
 have hrow:rowCells sz N (fun i j=>vs.getD (i * sz+j) undef)=vs:=by
  apply List.ext_getElem?
  intro q
  unfold rowCells
  rw[List.getElem?_map]
  by_cases hq:q < N * sz
  ·rw[List.getElem?_range hq]
   simp only[Option.map_some]
   rw[Nat.div_add_mod' q sz,List.getD_eq_getElem?_getD,List.getElem?_eq_getElem (by rw[h.lv];exact hq)]
   rfl
  ·rw[List.getElem?_eq_none (by rw[List.length_range];omega),List.getElem?_eq_none (by rw[h.lv];omega)];rfl
 subst hN
 refine⟨h.len,fun w' hw=>by rw[hrow];exact h.first w' hw,hm,fun i j r u hi hj=> ?_,fun v hv=>by rw[hrow] at hv;exact h.one v hv⟩
 have k1:=tV hm hi hj
 have hlt:=(List.getElem?_eq_some_iff.1 k1).1
 have hlt2:i * sz+j < vs.length:=by rw[h.lv,← h.lu];exact hlt
 rw[List.getD_eq_getElem?_getD,List.getElem?_eq_getElem hlt2]
 exact h.rel _ _ _ k1 (List.getElem?_eq_getElem hlt2)
theorem Mj(hi:Inj ρ σ.h){y:Operand}{ty:Ty}{k off n:Nat}{l:List (Den E.T ty)}(hy:AN (opT σ y)=some (ty,k,off,n))(hv:pL σ.h ty k=some l)(hl:off+n≤l.length)(h0:0 < csz E.toEnc ty):∀F X (a:Act),SimE F X (σ.to E.toEnc ρ) a.tmps→∃c,AddsA P X (csz E.toEnc ty) (((l.drop off).take n).map (cells E.toEnc ty)) (a.eval y) c:=by
 intro F X a hs
 have hval:(∃ad c,n=0∧a.eval y=.slice ad 0 c)∨(0 < n∧∃c,a.eval y=.slice (some ⟨ρ k,off * csz E.toEnc ty,none⟩) n c):=by
  have key:∀v,opV (σ.to E.toEnc ρ) y=some (.v v)→a.eval y=v:=fun v h=>bF (bt hs h)
  unfold AN at hy
  split at hy
  ·rename_i t' k' off' n' hx
   cases hy
   have e:=key _ (ax (ρ:=ρ) hx)
   rw[e]
   unfold pn
   split
   ·rename_i hc
    rw[Bool.and_eq_true] at hc
    have:=Nat.eq_of_beq_eq_true hc.2
    exact .inl ⟨_,0,by omega,rfl⟩
   ·rcases Nat.eq_zero_or_pos n with h|h
    ·subst h;exact .inl ⟨_,_,rfl,rfl⟩
    ·refine .inr ⟨h,n+ (ρ.k k).sp.length / csz E.toEnc ty,?_⟩
     rw[if_neg (fun e=>by generalize (ρ.k k).sp.length / csz E.toEnc ty=q at e;omega)];rfl
  ·rename_i t' k' n' hx
   cases hy
   have e:=key _ (ax (ρ:=ρ) hx)
   rw[e]
   unfold vecV
   split
   ·rename_i hc
    rw[Bool.and_eq_true] at hc
    exact .inl ⟨_,0,Nat.eq_of_beq_eq_true hc.2,rfl⟩
   ·rcases Nat.eq_zero_or_pos n with h|h
    ·subst h;exact .inl ⟨_,_,rfl,rfl⟩
    ·exact .inr ⟨h,n+ (ρ.k k).sp.length / csz E.toEnc ty,by rw[Nat.zero_mul];rfl⟩
  ·cases hy
 rcases hval with ⟨ad,c,hn,e⟩| ⟨hn,c,e⟩
 ·subst hn
  rw[e,List.take_zero]
  exact tv (o:=false) (.nl _ _ _ _) (by simp)
 ·rw[e]
  have hne:l≠[] :=fun e2=>by rw[e2] at hl;simp at hl;omega
  have hb:=qm hi hv hne
  have hfl:((l.map (cells E.toEnc ty)).flatten++ (ρ.k k).sp.map AV.v).drop (off * csz E.toEnc ty)=((l.drop off).map (cells E.toEnc ty)).flatten++ (ρ.k k).sp.map AV.v:=by
   rw[List.drop_append_of_le_length (by rw[eZ];exact Nat.mul_le_mul_right _ (by omega)),uY]
  have htk:(((l.map (cells E.toEnc ty)).flatten++ (ρ.k k).sp.map AV.v).drop (off * csz E.toEnc ty)).take (n * csz E.toEnc ty)=(((l.drop off).take n).map (cells E.toEnc ty)).flatten:=by
   rw[hfl,List.take_append_of_le_length (by rw[eZ,List.length_drop];exact Nat.mul_le_mul_right _ (by omega)),uZ]
  obtain⟨vs,hvs⟩:=xS (P:=P) (sz:=csz E.toEnc ty) (off:=off * csz E.toEnc ty) (n:=n) (c:=c) (q:=n) hs hb (ge kj) (by rw[List.length_append,eZ,← Nat.add_mul];exact Nat.le_trans (Nat.mul_le_mul_right _ hl) (Nat.le_add_right _ _)) (fun u hu=>by
   rw[htk] at hu
   obtain⟨r,hr,hu⟩:=List.mem_flatten.1 hu
   obtain⟨z,_,rfl⟩:=List.mem_map.1 hr
   exact(jU E.toEnc ty z u hu).1)
  rw[htk] at hvs
  exact⟨_,IE h0 hvs (fun r hr=>by obtain⟨z,_,rfl⟩:=List.mem_map.1 hr;exact eK _ _ _) (by rw[List.length_map,List.length_take,List.length_drop];omega)⟩
theorem I8{t:Tree (TS E.T)}(hi:Inj ρ σ.h)(hA0:A ρ)(ht:MZ Y E o σ=some t)(h:t.holds (OnE E R A)):cy P o (σ.to E.toEnc ρ) R:=by
 obtain⟨dst,op,oty,pos,af,g⟩:=o
 unfold MZ at ht
 simp only at ht
 split at ht
 ·rename_i d s y t' u
  split at ht
  ·rename_i ty k off n r hy hr
   split at ht
   ·rename_i w l how hv
    split at ht
    ·rename_i L e e' hL ht' hu'
     split at ht
     ·rename_i sz by_ hz
      split at ht
      ·rename_i hc
       cases ht
       simp only[Bool.and_eq_true] at hc
       obtain⟨⟨c1,c2⟩,c3,c4⟩:=hc
       have c1:=Nat.eq_of_beq_eq_true c1
       subst c1
       obtain⟨m,hm,r',hr',h⟩:=h
       obtain⟨hl,rfl⟩:=As hm
       obtain⟨h1,h2⟩:=oV hr'
       obtain⟨wt,wl⟩:=w
       obtain⟨e2,rfl⟩:=em hL
       simp only at e2
       cases e2
       have heff:=xB (P:=P) (T:=Y) (σ:=σ.to E.toEnc ρ) (d:=d) (ty:=oty) (pos:=pos) (af:=af) (g:=g) (m:=((l.drop off).take n).map (cells E.toEnc ty)) (t6 hr) (y9 σ hi how) ht' hu' (.inr ⟨_,rfl⟩) hz c2 (Mj hi hy hv hl (Nat.le_of_ble_eq_true c3)) (by simpa using h1) c4 (R:=R)
       refine heff ?_
       have:=h ρ (BE hi r) hA0
       rw[ce,uD,BI σ hi how,h2] at this
       have e3:(TV.a (TA.own ty (wl++ (l.drop off).take n)):TV E.T).to E.toEnc ρ=.sl true (csz E.toEnc ty) (wl.map (cells E.toEnc ty)++ ((l.drop off).take n).map (cells E.toEnc ty)):=by
        show AV.sl true _ (List.map _ (wl++ (l.drop off).take n))=_
        rw[List.map_append]
       rw[e3] at this
       exact this
      ·cases ht
     ·cases ht
    ·cases ht
   ·cases ht
  ·cases ht
 ·cases ht
theorem Jn{α:Type}{off n:Nat}{l r:List α}{z:α}(h:Rx off n l z=some r):0 < n∧off+n≤l.length∧r=l.take off++List.replicate n z++l.drop (off+n):=by
 unfold Rx at h
 split at h
 ·rename_i hc;cases h;exact⟨hc.1,hc.2,rfl⟩
 ·cases h
theorem ob(zs:Array Value):∀n:Nat,(Builtin.zeroCells zs n).toList=(List.replicate n zs.toList).flatten
 |0=>by simp[Builtin.zeroCells]
 |n+1=>by
  rw[show List.replicate (n+1) zs.toList=List.replicate n zs.toList++ [zs.toList] from List.replicate_succ',List.flatten_append,← ob zs n]
  apply List.ext_getElem?
  intro i
  have hs1:(Builtin.zeroCells zs n).toList.length=n * zs.size:=by simp[Builtin.zeroCells]
  have e1:∀m,(Builtin.zeroCells zs m).toList[i]? =if i < m * zs.size then some (zs[i % zs.size]!) else none:=fun m=>by
   rw[Array.getElem?_toList]
   unfold Builtin.zeroCells
   rw[Array.getElem?_map]
   by_cases hi:i < m * zs.size
   ·rw[if_pos hi,Array.getElem?_eq_getElem (by simpa using hi)];simp
   ·rw[if_neg hi,Array.getElem?_eq_none (by simpa using hi)];rfl
  rw[e1]
  by_cases hi:i < n * zs.size
  ·rw[if_pos (by rw[Nat.add_mul];omega),List.getElem?_append_left (by omega),e1,if_pos hi]
  ·rw[List.getElem?_append_right (by omega),hs1]
   simp only[List.flatten_cons,List.flatten_nil,List.append_nil]
   by_cases hi2:i < (n+1) * zs.size
   ·rw[if_pos hi2]
    have h3:i - n * zs.size < zs.size:=by rw[Nat.add_mul] at hi2;omega
    have h4:i % zs.size=i - n * zs.size:=by
     obtain⟨q,rfl⟩:∃q,i=n * zs.size+q:=⟨i - n * zs.size,by omega⟩
     rw[Nat.add_sub_cancel_left] at h3 ⊢
     rw[Nat.mul_comm,Nat.mul_add_mod,Nat.mod_eq_of_lt h3]
    rw[h4,Array.getElem?_toList,Array.getElem?_eq_getElem h3,getElem!_pos zs _ h3]
   ·rw[if_neg hi2,Array.getElem?_toList,Array.getElem?_eq_none (by rw[Nat.add_mul] at hi2;omega)]
theorem LeL.rep{A B:List AV}(h:LeL A B):∀n:Nat,LeL (List.replicate n A).flatten (List.replicate n B).flatten
 |0=>LeL.refl _
 |n+1=>by
  rw[List.replicate_succ,List.replicate_succ,List.flatten_cons,List.flatten_cons]
  exact LeL.append h (LeL.rep h n)
theorem Jv{t:Tree (TS E.T)}(hi:Inj ρ σ.h)(hR:Low R)(hA0:A ρ)(ht:Kt Y E o σ=some t)(h:t.holds (OnE E R A)):cy P o (σ.to E.toEnc ρ) R:=by
 obtain⟨dst,op,oty,pos,af,g⟩:=o
 unfold Kt at ht
 simp only at ht
 split at ht
 ·rename_i x t'
  split at ht
  ·rename_i ty k off n e hx h0
   split at ht
   ·rename_i l zv hv hz
    split at ht
    ·rename_i z hpk hone hsz
     cases ht
     have hsz:=Nat.eq_of_beq_eq_true hsz
     obtain⟨l',hl',h⟩:=h
     obtain⟨hn,hle,rfl⟩:=Jn hl'
     have hl:l≠[] :=fun e=>by rw[e] at hle;simp at hle;omega
     have hb:=qm hi hv hl
     have hx':=ax (ρ:=ρ) hx
     have hval:(TV.a (TA.vsl ty k off n):TV E.T).to E.toEnc ρ=.v (.slice (some ⟨ρ k,off * csz E.toEnc ty,none⟩) n (n+ (ρ.k k).sp.length / csz E.toEnc ty)):=by
      show AV.v (pn _ _ _ _)=_
      unfold pn
      have h1:Nat.beq (off+n) 0=false:=by
       cases hb:Nat.beq (off+n) 0 with
       |false=>rfl
       |true=>have:=Nat.eq_of_beq_eq_true hb;omega
      rw[h1,Bool.and_false,if_neg (by decide),if_neg (fun e=>by generalize (ρ.k k).sp.length / csz E.toEnc ty=q at e;omega)];rfl
     rw[hval] at hx'
     have hlen:((l.map (cells E.toEnc ty)).flatten++ (ρ.k k).sp.map AV.v).length=l.length * csz E.toEnc ty+ (ρ.k k).sp.length:=by rw[List.length_append,eZ,List.length_map]
     have hmul:off * csz E.toEnc ty+n * csz E.toEnc ty≤l.length * csz E.toEnc ty:=by rw[← Nat.add_mul];exact Nat.mul_le_mul_right _ hle
     refine Jw (T:=Y) hx' hb (ge kj) h0 hz (by rw[hsz,hlen];omega) (fun v hv=> ?_) ?_
     ·rw[ob] at hv
      obtain⟨r,h1,h2⟩:=List.mem_flatten.1 hv
      rw[(List.mem_replicate.1 h1).2] at h2
      exact List.all_eq_true.1 hone v h2
     ·have hset:(l.take off++List.replicate n z++l.drop (off+n))≠[] :=fun e=>by
       have:=congrArg List.length e
       simp at this;omega
      have hlv:a8 ρ (.vec k ty (l.take off++List.replicate n z++l.drop (off+n)):TB E.T)=true:=by
       cases hq:l.take off++List.replicate n z++l.drop (off+n) with
       |nil=>exact absurd hq hset
       |cons=>simp[a8]
      have hlv0:a8 ρ (.vec k ty l:TB E.T)=true:=by
       cases l with
       |nil=>exact absurd rfl hl
       |cons=>simp[a8]
      have:=h ρ (kJ hi (i4 hv) (hlv0.trans hlv.symm)) hA0
      refine hR.low this (fun F X tm hs=> ?_) rfl
      have hzle:LeL (zv.cells.toList.map AV.v) (cells E.toEnc ty z):=by
       have h1:=Ga E ρ hpk
       rw[List.map_nil,List.append_nil,List.map_map] at h1
       have h2:(List.map ((fun a=>(TA.rd a).to E.toEnc ρ) ∘ atomT) zv.cells.toList)=zv.cells.toList.map AV.v:=by
        apply List.map_congr_left
        intro v _
        show(TA.rd (atomT v)).to E.toEnc ρ=_
        rw[TA.rd_to,tU];rfl
       rw[h2] at h1
       exact h1
      have hfin:LeL (b7 ((l.map (cells E.toEnc ty)).flatten++ (ρ.k k).sp.map AV.v) (off * csz E.toEnc ty) ((Builtin.zeroCells zv.cells n).toList.map AV.v)) (((l.take off++List.replicate n z++l.drop (off+n)).map (cells E.toEnc ty)).flatten++ (ρ.k k).sp.map AV.v):=by
       have e1:((Builtin.zeroCells zv.cells n).toList.map AV.v).length=n * csz E.toEnc ty:=by simp[Builtin.zeroCells,hsz]
       unfold b7
       rw[e1,List.take_append_of_le_length (by rw[eZ];omega),uZ,← Nat.add_mul,List.drop_append_of_le_length (by rw[eZ];exact Nat.mul_le_mul_right _ hle),uY,ob,List.map_append,List.map_append,List.flatten_append,List.flatten_append,List.map_replicate,List.map_flatten,List.map_replicate]
       simp only[List.append_assoc]
       exact(LeL.refl _).append ((LeL.rep hzle n).append (LeL.refl _))
      have e5:(σ.setv k ty (l.take off++List.replicate n z++l.drop (off+n))).to E.toEnc ρ=(σ.to E.toEnc ρ).setc (ρ k) (((l.take off++List.replicate n z++l.drop (off+n)).map (cells E.toEnc ty)).flatten++ (ρ.k k).sp.map AV.v):=by
       unfold TS.to TS.setv AS.setc AS.dropC
       simp only[dQ _ _ hlv]
       congr 1
       exact(iC σ.e).symm
      rw[e5]
      refine hs.le2 rfl (fun t u' hu=>⟨u',hu,.refl _⟩) (fun q cs' hq=> ?_) (fun p hp=>hp)
      simp only[AS.setc,ab] at hq ⊢
      split at hq
      ·rename_i e3
       rw[if_pos e3]
       cases hq
       exact⟨_,rfl,hfin⟩
      ·rename_i e3
       rw[if_neg e3]
       exact⟨cs',hq,LeL.refl _⟩
    ·cases ht
   ·cases ht
  ·cases ht
 ·cases ht
theorem JG{t:Tree (TS E.T)}(hi:Inj ρ σ.h)(hA0:A ρ)(hA1:Kn G.mu o=true→∀d x,Nat.ble d 99999=true→A (dA ρ d x))(ht:Lh Y E o σ=some t)(h:t.holds (OnE E R A)):cy P o (σ.to E.toEnc ρ) R:=by
 obtain⟨dst,op,oty,pos,af,g⟩:=o
 unfold Lh at ht
 simp only at ht
 split at ht
 ·rename_i d t'
  split at ht
  ·rename_i kt et h0
   split at ht
   ·rename_i ty' hk het hn'
    cases ht
    simp only[Bool.and_eq_true] at hn'
    obtain⟨⟨hn,hnb⟩,hd⟩:=hn'
    refine qt (σ:=σ.to E.toEnc ρ) rfl hd fun b hb=> ?_
    have:=h (upd ρ d b) (iZ hi hn fun _=>hb) (hA1 rfl d ⟨b,false,[]⟩ hnb)
    rw[ce] at this
    have e:((σ.boxI d ty' []).to E.toEnc (upd ρ d b))=(σ.to E.toEnc ρ).box b [imap []] :=pt (x:=⟨b,false,[]⟩) hn rfl
    have e2:(TV.a (TA.mpr d):TV E.T).to E.toEnc (upd ρ d b)=.v (.map (some b)):=by
     show AV.v (.map (some (upd ρ d b d)))=_
     rw[kO]
    rw[e,e2] at this
    exact this
   ·cases ht
  ·cases ht
 ·rename_i t' x y z
  split at ht
  ·rename_i kt et kk key h0 hx hy
   split at ht
   ·rename_i ty' l hk hb
    split at ht
    ·rename_i v hv
     cases ht
     obtain⟨u,hu1,hu2⟩:=HA (ρ:=ρ) hv
     have hb':look (σ.to E.toEnc ρ).h (ρ kk)=some [imap (l.map fun p=>(p.1,one E.toEnc ty' p.2))] :=dc E.toEnc hi hb rfl
     refine uw (T:=Y) (ax (ρ:=ρ) hx) hb' (dg hy) hu1 h0 hk ?_
     rw[hu2,Fh]
     have:=h ρ (kJ hi hb rfl) hA0
     rw[O5] at this
     exact this
    ·cases ht
   ·cases ht
  ·cases ht
 ·cases ht
theorem yx(hi:Inj ρ σ.h)(hG:GOk P Y E G)(hR:Low R)(hA0:A ρ)(hA1:K1 G.mu σ o=true→∀d x,Nat.ble d 99999=true→A (dA ρ d x))(h:(wo Y E G o σ).holds (OnE E R A)):cy P o (σ.to E.toEnc ρ) R:=by
 unfold wo at h
 split at h
 ·rename_i t ht;exact JG (Y:=Y) (G:=G) hi hA0 (fun hc=>hA1 (by unfold K1;rw[hc,Bool.true_or])) ht h
 split at h
 ·rename_i t ht;exact Jv (Y:=Y) hi hR hA0 ht h
 split at h
 ·rename_i t ht;exact I8 (Y:=Y) hi hA0 ht h
 split at h
 ·rename_i t ht;exact Jo (Y:=Y) hi hG hR hA0 (fun hc=>hA1 (by unfold K1;rw[hc,Bool.or_true])) ht h
 ·have hA2:Kn G.mu o=true→∀d x,Nat.ble d 99999=true→A (dA ρ d x):=fun hc=>hA1 (by unfold K1;rw[hc,Bool.true_or])
  split at h
  ·rename_i t ht;exact I4 (Y:=Y) hi hG hR hA0 hA2 ht h
  ·exact IP (Y:=Y) hi hG hR hA0 hA2 h
end
theorem OU(hi:Inj ρ σ.h)(hG:GOk P Y E G)(ho:l[k]? =some o)(hw:bp l (σ.to E.toEnc ρ) o=some true)(h:(wo Y E G o σ).holds (On P E Q ρ (.o l (k+1) rest::ks))):aY P Q (.o l k (o::rest)::ks) (σ.to E.toEnc ρ):=
 dZ ho hw (yx (Y:=Y) (R:=fun τ=>aY P Q (.o l (k+1) rest::ks) τ) hi hG (p8 rfl) (A:=Agr ρ) (Agr.refl ρ) (fun _ d b hn=>Agr.updB hn) h)
end
def Det(l:List Oper)(mN:Nat→Bool)(o:Oper)(u:AV):Prop:=cw (some u)=none∧((∃x,u=.v x)∨∃s,o.op=.move (.tmp s)∧∀ (q:Nat) o',l[q]? =some o'→mN q=true→o'.dst≠some s)
def D9(P:Program)(l:List Oper)(mN:Nat→Bool)(K:AS→Prop):Nat→List Oper→AS→Prop
 |_,[],σ=>K σ
 |k,o::rest,σ=>match mN k with
  |true=>∃d u,o.dst=some d∧o.guard=none∧Nat.ble (d+1) σ.n=true∧OpV P o σ u∧Det l mN o u∧D9 P l mN K (k+1) rest (σ.put d u)
  |false=>D9 P l mN K (k+1) rest σ
def F2(P:Program)(K:AS→Prop):List Oper→AS→Prop
 | [],σ=>K σ
 |o::rest,σ=>cy P o σ (F2 P K rest)
def noOp:Oper:=⟨none,.assign (.const undef),0,"",#[],none⟩
def msk(mN:Nat→Bool):Nat→List Oper→List Oper
 |_,[] =>[]
 |k,o::r=>(match mN k with|true=>o|false=>noOp)::msk mN (k+1) r
theorem rJ(mN:Nat→Bool):∀ (k:Nat) (l:List Oper),(msk mN k l).length=l.length
 |_,[] =>rfl
 |k,o::r=>by simp only[msk,List.length_cons,rJ mN (k+1) r]
theorem wS(mN:Nat→Bool):∀ (k:Nat) (l:List Oper) (i:Nat) (o:Oper),l[i]? =some o→(msk mN k l)[i]? =some (match mN (k+i) with|true=>o|false=>noOp)
 |_,[],i,o,h=>by simp at h
 |k,o0::r,0,o,h=>by simp at h;subst h;simp[msk]
 |k,o0::r,i+1,o,h=>by
  simp only[msk,List.getElem?_cons_succ]
  rw[wS mN (k+1) r i o (by simpa using h),show k+1+i=k+ (i+1) by omega]
theorem rp{mN:Nat→Bool}{l:List Oper}{i:Nat}{o:Oper}{d:Nat}(h:(msk mN 0 l)[i]? =some o)(hd:o.dst=some d):mN i=true∧l[i]? =some o:=by
 have hi:=(List.getElem?_eq_some_iff.1 h).1
 rw[rJ] at hi
 have:=wS mN 0 l i l[i] (List.getElem?_eq_getElem hi)
 rw[h,Nat.zero_add] at this
 cases hm:mN i with
 |true=>rw[hm] at this;cases this;exact⟨rfl,List.getElem?_eq_getElem hi⟩
 |false=>rw[hm] at this;cases this;cases hd
section
variable {P:Program} {Q:Exit→AS→Prop} {ks:List It} {σ:AS} {K:AS→Prop} {l:List Oper} {mN:Nat→Bool}
theorem oF{α:Type}(p:Nat→Bool):∀ (h:List (Nat × α)) (k:Nat),look (h.filter fun q=>p q.1) k=if p k=true then look h k else none
 | [],k=>by simp[av]
 | (q,a)::r,k=>by
   have ih:=oF p r k
   rw[List.filter_cons]
   by_cases hp:p q=true
   ·rw[if_pos hp,ab,ab,ih]
    by_cases e:k=q
    ·subst e;rw[if_pos rfl,if_pos hp,if_pos rfl]
    ·rw[if_neg e,if_neg e]
   ·rw[if_neg hp,ih,ab]
    by_cases e:k=q
    ·subst e;rw[if_neg hp,if_neg hp]
    ·rw[if_neg e]
structure MixOk (l:List Oper) (mN:Nat→Bool) (cs:List Nat):Prop where
 lex:∀i o,l[i]? =some o→∀j∈bM o,j < i
 ndst:∀q q' o o' d,l[q]? =some o→l[q']? =some o'→mN q=true→o.dst=some d→o'.dst=some d→q=q'
 settled:∀i o q oq d,l[i]? =some o→l[q]? =some oq→mN q=true→oq.dst=some d→d∈cO l o→q < i∧q∈bM o
 nsees:∀i o q oq d,l[i]? =some o→mN i=true→l[q]? =some oq→mN q=false→oq.dst=some d→d∈cO l o→i∈bM oq
 call:∀i,i < l.length→(mN i=false ↔ i∈cs)
 clt:∀i∈cs,i < l.length
 cnodup:cs.Nodup
 cchain:∀ (j a b:Nat) o,cs[j]? =some a→cs[j+1]? =some b→l[b]? =some o→a∈bM o
 cguard:∀i o,l[i]? =some o→mN i=false→o.guard=none∧∀c b,o.op≠.select c b
structure Filled (l:List Oper) (mN:Nat→Bool) (V:Nat→Value) (listed:Array Bool) (tm tf:Array Value):Prop where
 size:tf.size=tm.size
 same:∀t,(∀ (q:Nat) o,l[q]? =some o→mN q=true→o.dst=some t→listed.getD q false=true)→tf.getD t undef=tm.getD t undef
 val:∀ (q:Nat) o t,l[q]? =some o→mN q=true→o.dst=some t→tf.getD t undef=V q
def ly(l:List Oper)(mN:Nat→Bool)(k:Nat):List Oper→List (Nat × Nat)
 | [] =>[]
 |o::r=>(match mN k,o.dst,o.op with
  |true,some d,.move (.tmp s)=>if l.zipIdx.all (fun q=> !mN q.2 || !(q.1.dst==some s)) then [(d,s)] else []
  |_,_,_=>[])++ly l mN (k+1) r
theorem sW{l:List Oper}{mN:Nat→Bool}:∀ (rest:List Oper) (k:Nat) (p:Nat × Nat),p∈ly l mN k rest→∃ (i:Nat) (o:Oper),rest[i]? =some o∧mN (k+i)=true∧o.dst=some p.1∧o.op=.move (.tmp p.2)∧∀ (q:Nat) o',l[q]? =some o'→mN q=true→o'.dst≠some p.2
 | [],k,p,h=>by cases h
 |o::r,k,p,h=>by
  simp only[ly] at h
  rcases List.mem_append.1 h with h|h
  ·split at h
   ·rename_i d s hm hd ho
    split at h
    ·rename_i hall
     simp at h
     subst h
     refine⟨0,o,rfl,hm,hd,ho,fun q o' h' hq e=> ?_⟩
     have:=List.all_eq_true.1 hall (o',q) (List.mem_of_getElem? (i:=q) (by rw[List.getElem?_zipIdx,h'];simp))
     simp[e,hq] at this
    ·cases h
   ·cases h
  ·obtain⟨i,o',h1,h2,h3⟩:=sW r (k+1) p h
   exact⟨i+1,o',by simpa using h1,by rw[show k+ (i+1)=k+1+i by omega];exact h2,h3⟩
def KS(cs:List AV):Bool:=cs.all fun u=>(cw (some u)).isNone
theorem SimE.back{F F':Nat→Prop}{X0 X:GW}{σ':AS}{tm:Array Value}{H1:List (Nat × List AV)}(h:SimE F' X σ' tm)(hF:∀b,F b→F' b)(hF1:∀k cs,look H1 k=some cs→F' k)(hb:∀k cs,look H1 k=some cs→eI F X0 k cs)(hpl:∀k cs,look H1 k=some cs→KS cs=true)(hx:Ext F' X0 X):SimE F X (σ'.withH (σ'.h++H1)) tm:=by
 have hlook:∀k cs,look (σ'.h++H1) k=some cs→look σ'.h k=some cs∨(look σ'.h k=none∧look H1 k=some cs):=fun k cs hk=>by
  rw[lY] at hk
  cases hl:look σ'.h k with
  |some c=>rw[hl] at hk;cases hk;exact .inl rfl
  |none=>rw[hl] at hk;exact .inr ⟨rfl,hk⟩
 have hown:∀r sz l,(σ'.withH (σ'.h++H1)).own r=some (sz,l)→σ'.own r=some (sz,l):=fun r sz l ho=>by
  cases r with
  |s t=>exact ho
  |c k o=>
   simp only[AS.own,AS.withH] at ho ⊢
   cases hl:look (σ'.h++H1) k with
   |none=>rw[hl] at ho;cases ho
   |some cs=>
    rw[hl] at ho
    rcases hlook k cs hl with h1| ⟨h1,h2⟩
    ·rw[h1];exact ho
    ·exfalso
     have hp:=hpl k cs h2
     cases hc:cs[o]? with
     |none=>simp[hc,cw] at ho
     |some u=>
      have:=List.all_eq_true.1 hp u (List.mem_of_getElem? hc)
      simp[hc] at ho
      rw[ho] at this;cases this
 refine⟨⟨h.size,h.gb,fun b hb'=>h.fb b (hF b hb'),h.slot,fun k cs hk=> ?_,h.eqs,fun r sz l ho=> ?_,fun r r' sz l sz' l' a n c a' n' c' hne ho ho' hr hr'=>h.disj r r' sz l sz' l' a n c a' n' c' hne (hown _ _ _ ho) (hown _ _ _ ho') hr hr'⟩,h.eqm⟩
 ·rcases hlook k cs hk with h1| ⟨h1,h2⟩
  ·exact(h.box k cs h1).keep ⟨rfl,rfl,fun e=>(h.box k cs h1).nF (hF k e)⟩ (mH.refl X)
  ·have hk':=hb k cs h2
   exact hk'.keep ⟨(hx.frame k (hF1 k cs h2)).1,(hx.frame k (hF1 k cs h2)).2,hk'.nF⟩ hx.pres
 ·obtain⟨x,h1,h2⟩:=h.own r sz l (hown r sz l ho)
  exact⟨x,h1,h2.keep fun b n c hv=>⟨rfl,rfl,fun e=>(h2.lt hv).2 (hF b e)⟩⟩
def Mv(a:Act):AV→Op→Value
 |.v x,_=>x
 |_,.move (.tmp s)=>a.tmps.getD s undef
 |_,_=>undef
theorem gt(a:Act)(o:Option Tmp)(x:Value)(t:Nat):(a.put o x).tmps.getD t undef=if o=some t∧t < a.tmps.size then x else a.tmps.getD t undef:=by
 cases o with
 |none=>rw[if_neg (by simp)];rfl
 |some d=>
  simp only[Act.put,Array.getD_eq_getD_getElem?,Array.getElem?_setIfInBounds]
  by_cases e:d=t
  ·subst e
   by_cases hl:d < a.tmps.size
   ·rw[if_pos rfl,if_pos hl,if_pos ⟨rfl,hl⟩];rfl
   ·rw[if_pos rfl,if_neg hl,if_neg (by simp[hl])]
    simp[Array.getElem?_eq_none (Nat.le_of_not_lt hl)]
  ·rw[if_neg e,if_neg (by simp[e])]
theorem lB(a:Act)(o:Option Tmp)(x:Value):(a.put o x).tmps.size=a.tmps.size:=by
 cases o<;> simp[Act.put]
theorem Sy{X X':GW}(hn:New X X')(hw:X'.w=X.w)(hg:∀b n,X.g b=some n→b < X.w.heap.size)(hg':∀b n,X'.g b=some n→b < X'.w.heap.size):X'=X:=by
 have:X'.g=X.g:=by
  funext b
  by_cases hb:b < X.w.heap.size
  ·exact(hn.old b hb).2
  ·cases h1:X.g b with
   |some n=>exact absurd (hg b n h1) hb
   |none=>
    cases h2:X'.g b with
    |some n=>have:=hg' b n h2;rw[hw] at this;exact absurd this hb
    |none=>rfl
 cases X;cases X';simp only at hw this;subst hw this;rfl
theorem tN{F:Nat→Prop}{X:GW}{σ:AS}{o:Oper}{u:AV}{a:Act}{s:Nat}(hop:o.op=.move (.tmp s))(h:OpV P o σ u)(hs:SimR F X σ o.op a.tmps):Rel X u (a.tmps.getD s undef)∧(execOp a.eval o).run P X.w=.ok (.value (a.tmps.getD s undef)) X.w:=by
 have hex:(execOp a.eval o).run P X.w=.ok (.value (a.tmps.getD s undef)) X.w:=by
  obtain⟨dst,op,ty,pos,af,g⟩:=o
  simp only at hop
  subst hop
  rfl
 have hr:=h F X a hs
 unfold jN at hr
 rw[hex] at hr
 obtain⟨X',h1,h2,h3,h4,h5⟩:=hr
 have:=Sy h2 h1 hs.gb h3
 subst this
 exact⟨h4,hex⟩
def AI:Op→Bool
 |.select _ _=>true
 |_=>false
def sc(l:List Oper)(mN:Nat→Bool)(i q:Nat)(o oq:Oper):Bool:=
 match oq.dst with
 |none=>true
 |some d=>(!mN q || ((i==q || !(o.dst==some d)) && (!(cO l o).contains d || (Nat.blt q i && (bM o).contains q)))) && (!mN i || mN q || !(cO l o).contains d || (bM oq).contains i)
def Of(l:List Oper):List Nat→Bool
 |a::b::r=>(match l[b]? with|some o=>(bM o).contains a|none=>true) && Of l (b::r)
 |_=>true
theorem Ax{l:List Oper}:∀ {cs:List Nat},Of l cs=true→∀ (j a b:Nat) o,cs[j]? =some a→cs[j+1]? =some b→l[b]? =some o→a∈bM o
 | [],_,j,a,b,o,h1,_,_=>by simp at h1
 | [x],_,j,a,b,o,_,h2,_=>by simp at h2
 |x::y::r,h,0,a,b,o,h1,h2,h3=>by
  simp only[Of,Bool.and_eq_true] at h
  simp at h1 h2
  subst h1 h2
  have:=h.1
  rw[h3] at this
  simpa using this
 |x::y::r,h,j+1,a,b,o,h1,h2,h3=>by
  simp only[Of,Bool.and_eq_true] at h
  exact Ax h.2 j a b o (by simpa using h1) (by simpa using h2) h3
def Tw(l:List Oper)(mN:Nat→Bool)(cs:List Nat):Bool:=
 mq 0 l && (l.zipIdx.all fun p=>l.zipIdx.all fun q=>sc l mN p.2 q.2 p.1 q.1) && (l.zipIdx.all fun p=>(mN p.2== !cs.contains p.2) && (mN p.2 || (p.1.guard.isNone && !AI p.1.op))) && cs.all (fun i=>Nat.blt i l.length) && decide cs.Nodup && Of l cs
theorem sU{l:List Oper}{i:Nat}{o:Oper}(h:l[i]? =some o):(o,i)∈l.zipIdx:=by
 refine List.mem_of_getElem? (i:=i) ?_
 rw[List.getElem?_zipIdx,h];simp
theorem QD{l:List Oper}{mN:Nat→Bool}{cs:List Nat}(h:Tw l mN cs=true):MixOk l mN cs:=by
 simp only[Tw,Bool.and_eq_true] at h
 obtain⟨⟨⟨⟨⟨h1,h2⟩,h3⟩,h4⟩,h5⟩,h6⟩:=h
 have hp:∀ (i q:Nat) o oq,l[i]? =some o→l[q]? =some oq→sc l mN i q o oq=true:=fun i q o oq a b=>List.all_eq_true.1 (List.all_eq_true.1 h2 _ (sU a)) _ (sU b)
 have h3':∀ (i:Nat) o,l[i]? =some o→(mN i== !cs.contains i)=true∧(mN i || (o.guard.isNone && !AI o.op))=true:=fun i o a=>by
  have:=List.all_eq_true.1 h3 _ (sU a)
  simpa using this
 refine⟨fun i o ho j hj=> ?_,fun q q' o o' d a b c e f=> ?_,fun i o q oq d a b c e f=> ?_,fun i o q oq d a c b c2 e f=> ?_,fun i hi=> ?_,fun i hi=> ?_,of_decide_eq_true h5,Ax h6,fun i o ho hm=> ?_⟩
 ·have:=i8 l 0 i o h1 ho j hj
  omega
 ·have:=hp q' q o' o b a
  simp only[sc,e,c,Bool.not_true,Bool.false_or,Bool.and_eq_true,Bool.or_eq_true,f,beq_self_eq_true,Bool.false_eq_true,or_false] at this
  have:=this.1.1
  simp at this
  exact this.symm
 ·have:=hp i q o oq a b
  have hf:(cO l o).contains d=true:=by simpa using f
  simp only[sc,e,c,Bool.not_true,Bool.false_or,Bool.and_eq_true,hf] at this
  obtain⟨⟨_,k1,k2⟩,_⟩:=this
  exact⟨by simpa[Nat.blt_eq] using k1,by simpa using k2⟩
 ·have:=hp i q o oq a b
  have hf:(cO l o).contains d=true:=by simpa using f
  simp only[sc,e,c,c2,hf,Bool.not_true,Bool.not_false,Bool.true_or,Bool.false_or,Bool.or_false,Bool.true_and,Bool.and_false,Bool.false_eq_true] at this
  simpa using this
 ·have ho:=List.getElem?_eq_getElem hi
  have:=(h3' i _ ho).1
  have e:mN i= !cs.contains i:=by simpa using this
  rw[e];simp
 ·have:=List.all_eq_true.1 h4 i hi
  simpa[Nat.blt_eq] using this
 ·have:=(h3' i o ho).2
  rw[hm] at this
  simp only[Bool.false_or,Bool.and_eq_true] at this
  refine⟨by cases hg:o.guard with
   |none=>rfl
   |some p=>rw[hg] at this;simp at this,fun c b e=> ?_⟩
  have h7:=this.2
  rw[e] at h7;simp[AI] at h7
end
def jq(F:Nat→Prop)(X:GW)(H1:List (Nat × List AV))(b:Nat):Prop:=
 F b∨(∃c,look H1 b=some c)∨∃k o sz l a n c cs,look H1 k=some cs∧cw cs[o]? =some (sz,l)∧X.w.cell? ⟨k,o,none⟩=some (.slice (some a) n c)∧a.block=b
theorem Ms{σ:AS}{H:List (Nat × List AV)}(hH:∀k cs,look H k=some cs→look σ.h k=some cs):∀r sz l,(σ.withH H).own r=some (sz,l)→σ.own r=some (sz,l):=fun r sz l ho=>by
 cases r with
 |s t=>exact ho
 |c k o=>
  simp only[AS.own,AS.withH] at ho ⊢
  cases hl:look H k with
  |none=>rw[hl] at ho;cases ho
  |some cs=>rw[hl] at ho;rw[hH k cs hl];exact ho
theorem rD{σ:AS}{k o sz:Nat}{l:List (List AV)}{cs:List AV}(h1:look σ.h k=some cs)(h2:cw cs[o]? =some (sz,l)):σ.own (.c k o)=some (sz,l):=by
 simp only[AS.own,h1];exact h2
theorem nJ{F:Nat→Prop}{X:GW}{sz:Nat}{l:List (List AV)}{a:Addr}{n c:Nat}(h:gl F X sz l (.slice (some a) n c)):a.block < X.w.heap.size∧¬F a.block∧(∃m,X.g a.block=some m)∧a=⟨a.block,0,none⟩:=by
 rcases h with ⟨h,_⟩| ⟨b',cap,cs,e,fr,h1,h2,h3,h4,h5,h6⟩
 ·cases h
 ·cases h1
  exact⟨(Array.getElem?_eq_some_iff.1 h3).1,h6,⟨_,h2⟩,rfl⟩
theorem SimE.aside{F:Nat→Prop}{X:GW}{σ:AS}{tm:Array Value}(st:Nat→Bool)(h:SimE F X σ tm)(he:σ.e=[]):SimE (jq F X (σ.h.filter fun p=>st p.1)) X (σ.withH (σ.h.filter fun p=> !st p.1)) tm:=by
 have h1:∀k c,look (σ.h.filter fun p=>st p.1) k=some c→st k=true∧look σ.h k=some c:=fun k c hk=>by
  rw[oF] at hk
  by_cases e:st k=true
  ·rw[if_pos e] at hk;exact⟨e,hk⟩
  ·rw[if_neg e] at hk;cases hk
 have h0:∀k c,look (σ.h.filter fun p=> !st p.1) k=some c→st k=false∧look σ.h k=some c:=fun k c hk=>by
  rw[oF (fun q=> !st q)] at hk
  by_cases e:st k=true
  ·simp[e] at hk
  ·simp only[Bool.not_eq_true] at e
   simp[e] at hk;exact⟨e,hk⟩
 have hown:=Ms (σ:=σ) (fun k cs hk=>(h0 k cs hk).2)
 have hO:∀k o sz l a n c cs,look (σ.h.filter fun p=>st p.1) k=some cs→cw cs[o]? =some (sz,l)→X.w.cell? ⟨k,o,none⟩=some (.slice (some a) n c)→st k=true∧σ.own (.c k o)=some (sz,l)∧gl F X sz l (.slice (some a) n c):=fun k o sz l a n c cs hk ho hc=>by
  obtain⟨e1,e2⟩:=h1 k cs hk
  have e3:=rD e2 ho
  obtain⟨x,hx,hok⟩:=h.own _ _ _ e3
  have:x=.slice (some a) n c:=Option.some.inj (hx.symm.trans hc)
  rw[this] at hok
  exact⟨e1,e3,hok⟩
 have hlt:∀b,jq F X (σ.h.filter fun p=>st p.1) b→b < X.w.heap.size:=fun b hb=>by
  rcases hb with hb| ⟨c,hc⟩| ⟨k,o,sz,l,a,n,c,cs,hk,ho,hc,rfl⟩
  ·exact h.fb b hb
  ·exact(h.box b c (h1 b c hc).2).lt
  ·exact(nJ (hO k o sz l a n c cs hk ho hc).2.2).1
 refine⟨⟨h.size,h.gb,hlt,h.slot,fun k cs hk=> ?_,fun x r hx=> ?_,fun r sz l ho=> ?_,fun r r' sz l sz' l' a n c a' n' c' hne ho ho' hr hr'=>h.disj r r' sz l sz' l' a n c a' n' c' hne (hown _ _ _ ho) (hown _ _ _ ho') hr hr'⟩,fun p hp=> ?_⟩
 ·obtain⟨e1,e2⟩:=h0 k cs hk
  have hb:=h.box k cs e2
  refine hb.keep ⟨rfl,rfl,fun hF=> ?_⟩ (mH.refl X)
  rcases hF with hF| ⟨c,hc⟩| ⟨k',o,sz,l,a,n,c,cs',hk',ho,hc,e⟩
  ·exact hb.nF hF
  ·rw[(h1 k c hc).1] at e1;cases e1
  ·obtain⟨_,_,⟨m,hm⟩,_⟩:=nJ (hO k' o sz l a n c cs' hk' ho hc).2.2
   rw[e,hb.gn] at hm;cases hm
 ·have:look σ.e x=some r:=hx
  rw[he] at this;cases this
 ·obtain⟨x,hx,hok⟩:=h.own r sz l (hown _ _ _ ho)
  refine⟨x,hx,hok.keep fun b n c hxe=>⟨rfl,rfl,fun hF=> ?_⟩⟩
  subst hxe
  rcases hF with hF| ⟨c',hc⟩| ⟨k',o',sz',l',a',n',c',cs',hk',ho',hc',e⟩
  ·exact(nJ hok).2.1 hF
  ·obtain⟨_,_,⟨m,hm⟩,_⟩:=nJ hok
   rw[(h.box _ _ (h1 _ _ hc).2).gn] at hm;cases hm
  ·obtain⟨e1,e2,e3⟩:=hO k' o' sz' l' a' n' c' cs' hk' ho' hc'
   have hne:r≠.c k' o':=by
    rintro rfl
    simp only[AS.own,AS.withH] at ho
    cases hl:look (σ.h.filter fun p=> !st p.1) k' with
    |none=>rw[hl] at ho;cases ho
    |some cs2=>
     have:=(h0 k' cs2 hl).1
     rw[e1] at this;cases this
   exact h.disj r (.c k' o') sz l sz' l' _ _ _ _ _ _ hne (hown _ _ _ ho) e2 hx hc' e.symm
 ·have:p∈σ.e:=hp
  rw[he] at this;cases this
theorem SimE.backO{F F':Nat→Prop}{X0 X:GW}{σ0 σ':AS}{tm0 tm:Array Value}{H1:List (Nat × List AV)}(h0:SimE F X0 σ0 tm0)(hH:∀k cs,look H1 k=some cs→look σ0.h k=some cs)(h:SimE F' X σ' tm)(hF:∀b,jq F X0 H1 b→F' b)(hx:Ext F' X0 X):SimE F X (σ'.withH (σ'.h++H1)) tm:=by
 have hlook:∀k cs,look (σ'.h++H1) k=some cs→look σ'.h k=some cs∨(look σ'.h k=none∧look H1 k=some cs):=fun k cs hk=>by
  rw[lY] at hk
  cases hl:look σ'.h k with
  |some c=>rw[hl] at hk;cases hk;exact .inl rfl
  |none=>rw[hl] at hk;exact .inr ⟨rfl,hk⟩
 have hF0:∀b,F b→F' b:=fun b hb=>hF b (.inl hb)
 have hF1:∀k cs,look H1 k=some cs→F' k:=fun k cs hk=>hF k (.inr (.inl ⟨cs,hk⟩))
 have hown:∀r sz l,(σ'.withH (σ'.h++H1)).own r=some (sz,l)→σ'.own r=some (sz,l)∨∃k o cs,r=.c k o∧look H1 k=some cs∧cw cs[o]? =some (sz,l):=fun r sz l ho=>by
  cases r with
  |s t=>exact .inl ho
  |c k o=>
   simp only[AS.own,AS.withH] at ho ⊢
   cases hl:look (σ'.h++H1) k with
   |none=>rw[hl] at ho;cases ho
   |some cs=>
    rw[hl] at ho
    rcases hlook k cs hl with h1| ⟨h1,h2⟩
    ·rw[h1];exact .inl ho
    ·exact .inr ⟨k,o,cs,rfl,h2,ho⟩
 have hold:∀k o cs sz l,look H1 k=some cs→cw cs[o]? =some (sz,l)→∃x,X.w.cell? ⟨k,o,none⟩=some x∧X0.w.cell? ⟨k,o,none⟩=some x∧gl F X0 sz l x∧gl F X sz l x:=fun k o cs sz l hk ho=>by
  obtain⟨x,hx1,hok⟩:=h0.own (.c k o) sz l (rD (hH k cs hk) ho)
  have hc0:X0.w.cell? ⟨k,o,none⟩=some x:=hx1
  refine⟨x,by rw[cN (hx.frame k (hF1 k cs hk)).1];exact hc0,hc0,hok,hok.keep fun b n c hxe=> ?_⟩
  subst hxe
  have hb:=hF b (.inr (.inr ⟨k,o,sz,l,_,_,_,cs,hk,ho,hc0,rfl⟩))
  exact⟨(hx.frame b hb).1,(hx.frame b hb).2,(nJ hok).2.1⟩
 have hnF':∀r sz l a n c,σ'.own r=some (sz,l)→rootV tm X.w r=some (.slice (some a) n c)→¬F' a.block:=fun r sz l a n c ho hr=>by
  obtain⟨x,k1,k2⟩:=h.own r sz l ho
  have:x=.slice (some a) n c:=Option.some.inj (k1.symm.trans hr)
  rw[this] at k2
  exact(nJ k2).2.1
 refine⟨⟨h.size,h.gb,fun b hb'=>h.fb b (hF0 b hb'),h.slot,fun k cs hk=> ?_,h.eqs,fun r sz l ho=> ?_,fun r r' sz l sz' l' a n c a' n' c' hne ho ho' hr hr'=> ?_⟩,h.eqm⟩
 ·rcases hlook k cs hk with h1| ⟨h1,h2⟩
  ·exact(h.box k cs h1).keep ⟨rfl,rfl,fun e=>(h.box k cs h1).nF (hF0 k e)⟩ (mH.refl X)
  ·have hk':=h0.box k cs (hH k cs h2)
   exact hk'.keep ⟨(hx.frame k (hF1 k cs h2)).1,(hx.frame k (hF1 k cs h2)).2,hk'.nF⟩ hx.pres
 ·rcases hown r sz l ho with h1| ⟨k,o,cs,rfl,h1,h2⟩
  ·obtain⟨x,k1,k2⟩:=h.own r sz l h1
   exact⟨x,k1,k2.keep fun b n c hv=>⟨rfl,rfl,fun e=>(k2.lt hv).2 (hF0 b e)⟩⟩
  ·obtain⟨x,k1,_,_,k2⟩:=hold k o cs sz l h1 h2
   exact⟨x,k1,k2⟩
 ·rcases hown r sz l ho with h1| ⟨k,o,cs,rfl,h1,h2⟩
  ·rcases hown r' sz' l' ho' with h3| ⟨k',o',cs',rfl,h3,h4⟩
   ·exact h.disj r r' sz l sz' l' a n c a' n' c' hne h1 h3 hr hr'
   ·obtain⟨x,k1,k0,k2,_⟩:=hold k' o' cs' sz' l' h3 h4
    have:x=.slice (some a') n' c':=Option.some.inj (k1.symm.trans hr')
    subst this
    intro e
    exact hnF' r sz l a n c h1 hr (by rw[e];exact hF _ (.inr (.inr ⟨k',o',sz',l',_,_,_,cs',h3,h4,k0,rfl⟩)))
  ·obtain⟨x,k1,k0,k2,_⟩:=hold k o cs sz l h1 h2
   have:x=.slice (some a) n c:=Option.some.inj (k1.symm.trans hr)
   subst this
   rcases hown r' sz' l' ho' with h3| ⟨k',o',cs',rfl,h3,h4⟩
   ·intro e
    exact hnF' r' sz' l' a' n' c' h3 hr' (by rw[← e];exact hF _ (.inr (.inr ⟨k,o,sz,l,_,_,_,cs,h1,h2,k0,rfl⟩)))
   ·obtain⟨x',k1',k0',_,_⟩:=hold k' o' cs' sz' l' h3 h4
    have:x'=.slice (some a') n' c':=Option.some.inj (k1'.symm.trans hr')
    subst this
    exact h0.disj (.c k o) (.c k' o') sz l sz' l' a n c a' n' c' hne (rD (hH k cs h1) h2) (rD (hH k' cs' h3) h4) k0 k0'
section
variable {P:Program} {Q:Exit→AS→Prop} {ks:List It} {σ:AS} {l:List Oper} {mN:Nat→Bool}
structure Full (l:List Oper) (mN:Nat→Bool) (V:Nat→Value) (tm tf:Array Value):Prop where
 size:tf.size=tm.size
 same:∀t,(∀ (q:Nat) o,l[q]? =some o→mN q=true→o.dst≠some t)→tf.getD t undef=tm.getD t undef
 val:∀ (q:Nat) o t,l[q]? =some o→mN q=true→o.dst=some t→tf.getD t undef=V q
theorem PL{V:Nat→Value}{cs:List Nat}{tm:Array Value}(hB:MixOk l mN cs)(hst:∀ (q:Nat) o d,l[q]? =some o→mN q=true→o.dst=some d→d < tm.size):∃tf,Full l mN V tm tf:=by
 classical
 refine⟨Array.ofFn (n:=tm.size) fun t=>if hx:∃q o,l[q]? =some o∧mN q=true∧o.dst=some t.1 then V (Classical.choose hx) else tm.getD t.1 undef,by simp,fun t ht=> ?_,fun q o t ho hmq hod=> ?_⟩
 ·simp only[Array.getD_eq_getD_getElem?,Array.getElem?_ofFn]
  by_cases hl:t < tm.size
  ·rw[dif_pos hl,dif_neg (by rintro⟨q,o,k1,k2,k3⟩;exact ht q o k1 k2 k3)];rfl
  ·rw[dif_neg hl,Array.getElem?_eq_none (Nat.le_of_not_lt hl)]
 ·simp only[Array.getD_eq_getD_getElem?,Array.getElem?_ofFn]
  have hl:=hst q o t ho hmq hod
  have hx:∃q o,l[q]? =some o∧mN q=true∧o.dst=some t:=⟨q,o,ho,hmq,hod⟩
  rw[dif_pos hl,dif_pos hx]
  obtain⟨o',k1,k2,k3⟩:=Classical.choose_spec hx
  have:=hB.ndst _ q o' o t k1 ho k2 k3 hod
  simp only[Option.getD_some,this]
structure DrawG (P:Program) (Q:Exit→AS→Prop) (ks:List It) (l:List Oper) (mN:Nat→Bool) (cs:List Nat) (lim:Nat→Nat) (F:Nat→Prop) (X:GW) (tm tf0:Array Value) (D:List Deferred) (V:Nat→Value) (J:Nat→GW→Array Value→Prop):Prop where
 start:J 0 X tf0
 n:∀ (i:Nat) o j X1 (a1:Act) tf,l[i]? =some o→mN i=true→j≤lim i→J j X1 tf→(∀t,t∈cO l o→a1.tmps.getD t undef=tf0.getD t undef)→jN P o a1 X1.w fun x w'=>x=V i∧∃X2:GW,X2.w=w'∧J j X2 tf∧Ext F X1 X2
 c:∀ (j c:Nat) o X1 tf,cs[j]? =some c→l[c]? =some o→J j X1 tf→iW P (fun x w'=>∃X':GW,X'.w=w'∧J (j+1) X' (({ tmps:=tf,defers:=D }:Act).put o.dst x).tmps∧Ext F X1 X') (fun v w'=>∃ (X':GW) (H2:List (Nat × List AV)) (tm2:Array Value),X'.w=w'∧Stk P Q ks (.panic [{ v:=v,recovered:=false }]) ⟨tm.size,[],H2,[]⟩∧SimE F X' ⟨tm.size,[],H2,[]⟩ tm2∧Ext F X1 X') ((execOp ({ tmps:=tf,defers:=D }:Act).eval o).run P X1.w)
 fin:∀X1 tf,J cs.length X1 tf→∃σ':AS,SimE F X1 σ' tf∧aY P Q ks σ'
theorem SimE.slotless{F:Nat→Prop}{X:GW}{n:Nat}{H:List (Nat × List AV)}{tm tm':Array Value}(h:SimE F X ⟨n,[],H,[]⟩ tm)(hs:tm'.size=n):SimE F X ⟨n,[],H,[]⟩ tm':=by
 have hr:∀r sz l,AS.own ⟨n,[],H,[]⟩ r=some (sz,l)→rootV tm' X.w r=rootV tm X.w r:=fun r sz l ho=>by
  cases r with
  |s t=>simp only[AS.own,av] at ho;cases ho
  |c k o=>rfl
 refine⟨⟨hs,h.gb,h.fb,fun t u hu=>(by cases hu),h.box,fun x r hx=>(by cases hx),fun r sz l ho=> ?_,fun r r' sz l sz' l' a n c a' n' c' hne ho ho' hr1 hr2=> ?_⟩,fun p hp=>by cases hp⟩
 ·rw[hr r sz l ho];exact h.own r sz l ho
 ·rw[hr r sz l ho] at hr1
  rw[hr r' sz' l' ho'] at hr2
  exact h.disj r r' sz l sz' l' a n c a' n' c' hne ho ho' hr1 hr2
theorem Kc{id:Nat}{cs:List Nat}{lim:Nat→Nat}(hm:P.follows .mixedOrders=true)(hB:MixOk l mN cs)(hlim:∀ (i j c:Nat) o,mN i=true→lim i=j→cs[j]? =some c→l[c]? =some o→∀p:Nat→Prop,(∀ (q:Nat) oq,l[q]? =some oq→p q→∀d∈bM oq,p d)→p c→p i)
  (hd:∀ (i:Nat) o,l[i]? =some o→mN i=true→∃d,o.dst=some d∧o.guard=none∧d < σ.n)
  (h:∀F X tm D,SimE F X σ tm→∃V J,∀tf0,Full l mN V tm tf0→DrawG P Q ks l mN cs lim F X tm tf0 D V J):aY P Q (.c (.region id l.toArray true)::ks) σ:=by
 intro F X a hs D hdf
 have hXd:New X ⟨X.w.drew,X.g⟩:=⟨rfl,rfl,rfl,Nat.le_refl _,fun _ _=>⟨rfl,rfl⟩⟩
 have hdst:∀ (i:Nat) o,l[i]? =some o→mN i=true→∃d,o.dst=some d∧o.guard=none∧d < a.tmps.size:=fun i o ho hmi=>by
  obtain⟨d,k1,k2,k3⟩:=hd i o ho hmi
  exact⟨d,k1,k2,by rw[hs.size];exact k3⟩
 obtain⟨V,J,hG⟩:=h F ⟨X.w.drew,X.g⟩ a.tmps D (hs.new hXd hs.gb)
 obtain⟨tf0,hfull⟩:=PL (V:=V) (tm:=a.tmps) hB fun q o d ho hmq hod=>by
  obtain⟨d',k1,_,k3⟩:=hdst q o ho hmq
  rw[hod] at k1;cases k1;exact k3
 obtain⟨hf1,hf2,hf3⟩:=hfull
 obtain⟨hJ,hN,hC,hfin⟩:=hG tf0 ⟨hf1,hf2,hf3⟩
 refine wp_region_any hm ?_
 let Inv:Array Bool→GW→Act→Prop:=fun listed X1 a1=>∃ (tf:Array Value) (done rem:List Nat),cs=done++rem∧(∀i∈done,listed.getD i false=true)∧(∀i∈rem,listed.getD i false=false)∧Filled l mN V listed a1.tmps tf∧
  J done.length X1 tf∧Ext F X X1∧a1.tmps.size=a.tmps.size∧(∀t,(∀ (q:Nat) oq,l[q]? =some oq→oq.dst=some t→mN q=false∧listed.getD q false=false)→a1.tmps.getD t undef=a.tmps.getD t undef)
 have key:∀ (fuel:Nat) (listed:Array Bool) (X1:GW) (a1:Act),listed.size=l.length→
   ((List.range l.length).filter (fun i=> !listed.getD i true)).length≤fuel→a1.defers=D→Inv listed X1 a1→(∀j oj,l[j]? =some oj→listed.getD j false=true→∀d∈bM oj,listed.getD d false=true)→
   wpAny P .any l.toArray (da F X D (Stk P Q ks)) fuel listed a1 X1.w:=by
  have fin:∀ (listed:Array Bool) (X1:GW) (a1:Act),listed.size=l.length→Region.ready .any l.toArray listed=[] →a1.defers=D→Inv listed X1 a1→da F X D (Stk P Q ks) .normal a1 X1.w:=by
   rintro listed X1 a1 hsz hnil hd1 ⟨tf,done,rem,c1,c2,c3,c4,c5,c7,c8,c9⟩
   have hall:∀i,i < l.length→listed.getD i false=true:=by
    intro i hil
    apply Classical.byContradiction
    intro hc
    have hc:listed.getD i false=false:=by simpa using hc
    obtain⟨k,hk,hkf,hkl⟩:=j5 (fun j=>listed.getD j false) l.length ⟨i,hil,hc⟩
    have hmem:k∈Region.ready .any l.toArray listed:=by
     refine mem_ready.2 ⟨by rw[fk (by omega)];exact hkf,l[k],by simp[hk],fun e he hb=> ?_⟩
     exact hkl e.on (hB.lex k l[k] (List.getElem?_eq_getElem hk) e.on (ca.2 ⟨e,he,hb,rfl⟩))
    rw[hnil] at hmem;cases hmem
   have hrem:rem=[] :=by
    cases rem with
    |nil=>rfl
    |cons c r=>
     have h1:=c3 c List.mem_cons_self
     rw[hall c (hB.clt c (by rw[c1];simp))] at h1;cases h1
   subst hrem
   have htf:tf=a1.tmps:=by
    apply Array.ext c4.size
    intro i h1 h2
    have:=c4.same i fun q o k1 _ _=>hall q (List.getElem?_eq_some_iff.1 k1).1
    simpa[h1,h2] using this
   rw[htf] at c5
   rw[List.append_nil] at c1
   rw[← c1] at c5
   obtain⟨σ',g1,g2⟩:=hfin X1 a1.tmps c5
   exact⟨hd1,X1,σ',rfl,g2,g1,c7⟩
  intro fuel
  induction fuel with
  |zero=>
   intro listed X1 a1 hsz hf hd1 hI hdn
   have hnil:Region.ready .any l.toArray listed=[] :=by
    rw[List.eq_nil_iff_forall_not_mem]
    intro i hi
    obtain⟨h1,o,h2,_⟩:=mem_ready.1 hi
    have hil:i < l.length:=by simpa using (Array.getElem?_eq_some_iff.1 h2).1
    have h0:=List.length_eq_zero_iff.1 (Nat.le_zero.1 hf)
    have:=List.filter_eq_nil_iff.1 h0 i (List.mem_range.2 hil)
    rw[h1] at this;exact this rfl
   exact⟨hnil,fin listed X1 a1 hsz hnil hd1 hI⟩
  |succ fuel ih=>
   intro listed X1 a1 hsz hf hd1 hI hdn
   refine⟨fun hnil=>fin listed X1 a1 hsz hnil hd1 hI,fun i hi=> ?_⟩
   obtain⟨h1,o,h2,h3⟩:=mem_ready.1 hi
   have h2':l[i]? =some o:=by simpa using h2
   have hil:i < l.length:=(List.getElem?_eq_some_iff.1 h2').1
   have hlf:listed.getD i false=false:=by rw[← fk (by omega)];exact h1
   have hdep:∀q∈bM o,listed.getD q false=true:=fun q hq=>by
    obtain⟨e,k1,k2,k3⟩:=ca.1 hq
    rw[← k3];exact h3 e k1 k2
   have hcnt:((List.range l.length).filter (fun j=> !(listed.setIfInBounds i true).getD j true)).length≤fuel:=by
    have:=mD hil hsz h1
    omega
   obtain⟨tf,done,rem,c1,c2,c3,c4,c5,c7,c8,c9⟩:=hI
   have hset:∀j,(listed.setIfInBounds i true).getD j false=if j=i then true else listed.getD j false:=fun j=>bf false (by omega)
   have hseen:∀t,t∈cO l o→tf.getD t undef=a1.tmps.getD t undef:=fun t ht=>c4.same t fun q oq k1 k2 k3=>hdep q (hB.settled i o q oq t h2' k1 k2 k3 ht).2
   have hdn':∀j oj,l[j]? =some oj→(listed.setIfInBounds i true).getD j false=true→∀d∈bM oj,(listed.setIfInBounds i true).getD d false=true:=fun j oj hoj hj d hd=>by
    rw[hset] at hj ⊢
    split
    ·rfl
    ·by_cases e:j=i
     ·subst e
      rw[h2'] at hoj;cases hoj
      exact hdep d hd
     ·rw[if_neg e] at hj
      exact hdn j oj hoj hj d hd
   unfold wpOp
   simp only[h2]
   cases hmi:mN i with
   |true=>
    obtain⟨d,k1,k2,hdl⟩:=hdst i o h2' hmi
    have hfree:∀t,t∈cO l o→(∀ (q:Nat) o',l[q]? =some o'→mN q=true→o'.dst≠some t)→∀ (q:Nat) oq,l[q]? =some oq→oq.dst=some t→mN q=false∧listed.getD q false=false:=fun t hts hn q oq hq hod=>by
     cases hmq:mN q with
     |true=>exact absurd hod (hn q oq hq hmq)
     |false=>
      refine⟨rfl,?_⟩
      cases hl:listed.getD q false with
      |false=>rfl
      |true=>
       have:=hdn q oq hq hl i (hB.nsees i o q oq t h2' hmi hq hmq hod hts)
       rw[hlf] at this;cases this
    have hsee0:∀t,t∈cO l o→a1.tmps.getD t undef=tf0.getD t undef:=fun t ht=>by
     by_cases hx:∃ (q:Nat) (oq:Oper),l[q]? =some oq∧mN q=true∧oq.dst=some t
     ·obtain⟨q,oq,j1,j2,j3⟩:=hx
      rw[hf3 q oq t j1 j2 j3,← hseen t ht,c4.val q oq t j1 j2 j3]
     ·have hn:∀ (q:Nat) o',l[q]? =some o'→mN q=true→o'.dst≠some t:=fun q o' a b c=>hx ⟨q,o',a,b,c⟩
      rw[hf2 t hn]
      exact c9 t (hfree t ht hn)
    have hjl:done.length≤lim i:=by
     apply Classical.byContradiction
     intro hc
     have hlt:lim i < done.length:=by omega
     have hcj:cs[lim i]? =some done[lim i] :=by rw[c1,List.getElem?_append_left hlt];exact List.getElem?_eq_getElem hlt
     have hdl2:=c2 _ (List.getElem_mem hlt)
     have hcl:=hB.clt _ (List.mem_of_getElem? hcj)
     have:=hlim i _ _ _ hmi rfl hcj (List.getElem?_eq_getElem hcl) (fun q=>listed.getD q false=true) hdn hdl2
     rw[hlf] at this;cases this
    have hw:Region.wanted o (yielded l.toArray a1.tmps)=true:=by unfold Region.wanted;rw[k2]
    rw[if_pos hw]
    left
    refine(hN i o done.length X1 a1 tf h2' hmi hjl c5 hsee0).wp fun x w' ⟨hx,X2,q1,q2,q3⟩=> ?_
    subst q1 hx
    refine ih (listed.setIfInBounds i true) X2 (a1.put o.dst (V i)) (by simp[hsz]) hcnt (by rw[eM];exact hd1) ⟨tf,done,rem,c1,fun j hj=> ?_,fun j hj=> ?_,⟨by rw[lB];exact c4.size,fun t ht=> ?_,c4.val⟩,q2,c7.trans q3,by rw[lB];exact c8,fun t ht=> ?_⟩ hdn'
    ·rw[hset];split
     ·rfl
     ·exact c2 j hj
    ·rw[hset,if_neg (fun e=>by
      subst e
      have:=(hB.call j hil).2 (by rw[c1];exact List.mem_append_right _ hj)
      rw[hmi] at this;cases this)]
     exact c3 j hj
    ·rw[gt,k1]
     by_cases e:t=d
     ·subst e
      rw[if_pos ⟨rfl,by rw[c8];exact hdl⟩]
      exact c4.val i o t h2' hmi k1
     ·rw[if_neg (by rintro⟨h,_⟩;exact e (Option.some.inj h).symm)]
      refine c4.same t fun q oq j1 j2 j3=> ?_
      have:=ht q oq j1 j2 j3
      rw[hset] at this
      by_cases e2:q=i
      ·subst e2
       rw[h2'] at j1;cases j1
       rw[k1] at j3;cases j3;exact absurd rfl e
      ·rw[if_neg e2] at this;exact this
    ·rw[gt,if_neg (by
      rintro⟨h,_⟩
      have:=(ht i o h2' h).1
      rw[hmi] at this;cases this)]
     refine c9 t fun q oq j1 j2=> ?_
     obtain⟨m1,m2⟩:=ht q oq j1 j2
     refine⟨m1,?_⟩
     rw[hset] at m2
     by_cases e2:q=i
     ·rw[if_pos e2] at m2;cases m2
     ·rw[if_neg e2] at m2;exact m2
   |false=>
    obtain⟨hg,hsel⟩:=hB.cguard i o h2' hmi
    have hics:i∈cs:=(hB.call i hil).1 hmi
    have hirem:i∈rem:=by
     rw[c1] at hics
     rcases List.mem_append.1 hics with h|h
     ·rw[c2 i h] at hlf;cases hlf
     ·exact h
    obtain⟨r,hr⟩:∃r,rem=i::r:=by
     cases hrem:rem with
     |nil=>rw[hrem] at hirem;cases hirem
     |cons c r=>
      rw[hrem] at hirem
      rcases List.mem_cons.1 hirem with rfl|hir
      ·exact⟨r,rfl⟩
      ·exfalso
       obtain⟨j,hj⟩:=List.getElem?_of_mem hir
       have hjl:j < (c::r).length:=by
        have:=(List.getElem?_eq_some_iff.1 hj).1
        simp;omega
       have hpre:cs[done.length+j]? =some (c::r)[j] :=by
        rw[c1,hrem,List.getElem?_append_right (by omega),show done.length+j - done.length=j by omega]
        exact List.getElem?_eq_getElem hjl
       have hpost:cs[done.length+j+1]? =some i:=by
        rw[c1,hrem,List.getElem?_append_right (by omega),show done.length+j+1 - done.length=j+1 by omega]
        simpa using hj
       have h5:=hdep _ (hB.cchain _ _ _ o hpre hpost h2')
       rw[c3 _ (by rw[hrem];exact List.getElem_mem hjl)] at h5;cases h5
    subst hr
    have hw:Region.wanted o (yielded l.toArray a1.tmps)=true:=by unfold Region.wanted;rw[hg]
    rw[if_pos hw]
    left
    have hcd:cs[done.length]? =some i:=by rw[c1,List.getElem?_append_right (Nat.le_refl _)];simp
    have hrun:=hC done.length i o X1 tf hcd h2' c5
    have hev:execOp ({ tmps:=tf,defers:=D }:Act).eval o=execOp a1.eval o:=by
     refine execOp_congr o hsel fun x hx=> ?_
     cases x with
     |tmp t=>exact hseen t (by simp only[cO];exact List.mem_append_left _ (hZ (by simpa using hx)))
     |const v=>rfl
     |func f=>rfl
     |global g=>rfl
    rw[hev] at hrun
    have hnd:∀ (q:Nat) oq t,l[q]? =some oq→mN q=true→oq.dst=some t→o.dst≠some t:=fun q oq t j1 j2 j3 e=>by
     have:=hB.ndst q i oq o t j1 h2' j2 j3 e
     subst this
     rw[hmi] at j2;cases j2
    have fin2:∀ (x:Value) (w':World),(∃X':GW,X'.w=w'∧J (done.length+1) X' (({ tmps:=tf,defers:=D }:Act).put o.dst x).tmps∧Ext F X1 X')→wpAny P .any l.toArray (da F X D (Stk P Q ks)) fuel (listed.setIfInBounds i true) (a1.put o.dst x) w':=by
     rintro x w' ⟨X2,rfl,q3,q4⟩
     have hnodup:=hB.cnodup
     rw[c1] at hnodup
     refine ih (listed.setIfInBounds i true) X2 (a1.put o.dst x) (by simp[hsz]) hcnt (by rw[eM];exact hd1) ⟨(({ tmps:=tf,defers:=D }:Act).put o.dst x).tmps,done++ [i],r,by rw[c1];simp,fun j hj=> ?_,fun j hj=> ?_,⟨by rw[lB,lB];exact c4.size,fun t ht=> ?_,fun q oq t j1 j2 j3=> ?_⟩,by rw[List.length_append];exact q3,c7.trans q4,by rw[lB];exact c8,fun t ht=> ?_⟩ hdn'
     ·rw[hset];split
      ·rfl
      ·rcases List.mem_append.1 hj with hj|hj
       ·exact c2 j hj
       ·rename_i hne
        simp at hj;exact absurd hj hne
     ·have hji:j≠i:=by
       rintro rfl
       have h6:=(List.nodup_append.1 hnodup).2.1
       rw[List.nodup_cons] at h6
       exact h6.1 hj
      rw[hset,if_neg hji]
      exact c3 j (List.mem_cons_of_mem _ hj)
     ·rw[gt,gt]
      have hsz2:({ tmps:=tf,defers:=D }:Act).tmps.size=a1.tmps.size:=c4.size
      rw[hsz2]
      by_cases e:o.dst=some t∧t < a1.tmps.size
      ·rw[if_pos e,if_pos e]
      ·rw[if_neg e,if_neg e]
       refine c4.same t fun q oq j1 j2 j3=> ?_
       have:=ht q oq j1 j2 j3
       rw[hset] at this
       by_cases e2:q=i
       ·subst e2;rw[hmi] at j2;cases j2
       ·rw[if_neg e2] at this;exact this
     ·rw[gt,if_neg (by rintro⟨h,_⟩;exact hnd q oq t j1 j2 j3 h)]
      exact c4.val q oq t j1 j2 j3
     ·rw[gt,if_neg (by
       rintro⟨h,_⟩
       have:=(ht i o h2' h).2
       rw[hset,if_pos rfl] at this;cases this)]
      refine c9 t fun q oq j1 j2=> ?_
      obtain⟨m1,m2⟩:=ht q oq j1 j2
      refine⟨m1,?_⟩
      rw[hset] at m2
      by_cases e2:q=i
      ·rw[if_pos e2] at m2;cases m2
      ·rw[if_neg e2] at m2;exact m2
    have pan:∀ (v:Value) (w':World),(∃ (X':GW) (H2:List (Nat × List AV)) (tm2:Array Value),X'.w=w'∧Stk P Q ks (.panic [{ v:=v,recovered:=false }]) ⟨a.tmps.size,[],H2,[]⟩∧SimE F X' ⟨a.tmps.size,[],H2,[]⟩ tm2∧Ext F X1 X')→da F X D (Stk P Q ks) (.panic [{ v:=v,recovered:=false }]) a1 w':=by
     rintro v w' ⟨X',H2,tm2,rfl,h3,h4,h5⟩
     exact⟨hd1,X',_,rfl,h3,h4.slotless c8,c7.trans h5⟩
    unfold Oper.wp
    generalize (execOp a1.eval o).run P X1.w=r at hrun ⊢
    cases r with
    |halt z w=>
     cases z<;> simp only[iW] at hrun
     exact pan _ _ hrun
    |ok nx w=>
     cases nx<;> simp only[iW] at hrun<;> simp only[Oper.upon]
     case value x=>exact fin2 _ _ hrun
     case skip=>exact fin2 _ _ hrun
     case enter f args=>
      refine hrun.mono fun e w' he=> ?_
      cases e with
      |returned v=>exact fin2 _ _ he
      |panicked ch=>obtain⟨v,rfl,he⟩:=he;exact pan _ _ he
      |outgrown=>exact he.elim
 have hno:∀i,(Array.replicate l.toArray.size false).getD i false=false:=fun i=>by
  simp only[Array.getD_eq_getD_getElem?,Array.getElem?_replicate]
  split<;> simp
 refine key _ _ ⟨X.w.drew,X.g⟩ a (by simp) (by refine Nat.le_trans (List.length_filter_le _ _) (by simp)) hdf ⟨tf0,[],cs,rfl,(fun i hi=>by cases hi),(fun i _=>hno i),⟨hf1,(fun t ht=>hf2 t fun q o k1 k2 k3=>by have:=ht q o k1 k2 k3;rw[hno] at this;cases this),hf3⟩,hJ,hXd.ext hs.gb hs.fb,rfl,fun t _=>rfl⟩ (fun j oj _ hf=>by rw[hno] at hf;cases hf)
end
theorem rF{F:Nat→Prop}{X:GW}{k off:Nat}{cs:List AV}{u:AV}(h:eI F X k cs)(hm:fx cs=false)(hu:cs[off]? =some u):∃v,X.w.cell? ⟨k,off,none⟩=some v∧Rel X u v:=by
 obtain⟨b1,b2,arr,el,fr,b3,b4,b5,b6⟩:=h.cells hm
 have hlt:off < arr.size:=by rw[b4];exact(List.getElem?_eq_some_iff.1 hu).1
 exact⟨arr[off],by simp[World.cell?,b3,hlt],b6 off u _ hu (Array.getElem?_eq_getElem hlt)⟩
def bst(mB:Nat→Bool)(i:Nat)(σ:AS):AS:=match mB i with|true=>σ|false=>σ.withH []
def QQ(P:Program)(o:Oper)(σ:AS)(k off:Nat)(u:AV):Prop:=
 (∃cs u0,look σ.h k=some cs∧fx cs=false∧cs[off]? =some u0∧u=u0.rd)∧(∀s,o.op≠.move (.tmp s))∧∀F X (a:Act),SimR F X σ o.op a.tmps→∃v,X.w.cell? ⟨k,off,none⟩=some v∧(execOp a.eval o).run P X.w=.ok (.value v) X.w
def sL(ld:List (Nat × Nat × Nat))(d:Nat):Option (Nat × Nat × Nat):=ld.find? fun p=>p.1==d
def O4(P:Program)(l:List Oper)(mN mB:Nat→Bool)(ld:List (Nat × Nat × Nat))(i:Nat)(σ:AS)(o:Oper)(u:AV):Prop:=
 cw (some u)=none∧∀d,o.dst=some d→match sL ld d with
  |some p=>mB i=true∧QQ P o σ p.2.1 p.2.2 u
  |none=>(∃x,u=.v x)∨∃s,o.op=.move (.tmp s)∧∀ (q:Nat) o',l[q]? =some o'→mN q=true→o'.dst≠some s
def tq(P:Program)(l:List Oper)(mN mB:Nat→Bool)(ld:List (Nat × Nat × Nat))(K:AS→Prop):Nat→List Oper→AS→Prop
 |_,[],σ=>K σ
 |k,o::rest,σ=>match mN k with
  |true=>∃d u,o.dst=some d∧o.guard=none∧Nat.ble (d+1) σ.n=true∧OpV P o (bst mB k σ) u∧O4 P l mN mB ld k σ o u∧tq P l mN mB ld K (k+1) rest (σ.put d u)
  |false=>tq P l mN mB ld K (k+1) rest σ
section
variable {P:Program} {Q:Exit→AS→Prop} {ks:List It} {σ:AS} {K:AS→Prop} {l:List Oper} {mN mB:Nat→Bool} {ld:List (Nat × Nat × Nat)}
theorem ue(L:List Oper):∀ (rest:List Oper) (k:Nat) (σ:AS),tq P L mN mB ld K k rest σ→∃us:List AV,us.length=rest.length∧K (puts σ (msk mN k rest) us)∧
  ∀ (i:Nat) o u,rest[i]? =some o→us[i]? =some u→mN (k+i)=true→∃d,o.dst=some d∧o.guard=none∧Nat.ble (d+1) σ.n=true∧OpV P o (bst mB (k+i) (puts σ ((msk mN k rest).take i) (us.take i))) u∧O4 P L mN mB ld (k+i) (puts σ ((msk mN k rest).take i) (us.take i)) o u
 | [],k,σ,h=>⟨[],rfl,h,fun i o u h=>by simp at h⟩
 |o::rest,k,σ,h=>by
  unfold tq at h
  cases hm:mN k with
  |true=>
   rw[hm] at h
   obtain⟨d,u,h1,h2,h3,h4,h5,h6⟩:=h
   obtain⟨us,k1,k2,k3⟩:=ue L rest (k+1) (σ.put d u) h6
   refine⟨u::us,by simp[k1],by simp only[msk,hm,puts,h1];exact k2,fun i o' u' ho hu hmi=> ?_⟩
   cases i with
   |zero=>simp at ho hu;subst ho hu;exact⟨d,h1,h2,h3,h4,h5⟩
   |succ i=>
    obtain⟨d',m1,m2,m3,m4,m5⟩:=k3 i o' u' (by simpa using ho) (by simpa using hu) (by rw[show k+1+i=k+ (i+1) by omega];exact hmi)
    rw[show k+1+i=k+ (i+1) by omega] at m4 m5
    refine⟨d',m1,m2,m3,?_,?_⟩
    ·simp only[msk,hm,List.take_succ_cons,puts,h1];exact m4
    ·simp only[msk,hm,List.take_succ_cons,puts,h1];exact m5
  |false=>
   rw[hm] at h
   obtain⟨us,k1,k2,k3⟩:=ue L rest (k+1) σ h
   refine⟨.v undef::us,by simp[k1],by simp only[msk,hm,puts,noOp];exact k2,fun i o' u' ho hu hmi=> ?_⟩
   cases i with
   |zero=>rw[Nat.add_zero,hm] at hmi;cases hmi
   |succ i=>
    obtain⟨d',m1,m2,m3,m4,m5⟩:=k3 i o' u' (by simpa using ho) (by simpa using hu) (by rw[show k+1+i=k+ (i+1) by omega];exact hmi)
    rw[show k+1+i=k+ (i+1) by omega] at m4 m5
    refine⟨d',m1,m2,m3,?_,?_⟩
    ·simp only[msk,hm,List.take_succ_cons,puts,noOp];exact m4
    ·simp only[msk,hm,List.take_succ_cons,puts,noOp];exact m5
def tT(P:Program)(o:Oper)(σ:AS)(R:AS→Prop)(RP:Value→List (Nat × List AV)→Prop):Prop:=
 ∀F X (a:Act),SimE F X σ a.tmps→iW P (fun x w'=>∃ (X':GW) (σ':AS),X'.w=w'∧R σ'∧SimE F X' σ' (a.put o.dst x).tmps∧Ext F X X') (fun v w'=>∃ (X':GW) (H2:List (Nat × List AV)),X'.w=w'∧RP v H2∧SimE F X' ⟨σ.n,[],H2,[]⟩ a.tmps∧Ext F X X') ((execOp a.eval o).run P X.w)
def pK(P:Program)(n:Nat)(RP:Value→List (Nat × List AV)→Prop)(K:AS→Prop):List Oper→AS→Prop
 | [],σ=>K σ
 |o::rest,σ=>σ.n=n∧tT P o σ (pK P n RP K rest) RP
def AS.alc(σ:AS)(ld:List (Nat × Nat × Nat)):AS:={ n:=σ.n,t:=σ.t,h:=σ.h,e:=ld.map (fun p=>(p.1,Root.c p.2.1 p.2.2))++σ.e }
theorem GJ{F:Nat→Prop}{X:GW}{tm:Array Value}:∀ {ld:List (Nat × Nat × Nat)} {σ:AS},SimE F X σ tm→(∀p∈ld,X.w.cell? ⟨p.2.1,p.2.2,none⟩=some (tm.getD p.1 undef))→SimE F X (σ.alc ld) tm
 | [],σ,h,_=>h
 |p::ld,σ,h,hm=>(GJ h fun q hq=>hm q (List.mem_cons_of_mem _ hq)).alias (d:=p.1) (r:=.c p.2.1 p.2.2) (hm p List.mem_cons_self)
theorem u9:∀ {ld:List (Nat × Nat × Nat)} {p:Nat × Nat × Nat},(ld.map (·.1)).Nodup→p∈ld→sL ld p.1=some p
 | [],p,_,h=>by cases h
 |q::ld,p,hn,h=>by
  rw[List.map_cons,List.nodup_cons] at hn
  unfold sL
  rw[List.find?_cons]
  rcases List.mem_cons.1 h with rfl|h
  ·simp
  ·have:(q.1==p.1)=false:=by
    simp only[beq_eq_false_iff_ne]
    exact fun e=>hn.1 (by rw[e];exact List.mem_map_of_mem h)
   rw[this]
   exact u9 hn.2 h
end
section
variable {P:Program} {Q:Exit→AS→Prop} {ks:List It} {σ:AS} {K:AS→Prop} {l:List Oper} {mN mB:Nat→Bool} {ld:List (Nat × Nat × Nat)}
theorem iW.mono{R R':Value→World→Prop}{RP RP':Value→World→Prop}{r:Result Next}(h:iW P R RP r)(hR:∀x w,R x w→R' x w)(hP:∀v w,RP v w→RP' v w):iW P R' RP' r:=by
 cases r with
 |halt z w=>cases z<;> simp only[iW] at h ⊢ <;> first|exact hP _ _ h|exact h.elim
 |ok nx w=>
  cases nx<;> simp only[iW] at h ⊢
  case value x=>exact hR _ _ h
  case skip=>exact hR _ _ h
  case enter f args=>
   refine h.mono fun e w' he=> ?_
   cases e with
   |returned v=>exact hR _ _ he
   |panicked ch=>obtain⟨v,rfl,he⟩:=he;exact⟨v,rfl,hP _ _ he⟩
   |outgrown=>exact he.elim
theorem G8(i:Nat)(σ:AS):(bst mB i σ).t=σ.t:=by unfold bst;cases mB i<;> rfl
theorem GQ{i:Nat}{σ:AS}{k:Nat}{c:List AV}(h:look (bst mB i σ).h k=some c):mB i=true∧look σ.h k=some c:=by
 unfold bst at h
 cases hb:mB i with
 |true=>rw[hb] at h;exact⟨rfl,h⟩
 |false=>rw[hb] at h;cases h
def ve(X:GW)(tm:Array Value)(ld:List (Nat × Nat × Nat))(o:Oper)(u:AV):Value:=match o.dst with
 |some d=>match sL ld d with
  |some p=>(X.w.cell? ⟨p.2.1,p.2.2,none⟩).getD undef
  |none=>Mv { tmps:=tm,defers:=[] } u o.op
 |none=>undef
set_option maxHeartbeats 1000000
theorem KC{id:Nat}{st:Nat→Bool}{cs1 cs2:List Nat}(hm:P.follows .mixedOrders=true)(hB:MixOk l mN (cs1++cs2))(hmB:∀ (i c:Nat) o,mN i=true→mB i=true→cs2.head? =some c→l[c]? =some o→∀p:Nat→Prop,(∀ (q:Nat) oq,l[q]? =some oq→p q→∀d∈bM oq,p d)→p c→p i)(he:σ.e=[])(hldn:(ld.map (·.1)).Nodup)(hldb:∀p∈ld,∃ (q:Nat) (o:Oper),l[q]? =some o∧mN q=true∧o.dst=some p.1)
  (h:tq P l mN mB ld (fun σ'=>pK P σ.n (fun v H2=>∃H3,(∀k cs,look H3 k=some cs→look (H2++σ.h.filter fun p=>st p.1) k=some cs)∧Stk P Q ks (.panic [{ v:=v,recovered:=false }]) ⟨σ.n,[],H3,[]⟩) (fun σ2=>pK P σ.n (fun v H2=>Stk P Q ks (.panic [{ v:=v,recovered:=false }]) ⟨σ.n,[],H2,[]⟩) (fun σ3=>aY P Q ks σ3) (cs2.filterMap fun i=>l[i]?) ((σ2.withH (σ2.h++σ.h.filter fun p=>st p.1)).alc ld)) (cs1.filterMap fun i=>l[i]?) ((σ'.withH (σ.h.filter fun p=> !st p.1)).als (ly l mN 0 l))) 0 l (σ.withH (σ.h.filter fun p=>st p.1))):
  aY P Q (.c (.region id l.toArray true)::ks) σ:=by
 obtain⟨us,hul,hK,hstep⟩:=ue l l 0 _ h
 simp only[Nat.zero_add] at hstep
 refine Kc (cs:=cs1++cs2) (lim:=fun i=>match mB i with|true=>cs1.length|false=>(cs1++cs2).length) hm hB (fun i j c o hmi hj hc ho=> ?_) (fun i o ho hmi=> ?_) fun F X tm D hs=> ?_
 ·cases hb:mB i with
  |true=>
   simp only[hb] at hj
   subst hj
   rw[List.getElem?_append_right (Nat.le_refl _),Nat.sub_self] at hc
   exact hmB i c o hmi hb (by rw[List.head?_eq_getElem?];exact hc) ho
  |false=>
   simp only[hb] at hj
   subst hj
   rw[List.getElem?_eq_none (Nat.le_refl _)] at hc;cases hc
 ·have hil:=(List.getElem?_eq_some_iff.1 ho).1
  obtain⟨d,k1,k2,k3,_⟩:=hstep i o us[i] ho (List.getElem?_eq_getElem (by omega)) hmi
  exact⟨d,k1,k2,ba k3⟩
 have hsa:=hs.aside st he
 generalize hH1:(σ.h.filter fun p=>st p.1)=H1 at *
 generalize hH0:(σ.h.filter fun p=> !st p.1)=H0 at *
 have h1look:∀k c,look H1 k=some c→st k=true∧look σ.h k=some c:=fun k c hk=>by
  rw[← hH1,oF] at hk
  by_cases e:st k=true
  ·rw[if_pos e] at hk;exact⟨e,hk⟩
  ·rw[if_neg e] at hk;cases hk
 have hbox1:∀k c,look H1 k=some c→eI F X k c:=fun k c hk=>hs.box k c (h1look k c hk).2
 have hmdis:∀ (q q':Nat) o o' d,(msk mN 0 l)[q]? =some o→(msk mN 0 l)[q']? =some o'→o.dst=some d→o'.dst=some d→q=q':=fun q q' o o' d h1 h2 h3 h4=>by
  obtain⟨k1,k2⟩:=rp h1 h3
  obtain⟨k3,k4⟩:=rp h2 h4
  exact hB.ndst q q' o o' d k2 k4 k1 h3 h4
 have hml:us.length=(msk mN 0 l).length:=by rw[rJ,hul]
 have hputs:∀ (i:Nat) (t:Nat) (u:AV),look (puts (σ.withH H1) ((msk mN 0 l).take i) (us.take i)).t t=some u→(∃q o,q < i∧l[q]? =some o∧mN q=true∧o.dst=some t∧us[q]? =some u)∨(look σ.t t=some u∧∀q o,q < i→l[q]? =some o→mN q=true→o.dst≠some t):=by
  intro i t u hu
  rw[ja _ _ _ _ (by simp[hml]) (fun q q' o1 o2 d h1 h2 h3 h4=>by
   rw[List.getElem?_take] at h1 h2
   split at h1
   ·split at h2
    ·exact hmdis q q' o1 o2 d h1 h2 h3 h4
    ·cases h2
   ·cases h1)] at hu
  cases hf:(((msk mN 0 l).take i).zip (us.take i)).find? (fun p=>p.1.dst==some t) with
  |some p=>
   rw[hf] at hu;cases hu
   have hmem:=List.mem_of_find?_eq_some hf
   have hpd:p.1.dst=some t:=by simpa using List.find?_some hf
   obtain⟨q,hq⟩:=List.getElem?_of_mem hmem
   rw[List.getElem?_zip_eq_some,List.getElem?_take,List.getElem?_take] at hq
   have hqi:q < i:=by
    apply Classical.byContradiction
    intro hc
    rw[if_neg hc] at hq;cases hq.1
   rw[if_pos hqi,if_pos hqi] at hq
   obtain⟨k1,k2⟩:=rp hq.1 hpd
   exact .inl ⟨q,p.1,hqi,k2,k1,hpd,hq.2⟩
  |none=>
   rw[hf] at hu
   refine .inr ⟨hu,fun q o hqi hlo hmq hod=> ?_⟩
   have hql:=(List.getElem?_eq_some_iff.1 hlo).1
   have hmq':(msk mN 0 l)[q]? =some o:=by rw[wS mN 0 l q o hlo,Nat.zero_add,hmq]
   have hmem:(o,us[q]'(by omega))∈((msk mN 0 l).take i).zip (us.take i):=by
    refine List.mem_of_getElem? (i:=q) (List.getElem?_zip_eq_some.2 ⟨?_,?_⟩)
    ·rw[List.getElem?_take,if_pos hqi];exact hmq'
    ·rw[List.getElem?_take,if_pos hqi];exact List.getElem?_eq_getElem (by omega)
   exact absurd (by simpa using hod) (List.find?_eq_none.1 hf _ hmem)
 refine⟨fun(q:Nat)=>match l[q]?,us[q]? with
  |some o,some u=>ve X tm ld o u
  |_,_=>undef,?_⟩
 generalize hVdef:(fun(q:Nat)=>match l[q]?,us[q]? with
  |some o,some u=>ve X tm ld o u
  |_,_=>undef)=V
 have hV:∀ (q:Nat) o u,l[q]? =some o→us[q]? =some u→V q=ve X tm ld o u:=fun q o u ho hu=>by rw[← hVdef];simp only[ho,hu]
 have hmv:∀ (q:Nat) o u s,l[q]? =some o→us[q]? =some u→mN q=true→o.op=.move (.tmp s)→(∀ (q':Nat) o',l[q']? =some o'→mN q'=true→o'.dst≠some s)→Rel X u (tm.getD s undef):=by
  intro q o u s ho hu hmq hop hns
  obtain⟨d,k1,k2,k3,k4,k5,k6⟩:=hstep q o u ho hu hmq
  refine(tN (F:=F) (a:={ tmps:=tm,defers:=[] }) hop k4 ⟨hs.gb,hs.fb,fun t u' ht hu'=> ?_,fun k c hk=> ?_⟩).1
  ·rw[hop] at ht
   simp[Op.operands] at ht
   subst ht
   rw[G8] at hu'
   rcases hputs q t u' hu' with ⟨q',o',_,k7,k9,k8,_⟩| ⟨k7,_⟩
   ·exact absurd k8 (hns q' o' k7 k9)
   ·exact hs.slot t u' k7
  ·have:=(GQ hk).2
   rw[kz] at this;exact hbox1 k c this
 have relV:∀ (q:Nat) o u,l[q]? =some o→us[q]? =some u→mN q=true→Rel X u (V q)∧cw (some u)=none:=by
  intro q o u ho hu hmq
  obtain⟨d,k1,k2,k3,k4,k5,k6⟩:=hstep q o u ho hu hmq
  refine⟨?_,k5⟩
  rw[hV q o u ho hu]
  have k7:=k6 d k1
  unfold ve
  simp only[k1]
  cases hld:sL ld d with
  |some p=>
   rw[hld] at k7
   obtain⟨_,⟨cs,u0,j1,j2,j3,rfl⟩,_,_⟩:=k7
   rw[kz] at j1
   obtain⟨v,g1,g2⟩:=rF (hbox1 _ _ j1) j2 j3
   simp only[g1,Option.getD_some]
   exact g2.rd
  |none=>
   rw[hld] at k7
   rcases k7 with ⟨x,rfl⟩| ⟨s,hop,hns⟩
   ·exact .v x
   ·by_cases hx:∃x,u=.v x
    ·obtain⟨x,rfl⟩:=hx;exact .v x
    ·have hval:Mv { tmps:=tm,defers:=[] } u o.op=tm.getD s undef:=by
      rw[hop]
      cases u<;> first|rfl|exact absurd ⟨_,rfl⟩ hx
     rw[hval]
     exact hmv q o u s ho hu hmq hop hns
 refine⟨fun j X1 tf=>tf.size=tm.size∧(∀ (q:Nat) o t,l[q]? =some o→mN q=true→o.dst=some t→tf.getD t undef=V q)∧Ext F X X1∧((j≤cs1.length∧∃σ1,SimE (jq F X H1) X1 σ1 tf∧Ext (jq F X H1) X X1∧pK P σ.n (fun v H2=>∃H3,(∀k cs,look H3 k=some cs→look (H2++H1) k=some cs)∧Stk P Q ks (.panic [{ v:=v,recovered:=false }]) ⟨σ.n,[],H3,[]⟩) (fun σ2=>pK P σ.n (fun v H2=>Stk P Q ks (.panic [{ v:=v,recovered:=false }]) ⟨σ.n,[],H2,[]⟩) (fun σ3=>aY P Q ks σ3) (cs2.filterMap fun i=>l[i]?) ((σ2.withH (σ2.h++H1)).alc ld)) ((cs1.drop j).filterMap fun i=>l[i]?) σ1)∨
  (cs1.length < j∧∃σ1,SimE F X1 σ1 tf∧pK P σ.n (fun v H2=>Stk P Q ks (.panic [{ v:=v,recovered:=false }]) ⟨σ.n,[],H2,[]⟩) (fun σ3=>aY P Q ks σ3) ((cs2.drop (j - cs1.length)).filterMap fun i=>l[i]?) σ1)),fun tf0 hf=> ?_⟩
 obtain⟨hf1,hf2,hf3⟩:=hf
 have hfull:∀t u,look (puts (σ.withH H1) (msk mN 0 l) us).t t=some u→(∃ (q:Nat) (o:Oper),l[q]? =some o∧mN q=true∧o.dst=some t∧us[q]? =some u)∨(look σ.t t=some u∧∀ (q:Nat) o,l[q]? =some o→mN q=true→o.dst≠some t):=by
  intro t u hu
  have e1:(msk mN 0 l).take l.length=msk mN 0 l:=List.take_of_length_le (by rw[rJ];omega)
  have e2:us.take l.length=us:=List.take_of_length_le (by omega)
  rcases hputs l.length t u (by rw[e1,e2];exact hu) with ⟨q,o,_,k⟩| ⟨k1,k2⟩
  ·exact .inl ⟨q,o,k⟩
  ·exact .inr ⟨k1,fun q o ho=>k2 q o (List.getElem?_eq_some_iff.1 ho).1 ho⟩
 have hs0:SimE (jq F X H1) X (((puts (σ.withH H1) (msk mN 0 l) us).withH H0).als (ly l mN 0 l)) tf0:=by
  refine tB (hsa.other (by rw[hf1,hs.size];exact(pu (msk mN 0 l) us (σ.withH H1)).symm) hsa.fb (fun t u hu=> ?_) (fun k c hk=>⟨hk,(hsa.box k c hk).nF⟩) (vk (msk mN 0 l) us (σ.withH H1) he) (fun r=>r) (fun r sz lw ho=>.inr ?_) (fun _ _ _ _ _ _ _ _ hne _ _ _ _=>hne)) fun p hp=> ?_
  ·rcases hfull t u hu with ⟨q,o,k1,k2,k3,k4⟩| ⟨k1,k2⟩
   ·rw[hf3 q o t k1 k2 k3];exact(relV q o u k1 k4 k2).1
   ·rw[hf2 t k2];exact hs.slot t u k1
  ·have fin:∀r,(σ.withH H0).own r=some (sz,lw)→rootV tf0 X.w r=rootV tm X.w r→(σ.withH H0).own r=some (sz,lw)∧rootV tf0 X.w r=rootV tm X.w r∧∀a n c,rootV tf0 X.w r=some (.slice (some a) n c)→¬jq F X H1 a.block:=fun r h1 h2=>⟨h1,h2,fun a n c hr=>by
    obtain⟨x,hx,hok⟩:=hsa.own r sz lw h1
    rw[h2,hx] at hr
    cases hr
    exact(nJ hok).2.1⟩
   cases r with
   |s t=>
    obtain⟨k0⟩:look (puts (σ.withH H1) (msk mN 0 l) us).t t=some (.sl true sz lw)∧True:=⟨mK ho,trivial⟩
    rcases hfull t _ k0 with ⟨q,o,k1,k2,k3,k4⟩| ⟨k1,k2⟩
    ·have:=(relV q o _ k1 k4 k2).2
     cases this
    ·exact fin (.s t) (by simp only[AS.own,AS.withH,k1];rfl) (by simp only[rootV,hf2 t k2])
   |c k o=>exact fin (.c k o) ho rfl
  ·obtain⟨i,o,k1,k2,k3,k4,k5⟩:=sW l 0 p hp
   rw[Nat.zero_add] at k2
   have hil:=(List.getElem?_eq_some_iff.1 k1).1
   have hui:us[i]? =some us[i] :=List.getElem?_eq_getElem (by omega)
   obtain⟨d,j1,_,_,_,_,j6⟩:=hstep i o us[i] k1 hui k2
   have j7:=j6 p.1 k3
   rw[hf3 i o p.1 k1 k2 k3,hf2 p.2 k5,hV i o us[i] k1 hui]
   unfold ve
   simp only[k3]
   cases hld:sL ld p.1 with
   |some p'=>
    rw[hld] at j7
    exact absurd k4 (j7.2.2.1 p.2)
   |none=>
    have hr:=hmv i o us[i] p.2 k1 hui k2 k4 k5
    generalize us[i] =u at hr ⊢
    by_cases hx:∃x,u=.v x
    ·obtain⟨x,rfl⟩:=hx
     exact(bF hr).symm
    ·rw[k4]
     cases u<;> first|rfl|exact absurd ⟨_,rfl⟩ hx
 have back:∀X1 tf σ1,(∀ (q:Nat) o t,l[q]? =some o→mN q=true→o.dst=some t→tf.getD t undef=V q)→SimE (jq F X H1) X1 σ1 tf→Ext (jq F X H1) X X1→SimE F X1 ((σ1.withH (σ1.h++H1)).alc ld) tf:=by
  intro X1 tf σ1 hv h1 hx
  refine GJ (hs.backO (fun k cs hk=>(h1look k cs hk).2) h1 (fun b hb=>hb) hx) fun p hp=> ?_
  obtain⟨q,o,j1,j2,j3⟩:=hldb p hp
  have hql:=(List.getElem?_eq_some_iff.1 j1).1
  have huq:us[q]? =some us[q] :=List.getElem?_eq_getElem (by omega)
  obtain⟨d,k1,_,_,_,_,k6⟩:=hstep q o us[q] j1 huq j2
  have k7:=k6 p.1 j3
  rw[u9 hldn hp] at k7
  obtain⟨_,⟨cs,u0,g1,g2,g3,_⟩,_,_⟩:=k7
  rw[kz] at g1
  obtain⟨v,g4,_⟩:=rF (hbox1 _ _ g1) g2 g3
  rw[hv q o p.1 j1 j2 j3,hV q o us[q] j1 huq,cN (hx.frame p.2.1 (.inr (.inl ⟨cs,g1⟩))).1,g4]
  unfold ve
  simp only[j3,u9 hldn hp,g4,Option.getD_some]
 refine⟨⟨hf1,hf3,Ext.refl _ _,.inl ⟨Nat.zero_le _,_,hs0,Ext.refl _ _,by rw[List.drop_zero];exact hK⟩⟩,?_,?_,?_⟩
 ·rintro i o j X1 a1 tf ho hmi hj ⟨g0,g1,gx,hJ⟩ hsee
  have hil:=(List.getElem?_eq_some_iff.1 ho).1
  have hui:us[i]? =some us[i] :=List.getElem?_eq_getElem (by omega)
  obtain⟨d,k1,k2,k3,k4,k5,k6⟩:=hstep i o us[i] ho hui hmi
  have hgb:(∀b n,X1.g b=some n→b < X1.w.heap.size)∧(∀b,F b→b < X1.w.heap.size):=by
   rcases hJ with ⟨_,σ1,q1,_⟩| ⟨_,σ1,q1,_⟩
   ·exact⟨q1.gb,fun b hb=>q1.fb b (.inl hb)⟩
   ·exact⟨q1.gb,q1.fb⟩
  have hph:mB i=true→Ext (jq F X H1) X X1:=fun hb=>by
   simp only[hb] at hj
   rcases hJ with ⟨_,σ1,_,q2,_⟩| ⟨q0,_⟩
   ·exact q2
   ·omega
  have hR:SimR F X1 (bst mB i (puts (σ.withH H1) ((msk mN 0 l).take i) (us.take i))) o.op a1.tmps:=by
   refine⟨hgb.1,hgb.2,fun t u ht hu=> ?_,fun k c hk=> ?_⟩
   ·have hts:t∈cO l o:=by simp only[cO];exact List.mem_append_left _ (hZ ht)
    rw[G8] at hu
    rw[hsee t hts]
    rcases hputs i t u hu with ⟨q,oq,_,j1,j2,j3,j4⟩| ⟨j1,j2⟩
    ·rw[hf3 q oq t j1 j2 j3]
     exact(relV q oq u j1 j4 j2).1.mono gx.pres
    ·rw[hf2 t fun q o' hq hmq hod=>j2 q o' (hB.settled i o q o' t ho hq hmq hod hts).1 hq hmq hod]
     exact(hs.slot t u j1).mono gx.pres
   ·obtain⟨hb,hk⟩:=GQ hk
    rw[kz] at hk
    have hbx:=hbox1 k c hk
    have hE:=hph hb
    exact hbx.keep ⟨(hE.frame k (.inr (.inl ⟨c,hk⟩))).1,(hE.frame k (.inr (.inl ⟨c,hk⟩))).2,hbx.nF⟩ hE.pres
  have k7:=k6 d k1
  have hVi:=hV i o us[i] ho hui
  unfold ve at hVi
  simp only[k1] at hVi
  cases hld:sL ld d with
  |some p=>
   rw[hld] at k7
   simp only[hld] at hVi
   obtain⟨hb,⟨cs,u0,e1,e2,e3,_⟩,_,hrun⟩:=k7
   have hR2:SimR F X1 (puts (σ.withH H1) ((msk mN 0 l).take i) (us.take i)) o.op a1.tmps:=by
    have:bst mB i (puts (σ.withH H1) ((msk mN 0 l).take i) (us.take i))=puts (σ.withH H1) ((msk mN 0 l).take i) (us.take i):=by unfold bst;rw[hb]
    rw[this] at hR;exact hR
   obtain⟨v,v1,v2⟩:=hrun F X1 a1 hR2
   rw[kz] at e1
   have hc:X.w.cell? ⟨p.2.1,p.2.2,none⟩=some v:=by
    rw[← cN ((hph hb).frame p.2.1 (.inr (.inl ⟨cs,e1⟩))).1];exact v1
   unfold jN
   rw[v2]
   exact⟨by rw[hVi,hc];rfl,X1,rfl,⟨g0,g1,gx,hJ⟩,Ext.refl _ _⟩
  |none=>
   rw[hld] at k7
   simp only[hld] at hVi
   rcases k7 with ⟨x,hx⟩| ⟨s,hop,hns⟩
   ·refine(k4 F X1 a1 hR).mono fun y w' ⟨X2,q1,q2,q3,q4,_⟩=>⟨?_,X2,q1,⟨g0,g1,gx.trans (q2.ext hgb.1 hgb.2),?_⟩,q2.ext hgb.1 hgb.2⟩
    ·rw[hx] at q4 hVi
     rw[hVi]
     exact bF q4
    ·rcases hJ with ⟨e1,σ1,e2,e3,e4⟩| ⟨e1,σ1,e2,e3⟩
     ·exact .inl ⟨e1,σ1,e2.new q2 q3,e3.trans (q2.ext e2.gb e2.fb),e4⟩
     ·exact .inr ⟨e1,σ1,e2.new q2 q3,e3⟩
   ·have hex:=(tN hop k4 hR).2
    unfold jN
    rw[hex]
    refine⟨?_,X1,rfl,⟨g0,g1,gx,hJ⟩,Ext.refl _ _⟩
    rw[hsee s (by simp only[cO,hop];exact List.mem_append_left _ (by simp[Op.operands,sG])),hf2 s hns,hVi]
    have hr:=hmv i o us[i] s ho hui hmi hop hns
    generalize us[i] =u at hr ⊢
    by_cases hx:∃x,u=.v x
    ·obtain⟨x,rfl⟩:=hx
     exact bF hr
    ·rw[hop]
     cases u<;> first|rfl|exact absurd ⟨_,rfl⟩ hx
 ·rintro j c o X1 tf hcj hlo ⟨g0,g1,gx,hJ⟩
  have hcm:mN c=false:=(hB.call c (List.getElem?_eq_some_iff.1 hlo).1).2 (List.mem_of_getElem? hcj)
  have hsz:tm.size=σ.n:=hs.size
  have hput:∀x,(({ tmps:=tf,defers:=D }:Act).put o.dst x).tmps.size=tm.size∧∀ (q:Nat) oq t,l[q]? =some oq→mN q=true→oq.dst=some t→(({ tmps:=tf,defers:=D }:Act).put o.dst x).tmps.getD t undef=V q:=fun x=>by
   refine⟨by rw[lB];exact g0,fun q oq t h1 h2 h3=> ?_⟩
   rw[gt,if_neg]
   ·exact g1 q oq t h1 h2 h3
   ·rintro⟨e,_⟩
    have:=hB.ndst q c oq o t h1 hlo h2 h3 e
    subst this
    rw[hcm] at h2;cases h2
  have two:∀ (σ1:AS) (rest:List Nat),cs1.length≤j→rest=cs2.drop (j+1 - cs1.length)→SimE F X1 σ1 tf→pK P σ.n (fun v H2=>Stk P Q ks (.panic [{ v:=v,recovered:=false }]) ⟨σ.n,[],H2,[]⟩) (fun σ3=>aY P Q ks σ3) (o::rest.filterMap fun i=>l[i]?) σ1→_:=fun σ1 rest hjl hrest h1 h2=>
   iW.mono (R':=fun x w'=>∃X':GW,X'.w=w'∧(((({ tmps:=tf,defers:=D }:Act).put o.dst x).tmps.size=tm.size∧(∀ (q:Nat) oq t,l[q]? =some oq→mN q=true→oq.dst=some t→(({ tmps:=tf,defers:=D }:Act).put o.dst x).tmps.getD t undef=V q)∧Ext F X X'∧∃σ2,SimE F X' σ2 (({ tmps:=tf,defers:=D }:Act).put o.dst x).tmps∧pK P σ.n (fun v H2=>Stk P Q ks (.panic [{ v:=v,recovered:=false }]) ⟨σ.n,[],H2,[]⟩) (fun σ3=>aY P Q ks σ3) ((cs2.drop (j+1 - cs1.length)).filterMap fun i=>l[i]?) σ2))∧Ext F X1 X') (RP':=fun v w'=>∃ (X':GW) (H2:List (Nat × List AV)) (tm2:Array Value),X'.w=w'∧Stk P Q ks (.panic [{ v:=v,recovered:=false }]) ⟨tm.size,[],H2,[]⟩∧SimE F X' ⟨tm.size,[],H2,[]⟩ tm2∧Ext F X1 X') (h2.2 F X1 { tmps:=tf,defers:=D } h1) (fun x w' ⟨X',σ',e1,e2,e3,e4⟩=>⟨X',e1,⟨(hput x).1,(hput x).2,gx.trans e4,σ',e3,by rw[← hrest];exact e2⟩,e4⟩) (fun v w' ⟨X',H2,e1,e2,e3,e4⟩=>⟨X',H2,tf,e1,by rw[hsz];exact e2,by rw[hsz,← h2.1];exact e3,e4⟩)
  rcases hJ with ⟨e1,σ1,e2,e3,e4⟩| ⟨e1,σ1,e2,e3⟩
  ·by_cases hjl:j < cs1.length
   ·have hc1:cs1[j]? =some c:=by rw[List.getElem?_append_left hjl] at hcj;exact hcj
    have hdr:cs1.drop j=c::cs1.drop (j+1):=by
     rw[List.drop_eq_getElem_cons hjl]
     have:=List.getElem?_eq_getElem hjl
     rw[hc1] at this
     rw[Option.some.inj this]
    rw[hdr,List.filterMap_cons,hlo] at e4
    refine(e4.2 _ X1 { tmps:=tf,defers:=D } e2).mono (fun x w' ⟨X',σ',f1,f2,f3,f4⟩=>⟨X',f1,⟨(hput x).1,(hput x).2,gx.trans (f4.mono fun b hb=>.inl hb),.inl ⟨hjl,σ',f3,e3.trans f4,f2⟩⟩,f4.mono fun b hb=>.inl hb⟩) (fun v w' ⟨X',H2,f1,⟨H3,f5,f2⟩,f3,f4⟩=>⟨X',H3,tf,f1,by rw[hsz];exact f2,?_,f4.mono fun b hb=>.inl hb⟩)
    have:=hs.backO (fun k cs hk=>(h1look k cs hk).2) f3 (fun b hb=>hb) (e3.trans f4)
    rw[hsz,← e4.1]
    exact SimE.sub this rfl (fun _ _ h=>by cases h) f5 (fun p hp=>by cases hp)
   ·have hje:j=cs1.length:=by omega
    have hc2:cs2[0]? =some c:=by
     rw[List.getElem?_append_right (by omega),hje,Nat.sub_self] at hcj;exact hcj
    cases hcs2:cs2 with
    |nil=>rw[hcs2] at hc2;cases hc2
    |cons c' r=>
     rw[hcs2] at hc2
     simp at hc2
     subst hc2
     rw[hje,List.drop_length] at e4
     have e5:pK P σ.n (fun v H2=>Stk P Q ks (.panic [{ v:=v,recovered:=false }]) ⟨σ.n,[],H2,[]⟩) (fun σ3=>aY P Q ks σ3) (cs2.filterMap fun i=>l[i]?) ((σ1.withH (σ1.h++H1)).alc ld):=e4
     rw[hcs2,List.filterMap_cons,hlo] at e5
     refine(two _ r (by omega) (by rw[hcs2,hje];simp) (back X1 tf σ1 g1 e2 e3) e5).mono (fun x w' ⟨X',f1,⟨f2,f3,f4,σ2,f5,f6⟩,f7⟩=>⟨X',f1,⟨f2,f3,f4,.inr ⟨by omega,σ2,f5,by rw[← hcs2];exact f6⟩⟩,f7⟩) (fun v w' h=>h)
  ·have hc2:cs2[j - cs1.length]? =some c:=by
    rw[List.getElem?_append_right (by omega)] at hcj;exact hcj
   have hlt:=(List.getElem?_eq_some_iff.1 hc2).1
   have hdr:cs2.drop (j - cs1.length)=c::cs2.drop (j+1 - cs1.length):=by
    rw[List.drop_eq_getElem_cons hlt,show j - cs1.length+1=j+1 - cs1.length by omega]
    have:=List.getElem?_eq_getElem hlt
    rw[hc2] at this
    rw[Option.some.inj this]
   rw[hdr,List.filterMap_cons,hlo] at e3
   exact(two σ1 _ (by omega) rfl e2 e3).mono (fun x w' ⟨X',f1,⟨f2,f3,f4,σ2,f5,f6⟩,f7⟩=>⟨X',f1,⟨f2,f3,f4,.inr ⟨by omega,σ2,f5,f6⟩⟩,f7⟩) (fun v w' h=>h)
 ·rintro X1 tf ⟨g0,g1,gx,⟨g2,σ1,g3,g4,g5⟩| ⟨g2,σ1,g3,g4⟩⟩
  ·have e2:cs2=[] :=by
    rw[List.length_append] at g2
    exact List.length_eq_zero_iff.1 (by omega)
   subst e2
   rw[List.append_nil,List.drop_length] at g5
   exact⟨_,back X1 tf σ1 g1 g3 g4,g5⟩
  ·rw[List.length_append,List.drop_eq_nil_of_le (by omega)] at g4
   exact⟨σ1,g3,g4⟩
end
section
variable {P:Program} {Q:Exit→AS→Prop} {ks:List It} {T:Tys P} {σ:AS} {R:AS→Prop} {RP:Value→List (Nat × List AV)→Prop} {post:AOut→List (Nat × List AV)→Prop} {us:List AV} {ρs:List (Option Root)} {xs:Array Operand} {ats:Array TypeId} {f:FuncId} {d:Nat} {t ty:TypeId} {x:Operand} {pos:String} {af:Array Edge} {g:Option (Nat × Bool)}
theorem FY{R0:Value→World→Prop}{RP0:Value→World→Prop}{r:Result Next}(h:qC P R0 r):iW P R0 RP0 r:=by
 cases r with
 |halt z w=>exact h.elim
 |ok nx w=>
  cases nx<;> simp only[qC] at h<;> simp only[iW]
  case value x=>exact h
  case skip=>exact h
  case enter f args=>
   refine h.mono fun e w' he=> ?_
   cases e with
   |returned v=>exact he
   |panicked ch=>exact he.elim
   |outgrown=>exact he.elim
theorem zd{o:Oper}(h:cy P o σ R):tT P o σ R RP:=fun F X a hs=>FY (h F X a hs)
theorem IU{b o:Nat}{cs:List AV}{u:AV}{dsc:TypeDesc}{dd:Option Tmp}(hx:opV σ x=some (.v (.pointer (some ⟨b,o,none⟩))))(hb:look σ.h b=some cs)(hu:cs[o]? =some u)(h0:look T.ty t=some dsc)(h1:lf dsc=true)(hm:fx cs=false):QQ P ⟨dd,.load t x,ty,pos,af,g⟩ σ b o u.rd:=by
 refine⟨⟨cs,u,hb,hm,hu,rfl⟩,fun s e=>(by cases e),fun F X a hs=> ?_⟩
 have e1:=aL hs (by simp[Op.operands]) hx
 obtain⟨v,hc,_⟩:=rF (hs.box b cs hb) hm hu
 exact⟨v,hc,by simp only[execOp,e1];exact aW (oQ (T.tyOk _ _ h0) h1 hc)⟩
theorem y8{Hp Hr:List (Nat × List AV)}(hc:ai P f us Hp post)(ha:PArgs σ xs.toList us ρs)(h1:mz ρs=true)(hroot:∀k o,some (Root.c k o)∈ρs→look Hp k=none)(hHp:∀k cs,look Hp k=some cs→look σ.h k=some cs)(hHr:∀k cs,look Hr k=some cs→look (dn ρs σ).h k=some cs∧look Hp k=none)(hd:Nat.ble (d+1) σ.n=true)
  (hR:∀u H',post (.ret u) H'→(∀k cs,look H' k=some cs→look Hr k=none)→R (AS.nf ((dT σ ρs Hr H').put d u))) (hP:∀v H',post (.pan v) H'→∃H2,(∀k cs,look H2 k=some cs→look (dT σ ρs Hr H').h k=some cs)∧RP v H2) (hn:∀H',(dT σ ρs Hr H').n=σ.n):tT P ⟨some d,.call { callee:=.value (.func f),args:=xs,argTypes:=ats },ty,pos,af,g⟩ σ R RP:=by
 intro F X a hs
 have hlen:=ha.len
 rw[Conc.execOp_call_func rfl,lh hc.1]
 simp only[iW]
 refine(pq (vs:=xs.map a.eval) hs hc (by simp[hlen.1]) (fun i u hu=> ?_) (fun i j r hi hj=>ij h1 i j r r hi hj) hroot hHp hHr (ba hd)).mono fun e w' ⟨X',out,H',p1,p2,p3,p4,p5,p6⟩=> ?_
 ·obtain⟨x,ρ,hx,hρ,hp⟩:=ha.get i u hu
  have hx':xs[i]? =some x:=by simpa using hx
  have:(xs.map a.eval).getD i undef=a.eval x:=by simp[hx']
  rw[this];exact⟨ρ,hρ,hp.val hs⟩
 ·cases out with
  |ret u=>obtain⟨v,rfl,hv⟩:=p5;exact⟨X',_,p1,hR u H' p2 p6,hv,p3⟩
  |pan x=>
   subst p5
   obtain⟨H2,k1,k2⟩:=hP x H' p2
   have h9:SimE F X' ⟨(dT σ ρs Hr H').n,[],H2,[]⟩ a.tmps:=p4.sub rfl (fun _ _ h=>by cases h) k1 (fun p hp=>by cases hp)
   rw[hn] at h9
   exact⟨x,rfl,X',H2,p1,k2,h9,p3⟩
theorem I1{Hp Hr:List (Nat × List AV)}(hc:ai P f us Hp post)(ha:PArgs σ xs.toList us ρs)(h1:mz ρs=true)(hroot:∀k o,some (Root.c k o)∈ρs→look Hp k=none)(hHp:∀k cs,look Hp k=some cs→look σ.h k=some cs)(hHr:∀k cs,look Hr k=some cs→look (dn ρs σ).h k=some cs∧look Hp k=none)(hd:Nat.ble (d+1) σ.n=true)
  (hR:∀u H',post (.ret u) H'→R (AS.nf ((dT σ ρs Hr H').put d u))) (hP:∀v H',post (.pan v) H'→∃H2,(∀k cs,look H2 k=some cs→look (dT σ ρs Hr H').h k=some cs)∧RP v H2) (hn:∀H',(dT σ ρs Hr H').n=σ.n):tT P ⟨some d,.call { callee:=.value (.func f),args:=xs,argTypes:=ats },ty,pos,af,g⟩ σ R RP:=
 y8 hc ha h1 hroot hHp hHr hd (fun u H' hp _=>hR u H' hp) hP hn
end
def yu:List Nat→Nat→Bool
 | [],_=>false
 |a::r,i=>match Nat.beq i a with|true=>true|false=>yu r i
def sb(l:List Oper)(done:List Nat):List Nat:=(List.range l.length).filter fun i=> !yu done i && match l[i]? with
 |some o=>(bM o).all (yu done)
 |none=>false
def Gj(P:Program)(Q:Exit→AS→Prop)(ks:List It)(l:List Oper)(n0:Nat):Nat→List Nat→AS→Prop
 |0,done,σ=>sb l done=[] ∧aY P Q ks σ
 |n+1,done,σ=>(sb l done=[] →aY P Q ks σ)∧∀i∈sb l done,∀o,l[i]? =some o→σ.n=n0∧o.guard=none∧tT P o σ (Gj P Q ks l n0 n (i::done)) fun v H2=>Stk P Q ks (.panic [{ v:=v,recovered:=false }]) ⟨n0,[],H2,[]⟩
theorem i3{i:Nat}:∀ {l:List Nat},yu l i=true ↔ i∈l
 | [] =>⟨fun h=>(by cases h),fun h=>(by cases h)⟩
 |a::r=>by
  unfold yu
  rw[List.mem_cons]
  cases e:Nat.beq i a with
  |true=>exact⟨fun _=>.inl (Nat.eq_of_beq_eq_true e),fun _=>rfl⟩
  |false=>
   refine⟨fun h=>.inr (i3.1 h),fun h=> ?_⟩
   rcases h with rfl|h
   ·rw[Nat.beq_refl] at e;cases e
   ·exact i3.2 h
section
variable {P:Program} {Q:Exit→AS→Prop} {ks:List It} {σ:AS} {l:List Oper}
theorem B5{done:List Nat}{i:Nat}:i∈sb l done ↔ i ∉ done∧∃o,l[i]? =some o∧∀d∈bM o,d∈done:=by
 unfold sb
 rw[List.mem_filter,List.mem_range]
 constructor
 ·rintro⟨h1,h2⟩
  rw[Bool.and_eq_true] at h2
  have ho:l[i]? =some l[i] :=List.getElem?_eq_getElem h1
  refine⟨fun hc=> ?_,l[i],ho,fun d hd=> ?_⟩
  ·rw[i3.2 hc] at h2;exact absurd h2.1 (by simp)
  ·have h3:=h2.2
   rw[ho] at h3
   exact i3.1 (List.all_eq_true.1 h3 d hd)
 ·rintro⟨h1,o,ho,h2⟩
  refine⟨(List.getElem?_eq_some_iff.1 ho).1,?_⟩
  rw[Bool.and_eq_true]
  refine⟨?_,?_⟩
  ·cases e:yu done i with
   |false=>rfl
   |true=>exact absurd (i3.1 e) h1
  ·rw[ho]
   exact List.all_eq_true.2 fun d hd=>i3.2 (h2 d hd)
theorem R2{id:Nat}(hm:P.follows .mixedOrders=true)(h:Gj P Q ks l σ.n l.length [] σ):aY P Q (.c (.region id l.toArray true)::ks) σ:=by
 intro F X a hs D hdf
 have hXd:New X ⟨X.w.drew,X.g⟩:=⟨rfl,rfl,rfl,Nat.le_refl _,fun _ _=>⟨rfl,rfl⟩⟩
 refine wp_region_any hm ?_
 have key:∀ (fuel:Nat) (done:List Nat) (listed:Array Bool) (X1:GW) (a1:Act) (σ1:AS),listed.size=l.length→(∀j,j < l.length→(listed.getD j false=true ↔ j∈done))→(∀d∈done,d < l.length)→a1.defers=D→a1.tmps.size=σ.n→Ext F X X1→SimE F X1 σ1 a1.tmps→Gj P Q ks l σ.n fuel done σ1→wpAny P .any l.toArray (da F X D (Stk P Q ks)) fuel listed a1 X1.w:=by
  intro fuel
  induction fuel with
  |zero=>
   intro done listed X1 a1 σ1 hsz hl hdn hd1 hn1 hx1 hs1 hA
   have hr:∀i,i∈Region.ready .any l.toArray listed→i∈sb l done:=fun i hi=>by
    obtain⟨h1,o,h2,h3⟩:=mem_ready.1 hi
    have h2':l[i]? =some o:=by simpa using h2
    have hil:=(List.getElem?_eq_some_iff.1 h2').1
    have hlf:listed.getD i false=false:=by rw[← fk (by omega)];exact h1
    refine B5.2 ⟨fun hc=>(by rw[(hl i hil).2 hc] at hlf;cases hlf),o,h2',fun d hd=> ?_⟩
    obtain⟨e,k1,k2,k3⟩:=ca.1 hd
    have:=h3 e k1 k2
    rw[k3] at this
    have hdl:d < l.length:=by
     apply Classical.byContradiction
     intro hc
     rw[Array.getD_eq_getD_getElem?,Array.getElem?_eq_none (by omega)] at this;cases this
    exact(hl d hdl).1 this
   refine⟨List.eq_nil_iff_forall_not_mem.2 fun i hi=> ?_,hd1,X1,σ1,rfl,hA.2,hs1,hx1⟩
   have:=hr i hi
   rw[hA.1] at this;cases this
  |succ fuel ih=>
   intro done listed X1 a1 σ1 hsz hl hdn hd1 hn1 hx1 hs1 hA
   have hr:∀i,i∈Region.ready .any l.toArray listed ↔ i∈sb l done:=fun i=>by
    rw[mem_ready,B5]
    constructor
    ·rintro⟨h1,o,h2,h3⟩
     have h2':l[i]? =some o:=by simpa using h2
     have hil:=(List.getElem?_eq_some_iff.1 h2').1
     have hlf:listed.getD i false=false:=by rw[← fk (by omega)];exact h1
     refine⟨fun hc=>(by rw[(hl i hil).2 hc] at hlf;cases hlf),o,h2',fun d hd=> ?_⟩
     obtain⟨e,k1,k2,k3⟩:=ca.1 hd
     have:=h3 e k1 k2
     rw[k3] at this
     have hdl:d < l.length:=by
      apply Classical.byContradiction
      intro hc
      rw[Array.getD_eq_getD_getElem?,Array.getElem?_eq_none (by omega)] at this;cases this
     exact(hl d hdl).1 this
    ·rintro⟨h1,o,h2,h3⟩
     have hil:=(List.getElem?_eq_some_iff.1 h2).1
     refine⟨?_,o,by simpa using h2,fun e he hb=> ?_⟩
     ·rw[fk (by omega)]
      cases hc:listed.getD i false with
      |false=>rfl
      |true=>exact absurd ((hl i hil).1 hc) h1
     ·have hd:=h3 e.on (ca.2 ⟨e,he,hb,rfl⟩)
      exact(hl _ (hdn _ hd)).2 hd
   refine⟨fun hnil=>⟨hd1,X1,σ1,rfl,hA.1 (List.eq_nil_iff_forall_not_mem.2 fun i hi=>by rw[← hr i,hnil] at hi;cases hi),hs1,hx1⟩,fun i hi=> ?_⟩
   have hi':=(hr i).1 hi
   obtain⟨h1,o,h2,h3⟩:=B5.1 hi'
   have hil:=(List.getElem?_eq_some_iff.1 h2).1
   obtain⟨hn,hg,hE⟩:=hA.2 i hi' o h2
   have hrun:=hE F X1 a1 hs1
   have fin2:∀ (x:Value) (w':World),(∃ (X':GW) (σ':AS),X'.w=w'∧Gj P Q ks l σ.n fuel (i::done) σ'∧SimE F X' σ' (a1.put o.dst x).tmps∧Ext F X1 X')→wpAny P .any l.toArray (da F X D (Stk P Q ks)) fuel (listed.setIfInBounds i true) (a1.put o.dst x) w':=by
    rintro x w' ⟨X',σ',rfl,k1,k2,k3⟩
    refine ih (i::done) (listed.setIfInBounds i true) X' (a1.put o.dst x) σ' (by simp[hsz]) (fun j hj=> ?_) (fun d hd=>(List.mem_cons.1 hd).elim (fun e=>e ▸ hil) (hdn d)) (by rw[eM];exact hd1) (by rw[lB];exact hn1) (hx1.trans k3) k2 k1
    rw[bf false (by omega),List.mem_cons]
    by_cases e:j=i
    ·subst e;simp
    ·rw[if_neg e,hl j hj];simp[e]
   have pan:∀ (v:Value) (w':World),(∃ (X':GW) (H2:List (Nat × List AV)),X'.w=w'∧Stk P Q ks (.panic [{ v:=v,recovered:=false }]) ⟨σ.n,[],H2,[]⟩∧SimE F X' ⟨σ1.n,[],H2,[]⟩ a1.tmps∧Ext F X1 X')→da F X D (Stk P Q ks) (.panic [{ v:=v,recovered:=false }]) a1 w':=by
    rintro v w' ⟨X',H2,rfl,k1,k2,k3⟩
    rw[hn] at k2
    exact⟨hd1,X',_,rfl,k1,k2,hx1.trans k3⟩
   have ho2:l.toArray[i]? =some o:=by simpa using h2
   unfold wpOp
   simp only[ho2]
   have hw:Region.wanted o (yielded l.toArray a1.tmps)=true:=by unfold Region.wanted;rw[hg]
   rw[if_pos hw]
   left
   unfold Oper.wp
   generalize (execOp a1.eval o).run P X1.w=r at hrun ⊢
   cases r with
   |halt z w=>
    cases z<;> simp only[iW] at hrun
    exact pan _ _ hrun
   |ok nx w=>
    cases nx<;> simp only[iW] at hrun<;> simp only[Oper.upon]
    case value x=>exact fin2 _ _ hrun
    case skip=>exact fin2 _ _ hrun
    case enter f args=>
     refine hrun.mono fun e w' he=> ?_
     cases e with
     |returned v=>exact fin2 _ _ he
     |panicked ch=>obtain⟨v,rfl,he⟩:=he;exact pan _ _ he
     |outgrown=>exact he.elim
 have hno:∀i,(Array.replicate l.toArray.size false).getD i false=false:=fun i=>by
  simp only[Array.getD_eq_getD_getElem?,Array.getElem?_replicate]
  split<;> simp
 have:=key l.toArray.size [] (Array.replicate l.toArray.size false) ⟨X.w.drew,X.g⟩ a σ (by simp) (fun j _=>by rw[hno];simp) (fun d hd=>by cases hd) hdf hs.size (hXd.ext hs.gb hs.fb) (hs.new hXd hs.gb) (by simpa using h)
 exact this
end
end Go.Proofs.YtobacplonkjigaaDoor
