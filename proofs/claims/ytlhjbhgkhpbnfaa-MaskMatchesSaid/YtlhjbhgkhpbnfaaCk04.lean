import Derived.Test.YtlhjbhgkhpbnfaaCk03
set_option linter.unusedSimpArgs false
set_option linter.unusedVariables false
set_option linter.defProp false
namespace Go.Proofs.Ytlhjbhgkhpbnfaa
open Go.RowKit P
def ie{α:Type}(by_:Nat)(l m:List α):Option (List α):=if(l.length+m.length) * by_<=140737488355328 then some (l++m) else none
def Vr{α:Type}(by_:Nat)(l m:List α):Option (List α):=match m with
 | [] =>none
 |_::_=>ie by_ l m
def He{T:Nat->Type}(t:Ty):Option (TV T)->Option (List (Den T t))
 |some (.a (.d (.sl t') l))=>j9 (.sl t') (.sl t) l
 |some (.a (.own t' l))=>j9 (.sl t') (.sl t) l
 |some (.a (.d .str s))=>j9 (.sl .byte) (.sl t) s
 |some (.a (.raw (.slice none 0 0)))=>some []
 |_=>none
section
variable {E:Env}
def cbs{T:Nat->Type}:List (TA T)->Option (List Nat)
 | [] =>some []
 |.box i 0::r=>match cbs r with
  |some l=>some (i::l)
  |none=>none
 |_=>none
def Ih:∀ {l:List (TA E.T)} {is:List Nat},cbs l=some is->l=is.map fun i=>.box i 0
 | [],is,h=>by cases h;rfl
 |x::r,is,h=>by
  unfold cbs at h;split at h
  ·rename_i e;cases e
  ·rename_i i r' e;cases e;split at h
   ·rename_i l hl;cases h;rw[Ih hl];rfl
   ·cases h
  ·cases h
end
def TV.cs1{T:Nat->Type}:TV T->Option (List (TA T))
 |.a x=>match x.simple with
  |true=>some [x.rd]
  |false=>none
 |.ag l=>match l.all (fun x=>x.simple && x.plain) with
  |true=>some l
  |false=>none
 |.fn f l=>match cbs l with
  |some is=>some [.fnb f is]
  |none=>none
 |_=>none
def UM{T:Nat->Type}(t:Ty):Option (TV T)->Option (Den T t)
 |some (.a (.d t' x))=>j9 t' t x
 |some (.a .tt)=>j9 .bool t (true:Bool)
 |some (.a .ff)=>j9 .bool t (false:Bool)
 |_=>none
def IM{E:Env}{I:Rn}{O:TS E.T}{t:Ty}{y:Operand}{x:Den E.T t}(h:UM t (opT O y)=some x):∃v,opV (O.to E.toEnc I) y=some v/\v.rd=one E.toEnc t x:=by
 cases hy:opT O y with
 |none=>rw[hy] at h;cases h
 |some u=>
  rw[hy] at h;refine⟨u.to E.toEnc I,aF hy,?_⟩;unfold UM at h;split at h
  ·rename_i t' x' e;cases e;obtain⟨e,rfl⟩:=ev h;cases e;exact sX _ _ _
  ·rename_i e;cases e;obtain⟨e,rfl⟩:=ev h;cases e;rfl
  ·rename_i e;cases e;obtain⟨e,rfl⟩:=ev h;cases e;rfl
  ·cases h
def wO:List Nat->Nat->Bool
 | [],_=>false
 |k::r,i=>match Nat.beq i k with|true=>true|false=>wO r i
def byA:TypeDesc->Option Ty
 |.int .u8=>some .byte
 |d=>MT d
def O9{T:Nat->Type}(t:Ty)(v:Value):Option (Den T t):=match t with
 |.byte=>match v with
  |.int .u8 n=>if((UInt8.ofNat n.toNat).toNat:Int)=n then some (UInt8.ofNat n.toNat) else none
  |_=>none
 |.int k=>sD (.int k) v
 |.bool=>sD .bool v
 |.str=>sD .str v
 |_=>none
def zA{T:Nat->Type}(t:Ty):List Value->Option (List (Den T t))
 | [] =>some []
 |v::vs=>match O9 t v,zA t vs with
  |some z,some zs=>some (z::zs)
  |_,_=>none
def Ny{T:Nat->Type}:TV T->Bool
 |.a x=>x.plain && x.simple
 |_=>false
def ja{α:Type}(l:List α)(o:Nat)(v:α):Option (List α):=if o < l.length then some (l.set o v) else none
def YD{α:Type}(l:List α)(n c:Nat)(m:List α):Option (List α):=if n+m.length<=c/\n+m.length<=l.length then some (l.take n++m++l.drop (n+m.length)) else none
def o9(by_:Nat)(n c:Int):Option (Nat × Nat):=if 0<=n/\n<=c/\(by_:Int) * c<=281474976710656/\c<=9223372036854775807 then some (n.toNat,c.toNat) else none
def uQ:TypeDesc->Bool
 |.string=>true
 |.slice _=>true
 |_=>false
def lg{α:Type}(by_ n:Nat)(l m:List α):Option (List α):=if n=l.length/\0 < m.length/\(l.length+m.length) * by_<=140737488355328 then some (l++m) else none
def HC{α:Type}(n:Nat)(l:List α)(j:Int):Option (List α):=if n=l.length/\0<=j/\j<=n then some (l.take j.toNat) else none
def TS.drpB{T:Nat->Type}(O:TS T)(k:Nat):TS T:={ n:=O.n,t:=O.t,h:=dropHH [k] O.h,e:=kn O.e }
def TS.setv{T:Nat->Type}(O:TS T)(k:Nat)(t:Ty)(l:List (Den T t)):TS T:={ n:=O.n,t:=O.t,h:=(k,.vec k t l)::O.h,e:=kn O.e }
section
variable {P:Program} (Y:Tys P) (E:Env) (G:Gam E)
def nR(O:TS E.T)(d:Nat)(op:Op)(ty:TypeId):Tree (TS E.T):=
 match evP Y E G O op ty with
 |.one u=>.leaf (O.put d u)
 |.opt o u=>.bnd o fun z=>.leaf (O.put d (u z))
 |.bad=>.fail
def VA(O:TS E.T)(d:Nat)(t e:TypeId)(x y:Operand)(sz by_:Nat):Tree (TS E.T):=
 match x with
 |.tmp s=>match O.rootT s with
  |some r=>match O.ownAt r with
   |some ⟨ty,l⟩=>match Nat.beq sz (csz E.toEnc ty),He ty (opT O y) with
    |true,some m=>.bnd (ie by_ l m) fun r'=>.leaf ((O.lay r).dropC.put d (.a (.own ty r')))
    |_,_=>.fail
   |none=>.fail
  |none=>match look O.t s,look E.et t with
   |some (.a (.raw (.slice none 0 0))),some (.sl ty)=>match Nat.beq sz (csz E.toEnc ty),He ty (opT O y) with
    |true,some m=>.bnd (ie by_ [] m) fun r'=>.leaf (O.dropC.put d (.a (.own ty r')))
    |_,_=>.fail
   |some (.a (.clip ty l)),_=>match Nat.beq sz (csz E.toEnc ty),He ty (opT O y) with
    |true,some m=>.bnd (Vr by_ l m) fun r'=>.leaf (O.dropC.put d (.a (.own ty r')))
    |_,_=>.fail
   |_,_=>.fail
 |.const (.slice none 0 0)=>match look E.et t with
  |some (.sl ty)=>match Nat.beq sz (csz E.toEnc ty),He ty (opT O y) with
   |true,some m=>.bnd (ie by_ [] m) fun r'=>.leaf (O.dropC.put d (.a (.own ty r')))
   |_,_=>.fail
  |_=>.fail
 |_=>.fail
def zh(O:TS E.T)(t:TypeId)(k o n:Nat)(y:Operand):Tree (TS E.T):=
 match look O.h k,opT O y with
 |some (.cs cs),some (.a (.raw (.slice none 0 0)))=>match look E.et t with
  |some (.sl ty)=>match Nat.beq n 1 && Nat.ble (o+1) cs.length with
   |true=>.leaf (O.setc k (spl cs o [.own ty []]))
   |false=>.fail
  |_=>.fail
 |some (.cs cs),some u=>match u.cs1 with
  |some vs=>match Nat.beq vs.length n && Nat.ble (o+n) cs.length with
   |true=>.leaf (O.setc k (spl cs o (wM ((look E.ct t).getD []) vs)))
   |false=>.fail
  |none=>.fail
 |_,_=>.fail
def ON(o:Oper)(O:TS E.T):Tree (TS E.T):=
 match o.dst with
 |some d=>match Nat.ble (d+1) O.n with
  |true=>match o.op with
   |.move (.tmp s)=>match look O.t s with
    |some (.a (.raw _))=>nR Y E G O d o.op o.type
    |some u=>.leaf (O.mvT d s u)
    |none=>.fail
   |.assign (.tmp s)=>match look (O.freeT d).t s with
    |some (.a (.raw _))=>nR Y E G O d o.op o.type
    |some u=>.leaf ((O.freeT d).mvT d s u)
    |none=>.fail
   |.pick c x y=>match opT O c with
    |some (.a .tt)=>match opT O x with
     |some u=>.leaf (O.put d u.rd)
     |none=>.fail
    |some (.a .ff)=>match opT O y with
     |some u=>.leaf (O.put d u.rd)
     |none=>.fail
    |some (.a (.d .bool b))=>match opT O x,opT O y with
     |some u,some v=>.cond b (.leaf (O.put d u.rd)) (.leaf (O.put d v.rd))
     |_,_=>.fail
    |_=>.fail
   |.alloc el=>match look Y.zr el,O.noId d && Nat.ble d 99999 with
    |some zv,true=>.leaf ((O.boxT d (wi ((look E.ct el).getD []) zv.cells.toList)).put d (.a (.box d 0)))
    |_,_=>.fail
   |.box el x=>match opT O x,O.noId d && Nat.ble d 99999 with
    |some u,true=>match u.cs1 with
     |some vs=>.leaf ((O.boxT d vs).put d (.a (.box d 0)))
     |none=>.fail
    |_,_=>.fail
   |.load t x=>match opT O x,look Y.ty t with
    |some (.a (.box k p)),some dsc=>match kH dsc with
     |true=>match look O.h k with
      |some (.cs cs)=>match cs[p]? with
       |some c=>.leaf ((O.put d (.a c.rd)).alias d (.c k p))
       |none=>.fail
      |_=>.fail
     |false=>nR Y E G O d o.op o.type
    |_,_=>nR Y E G O d o.op o.type
   |.makeMap t none=>match look Y.ty t with
    |some (.map kt et)=>match look Y.ty kt,(look Y.ty et).bind MT,O.noId d && Nat.ble d 99999 with
     |some .string,some ty,true=>.leaf ((O.boxM d ty []).put d (.a (.mpr d)))
     |_,_,_=>.fail
    |_=>.fail
   |.call { callee:=.builtin .append,args:=xs,argTypes:=ats }=>match xs.toList,ats.toList with
    | [x,y],[t,u] =>match look Y.ty t,look Y.ty u with
      |some (.slice e),some du=>match look Y.sz e with
       |some (sz,by_)=>match uQ du && Nat.ble 1 by_ with
        |true=>VA E O d t e x y sz by_
        |false=>.fail
       |none=>.fail
      |_,_=>.fail
    |_,_=>.fail
   |op=>nR Y E G O d op o.type
  |false=>.fail
 |none=>match o.op with
  |.store t x y=>match opT O x,look Y.sz t with
   |some (.a (.box k p)),some (n,_)=>match y with
    |.tmp s=>match O.rootT s with
     |some r=>match O.ownAt r with
      |some ⟨ty,l⟩=>match look (O.lay r).h k with
       |some (.cs cs)=>match Nat.beq n 1 && Nat.ble (p+1) cs.length with
        |true=>.leaf ((O.lay r).setc k (spl cs p [.own ty l]))
        |false=>.fail
       |_=>.fail
      |none=>zh E O t k p n y
     |none=>zh E O t k p n y
    |y=>zh E O t k p n y
   |_,_=>.fail
  |.mapUpdate t x y z=>match look Y.ty t,opT O x,asS (opT O y) with
   |some (.map kt _),some (.a (.mpr k)),some key=>match look Y.ty kt,look O.h k with
    |some .string,some (.smap ty l)=>match UM ty (opT O z) with
     |some v=>.leaf (O.setm k ty (TG l key v))
     |none=>.fail
    |_,_=>.fail
   |_,_,_=>.fail
  |_=>.fail
def O7(o:Oper)(O:TS E.T):Option (Tree (TS E.T)):=
 match o.dst,o.op with
 |some d,.alloc el=>match look Y.ty el with
  |some (.array _ e)=>match(look Y.ty e).bind byA,look Y.zr el,(O.noId d && Nat.ble d 99999) && Nat.ble (d+1) O.n with
   |some ty,some zv,true=>match ty.lone,zA (T:=E.T) ty zv.cells.toList with
    |true,some l=>some (.leaf ((O.boxR d ty l).put d (.a (.box d 0))))
    |_,_=>none
   |_,_,_=>none
  |_=>none
 |some d,.makeSlice t x y=>match wO G.mu d,look Y.ty t,asI (opT O x),asI (opT O y) with
  |true,some (.slice e),some (_,n),some (_,c)=>match(look Y.ty e).bind byA,look Y.zr e,look Y.sz e,(O.noId d && Nat.ble d 99999) && Nat.ble (d+1) O.n with
   |some ty,some zv,some (1,by_),true=>match ty.lone,zA (T:=E.T) ty zv.cells.toList with
    |true,some [z] =>some (.bnd (o9 by_ n c) fun p=>.leaf (match wO G.mu (d+1000000) with
     |true=>(O.newB d (.vec d ty (List.replicate p.1 z))).put d (.a (.vec ty d (List.replicate p.1 z).length))
     |false=>(O.boxR d ty (List.replicate p.2 z)).put d (.a (.bsl d 0 p.1 p.2))))
    |_,_=>none
   |_,_,_,_=>none
  |_,_,_,_=>none
 |some d,.buildSlice t len ps=>match wO G.mu d,look Y.ty t,look E.et t,vT O (ps.toList.map (·.2)) with
  |true,some (.slice e),some (.sl ty),some us=>match ty.lone && sz1 Y e,tX E ty us,(O.noId d && Nat.ble d 99999) && Nat.ble (d+1) O.n,oG ps.toList 0 && Nat.beq len ps.toList.length && Nat.ble (len * 1) 16777216 && us.all Ny with
   |true,some xs,true,true=>some (.leaf ((O.boxR d ty xs).put d (.a (.bsl d 0 len len))))
   |_,_,_,_=>none
  |_,_,_,_=>none
 |some d,.load t x=>match opT O x with
  |some (.a (.box k _))=>match look O.h k,Nat.ble (d+1) O.n with
   |some (.row _ _),true=>some (nR Y E G O d o.op o.type)
   |_,_=>none
  |_=>none
 |some d,.call { callee:=.builtin .append,args:=⟨[x,y]⟩,argTypes:=⟨[t,u]⟩ }=>match opT O x with
  |some (.a (.bsl k 0 n c))=>match look Y.ty t,look Y.ty u,look O.h k with
   |some (.slice e),some du,some (.row ty l)=>match ty.lone && sz1 Y e && uQ du && Nat.ble (d+1) O.n,He ty (opT O y) with
    |true,some m=>some (.bnd (YD l n c m) fun l'=>.leaf ((O.setr k ty l').put d (.a (.bsl k 0 (n+m.length) c))))
    |_,_=>none
   |_,_,_=>none
  |_=>none
 |none,.store t x y=>match opT O x with
  |some (.a (.box k p))=>match look O.h k with
   |some (.row ty l)=>match ty.lone && sz1 Y t,(opT O y).bind TV.cs1 with
    |true,some [a] =>match asD ty a with
     |some v=>some (.bnd (ja l p v) fun l'=>.leaf (O.setr k ty l'))
     |none=>none
    |_,_=>none
   |_=>none
  |_=>none
 |_,_=>none
def Ol(o:Oper)(O:TS E.T):Option (Tree (TS E.T)):=
 match o.dst,o.op with
 |some d,.call { callee:=.builtin .append,args:=⟨[x,y]⟩,argTypes:=⟨[t,u]⟩ }=>match opT O x with
  |some (.a (.vec ty k n))=>match look Y.ty t,look Y.ty u,pm O.h ty k,asL (opT O y) with
   |some (.slice e),some du,some l,some w=>match j9 (.sl w.t) (.sl ty) w.l,look Y.sz e with
    |some m,some (sz,by_)=>match(Nat.beq sz (csz E.toEnc ty) && uQ du && Nat.ble 1 by_ && Nat.ble 1 sz) && (O.noId d && Nat.ble d 99999 && Nat.ble (d+1) O.n) with
     |true=>some (.bnd (lg by_ n l m) fun l'=>.leaf (((O.drpB k).newB d (.vec d ty l')).put d (.a (.vec ty d l'.length))))
     |false=>none
    |_,_=>none
   |_,_,_,_=>none
  |_=>none
 |some d,.slice t x none (some hi) none=>match opT O x with
  |some (.a (.vec ty k n))=>match look Y.ty t,pm O.h ty k,asI (opT O hi) with
   |some (.slice e),some l,some (.i64,j)=>match(Id Y e (csz E.toEnc ty) && Nat.ble 1 (csz E.toEnc ty)) && (O.noId d && Nat.ble d 99999 && Nat.ble (d+1) O.n) with
    |true=>some (.bnd (HC n l j) fun l'=>.leaf (((O.drpB k).newB d (.vec d ty l')).put d (.a (.vec ty d l'.length))))
    |false=>none
   |_,_,_=>none
  |_=>none
 |none,.store t x y=>match opT O x with
  |some (.a (.pel ty k j o))=>match pm O.h ty k,look Y.sz t,(opT O y).bind TV.cs1 with
   |some l,some (n,_),some vs=>match Nat.beq vs.length n && Nat.ble (o+n) (csz E.toEnc ty) with
    |true=>some (.bnd l[j]? fun z=>match pkT E ty (spl (cL E ty z) o vs) with
     |some (z',[])=>.leaf (O.setv k ty (l.set j z'))
     |_=>.fail)
    |false=>none
   |_,_,_=>none
  |_=>none
 |_,_=>none
def Fa{α:Type}(off n:Nat)(l:List α):Option (List α):=if off+n<=l.length then some ((l.drop off).take n) else none
def A9{T:Nat->Type}:Option (TV T)->Option (Ty × Nat × Nat × Nat)
 |some (.a (.vsl t k off n))=>some (t,k,off,n)
 |some (.a (.vec t k n))=>some (t,k,0,n)
 |_=>none
def Qv(o:Oper)(O:TS E.T):Option (Tree (TS E.T)):=
 match o.dst,o.op with
 |some d,.call { callee:=.builtin .append,args:=⟨[.tmp s,y]⟩,argTypes:=⟨[t,u]⟩ }=>match A9 (opT O y),O.rootT s with
  |some (ty,k,off,n),some r=>match O.ownAt r,pm O.h ty k with
   |some w,some l=>match j9 (.sl w.t) (.sl ty) w.l,look Y.ty t,look Y.ty u with
    |some L,some (.slice e),some (.slice _)=>match look Y.sz e with
     |some (sz,by_)=>match(Nat.beq sz (csz E.toEnc ty) && Nat.ble 1 by_) && (Nat.ble 1 sz && Nat.ble (d+1) O.n) with
      |true=>some (.bnd (Fa off n l) fun m=>.bnd (ie by_ L m) fun r'=>.leaf ((O.lay r).dropC.put d (.a (.own ty r'))))
      |false=>none
     |none=>none
    |_,_,_=>none
   |_,_=>none
  |_,_=>none
 |_,_=>none
def Wc{α:Type}(off n:Nat)(l:List α)(z:α):Option (List α):=if 0 < n/\off+n<=l.length then some (l.take off++List.replicate n z++l.drop (off+n)) else none
def Ro(o:Oper)(O:TS E.T):Option (Tree (TS E.T)):=
 match o.dst,o.op with
 |none,.call { callee:=.builtin .clear,args:=⟨[x]⟩,argTypes:=⟨[t]⟩ }=>match opT O x,look Y.ty t with
  |some (.a (.vsl ty k off n)),some (.slice e)=>match pm O.h ty k,look Y.zr e with
   |some l,some zv=>match pkT E ty (zv.cells.toList.map atomT),zv.cells.toList.all Value.oneCell',Nat.beq zv.cells.size (csz E.toEnc ty) with
    |some (z,[]),true,true=>some (.bnd (Wc off n l z) fun l'=>.leaf (O.setv k ty l'))
    |_,_,_=>none
   |_,_=>none
  |_,_=>none
 |_,_=>none
def OM(o:Oper)(O:TS E.T):Option (Tree (TS E.T)):=
 match o.dst,o.op with
 |some d,.makeMap t none=>match look Y.ty t with
  |some (.map kt et)=>match look Y.ty kt,(look Y.ty et).bind MT,(O.noId d && Nat.ble d 99999) && Nat.ble (d+1) O.n with
   |some (.int .i64),some ty,true=>some (.leaf ((O.boxI d ty []).put d (.a (.mpr d))))
   |_,_,_=>none
  |_=>none
 |none,.mapUpdate t x y z=>match look Y.ty t,opT O x,asI (opT O y) with
  |some (.map kt _),some (.a (.mpr k)),some (.i64,key)=>match look Y.ty kt,look O.h k with
   |some (.int .i64),some (.imap ty l)=>match UM ty (opT O z) with
    |some v=>some (.leaf (O.seti k ty (mJ l key v)))
    |none=>none
   |_,_=>none
  |_,_,_=>none
 |_,_=>none
def wK(o:Oper)(O:TS E.T):Tree (TS E.T):=match OM Y E o O with
 |some t=>t
 |none=>match Ro Y E o O with
 |some t=>t
 |none=>match Qv Y E o O with
 |some t=>t
 |none=>match Ol Y E o O with
 |some t=>t
 |none=>match O7 Y E G o O with
  |some t=>t
  |none=>ON Y E G o O
end
section
variable {P:Program} {Y:Tys P} {E:Env} {G:Gam E} {I:Rn} {O:TS E.T} {Q:Exit->AS->Prop} {ks:List It} {l:List Oper} {k:Nat} {o:Oper} {rest:List Oper}
abbrev On(P:Program)(E:Env)(Q:Exit->AS->Prop)(I:Rn)(its:List It)(σ':TS E.T):Prop:=∀ρ',Inj ρ' σ'.h->Agr I ρ'->br P Q its (σ'.to E.toEnc ρ')
abbrev OnE(E:Env)(R:AS->Prop)(A:Rn->Prop)(σ':TS E.T):Prop:=∀ρ',Inj ρ' σ'.h->A ρ'->R (σ'.to E.toEnc ρ')
def Pq(mu:List Nat)(o:Oper):Bool:=match o.op with
 |.alloc _|.box _ _|.makeMap _ _=>true
 |_=>match o.dst with
  |some d=>wO mu d
  |none=>false
def U2{T:Nat->Type}:Option (TV T)->Bool
 |some (.a (.vec _ _ _))=>true
 |_=>false
def Ll{T:Nat->Type}(O:TS T)(o:Oper):Bool:=match o.op with
 |.call { callee:=.builtin .append,args:=⟨[x,_]⟩,argTypes:=_ }=>U2 (opT O x)
 |.slice _ x none (some _) none=>U2 (opT O x)
 |_=>false
def Rj{T:Nat->Type}(mu:List Nat)(O:TS T)(o:Oper):Bool:=Pq mu o || Ll O o
def Low(R:AS->Prop):Prop:=∀O σ':AS,O.n=σ'.n->oF O σ'->R σ'->R O
section
variable {R:AS->Prop} {A:Rn->Prop}
def Low.low{O σ':AS}(h:Low R)(hr:R σ')(hs:oF O σ')(hn:O.n=σ'.n):R O:=h O σ' hn hs hr
def ql{it:It}(hit:(match it with|.c _=>true|.o _ _ _=>true|_=>false)=true):Low (fun τ=>br P Q (it::ks) τ):=fun _ _ _ hs h=>jd hit hs h
def tB{o:Oper}{O:AS}{d:Nat}{u:AV}(hdst:o.dst=some d)(hd:Nat.ble (d+1) O.n=true)(h:OpV P o O u)(hn:R (O.put d u)):dM P o O R:=fun F X a hs=>
 (h F X a (hs.r o.op)).mono fun x w' ⟨X',h1,h2,h3,h4,h5⟩=>⟨X',O.put d u,h1,hn,by rw[hdst];exact hs.put_new (bJ hd) h2 h3 h4 h5,h2.ext hs.gb hs.fb⟩
def Hs{O:AS}{d s:Nat}{u:AV}{ty:TypeId}{pos:String}{af:Array Edge}{g:Option (Nat × Bool)}(hd:Nat.ble (d+1) O.n=true)(hu:look O.t s=some u)(hn:R (O.mv d s u)):dM P ⟨some d,.move (.tmp s),ty,pos,af,g⟩ O R:=fun F X a hs=>
 cX (x:=a.eval (.tmp s)) (w':=X.w) rfl ⟨X,_,rfl,hn,hs.mv (bJ hd) hu,Ext.refl F X⟩
def Ag{O:AS}{d s:Nat}{u:AV}{ty:TypeId}{pos:String}{af:Array Edge}{g:Option (Nat × Bool)}(hd:Nat.ble (d+1) O.n=true)(hu:look (O.free d).t s=some u)(hn:R ((O.free d).mv d s u)):dM P ⟨some d,.assign (.tmp s),ty,pos,af,g⟩ O R:=fun F X a hs=>
 cX (x:=a.eval (.tmp s)) (w':=X.w) rfl ⟨X,_,rfl,hn,(hs.free d).mv (by rw[W2];exact bJ hd) hu,Ext.refl F X⟩
def Db{O:AS}{d b o:Nat}{cs:List AV}{u:AV}{t ty:TypeId}{x:Operand}{pos:String}{af:Array Edge}{g:Option (Nat × Bool)}{T:Tys P}{dsc:TypeDesc}(hd:Nat.ble (d+1) O.n=true)(hx:opV O x=some (.v (.pointer (some ⟨b,o,none⟩))))(hb:look O.h b=some cs)(hu:cs[o]? =some u)(h0:look T.ty t=some dsc)(h1:kH dsc=true)
  (hm:u.isMp=false) (hn:R ((O.put d u.rd).alias d (.c b o))):dM P ⟨some d,.load t x,ty,pos,af,g⟩ O R:=by
 intro F X a hs;have e1:=aZ (hs.r (.load t x)) (by simp[Op.operands]) hx;obtain⟨b1,b2,arr,e,fr,b3,b4,b5,b6⟩:=(hs.box b cs hb).at hu hm;have hlt:=(ZD.1 hu).1;have hx:arr[o]? =some arr[o] :=ZV (by omega);have hc:X.w.cell? ⟨b,o,none⟩=some arr[o] :=by simp only[World.cell?,b3];exact hx
 refine cX (x:=arr[o]) (w':=X.w) (by simp only[execOp,e1];exact bd (rt (T.tyOk _ _ h0) h1 hc)) ⟨X,_,rfl,hn,?_,Ext.refl F X⟩;have hput:=hs.put_new (bJ hd) (New.refl X) hs.gb (b6 o u _ hu hx).rd (FreshOk.plain (eq u));refine hput.alias ?_;simp only[rootV];rw[iV (by rw[hs.size];exact bJ hd),hc]
def ko{d:Nat}(hi:Inj I O.h)(hG:GOk P Y E G)(hA0:A I)(hdst:o.dst=some d)(hd:Nat.ble (d+1) O.n=true)
  (h:(nR Y E G O d o.op o.type).holds (OnE E R A)):dM P o (O.to E.toEnc I) R:=by
 have hok:=HY (Y:=Y) (O:=O) (d:=o.dst) (ty:=o.type) (pos:=o.pos) (af:=o.after) (g:=o.guard) hi hG o.op;unfold nR at h;cases hp:evP Y E G O o.op o.type with
 |one u=>rw[hp] at h hok;refine tB hdst hd hok ?_;rw[<- cI];exact h I hi hA0
 |opt q u=>rw[hp] at h hok;obtain⟨z,hz,h⟩:=h;refine tB hdst hd (hok z hz) ?_;rw[<- cI];exact h I hi hA0
 |bad=>rw[hp] at h;cases h
def Ej(hi:Inj I O.h)(r:Root):Inj I (O.lay r).h:=hi.sub fun p hp=>let ⟨q,h1,h2,h3⟩:=Un O r p hp;⟨q,h1,h2,h3 I⟩
def uk{t:Ty}{y:Operand}{m:List (Den E.T t)}(h:He t (opT O y)=some m):∃v S,opV (O.to E.toEnc I) y=some v/\D4 (csz E.toEnc t) v=some (m.map (cells E.toEnc t),S)/\S:=by
 have hone:∀ (t:Ty) (m:List (Den E.T t)),un (m.map (cells E.toEnc t)):=fun t m r hr u hu=>by obtain⟨x,_,rfl⟩:=ZW.1 hr;exact(jg E.toEnc t x u hu).1
 cases hy:opT O y with
 |none=>rw[hy] at h;cases h
 |some u=>
  rw[hy] at h;refine⟨u.to E.toEnc I,?_⟩;rw[aF hy];have hrow:∀ (l:List (Den E.T t)),(match Nat.beq (csz E.toEnc t) (csz E.toEnc t) with|true=>some (l.map (cells E.toEnc t),un (l.map (cells E.toEnc t)))|false=>none)=some (l.map (cells E.toEnc t),un (l.map (cells E.toEnc t))):=fun l=>by rw[aaL]
  cases u with
  |a x=>
   cases x with
   |d t' x=>
    cases t' with
    |sl t'=>obtain⟨e,rfl⟩:=ev (show j9 (.sl t') (.sl t) x=some m from h);cases e;exact⟨_,rfl,hrow _,hone _ _⟩
    |str=>obtain⟨e,rfl⟩:=ev (show j9 (.sl .byte) (.sl t) x=some m from h);cases e;exact⟨True,rfl,rfl,trivial⟩
    |_=>cases h
   |own t' l=>obtain⟨e,rfl⟩:=ev (show j9 (.sl t') (.sl t) l=some m from h);cases e;exact⟨_,rfl,hrow _,hone _ _⟩
   |raw v=>
    cases v with
    |slice a n c=>
     cases a<;> cases n<;> cases c<;> first
      | (have h' : some [] = some m := h
         cases h';exact⟨True,rfl,rfl,trivial⟩)
      |cases h
    |_=>cases h
   |_=>cases h
  |_=>cases h
def n4{α:Type}{by_:Nat}{l m r:List α}(h:ie by_ l m=some r):(l.length+m.length) * by_<=140737488355328/\r=l++m:=by
 unfold ie at h;split at h
 ·rename_i h0;cases h;exact⟨h0,rfl⟩
 ·cases h
def Ez{T:Nat->Type}(d:Nat)(v:Value):(constT v:TV T).noId d=true:=by
 cases v with
 |int k n=>
  cases k with
  |u8=>unfold constT;simp only;split<;> rfl
  |_=>rfl
 |bool b=>cases b<;> rfl
 |agg xs=>simp[constT,TV.noId,TA.noId]
 |tuple xs=>simp[constT,TV.noId,TC.noId,TA.noId]
 |_=>rfl
def Ng{d:Nat}{x y:Operand}{t u e:TypeId}{du:TypeDesc}{sz by_:Nat}(hi:Inj I O.h)(hA0:A I)
  (hop:o=⟨some d,.call { callee:=.builtin .append,args:= #[x,y],argTypes:= #[t,u] },o.type,o.pos,o.after,o.guard⟩) (hd:Nat.ble (d+1) O.n=true) (ht:look Y.ty t=some (.slice e)) (hu:look Y.ty u=some du) (hnz:uQ du=true) (hz:look Y.sz e=some (sz,by_)) (hb:Nat.ble 1 by_=true)
  (h:(VA E O d t e x y sz by_).holds (OnE E R A)):dM P o (O.to E.toEnc I) R:=by
 have nilCase : ∀ (ty : Ty), opV (O.to E.toEnc I) x = some (.v (.slice none 0 0)) -> (match Nat.beq sz (csz E.toEnc ty), He ty (opT O y) with
    |true,some m=>Tree.bnd (ie by_ [] m) fun r'=>.leaf (O.dropC.put d (.a (.own ty r')))
    |_,_=>.fail).holds (OnE E R A)->dM P o (O.to E.toEnc I) R:=by
  intro ty hx hh;split at hh
  ·rename_i m hs hm
   obtain⟨r',hr,hh⟩:=hh;obtain⟨h1,h2⟩:=n4 hr;obtain⟨v,S,k1,k2,k3⟩:=uk (I:=I) hm;have hs':=jL hs;subst hs';have heff:=vW (P:=P) (T:=Y) (d:=d) (ty:=o.type) (pos:=o.pos) (af:=o.after) (g:=o.guard) hx ht hu (by cases du<;> first|rfl|cases hnz) hz hb k1 k2 hd k3 (by simpa using h1);rw[hop];refine heff _ ?_;have:=hh I hi hA0
   rw[cI,uz,h2,List.nil_append] at this;exact this
  ·cases hh
 unfold VA at h;split at h
 ·rename_i s;split at h
  ·rename_i r hr;split at h
   ·rename_i ty L hown;split at h
    ·rename_i m hs hm
     obtain⟨r',hr',h⟩:=h;obtain⟨h1,h2⟩:=n4 hr';obtain⟨v,S,k1,k2,k3⟩:=uk (I:=I) hm;have hs':=jL hs;subst hs';have heff:=CA (P:=P) (T:=Y) (d:=d) (ty:=o.type) (pos:=o.pos) (af:=o.after) (g:=o.guard) (tY hr) (yz O hi hown) ht hu (by cases du<;> first|rfl|cases hnz) hz hb k1 k2 hd k3 (by simpa using h1);rw[hop];refine heff _ ?_
     have:=h I (Ej hi r) hA0;rw[cI,uz,CT O hi hown,h2] at this;have e2:(TV.a (TA.own ty (L++m)):TV E.T).to E.toEnc I=.sl true (csz E.toEnc ty) (L.map (cells E.toEnc ty)++m.map (cells E.toEnc ty)):=by show AV.sl true _ (List.map _ (L++m))=_;rw[aah]
     rw[e2] at this;exact this
    ·cases h
   ·cases h
  ·split at h
   ·rename_i ty hx hty;exact nilCase ty (aF (x:=.tmp s) hx) h
   ·rename_i ty L hx;split at h
    ·rename_i m hs hm;obtain⟨r',hr,hh⟩:=h;have hr2:m≠[] /\ie by_ L m=some r':=by
      unfold Vr at hr;split at hr
      ·cases hr
      ·exact⟨by simp,hr⟩
     obtain⟨h1,h2⟩:=n4 hr2.2;obtain⟨v,S,k1,k2,k3⟩:=uk (I:=I) hm;have hs':=jL hs;subst hs'
     have heff:=Aq (P:=P) (T:=Y) (O:=O.to E.toEnc I) (d:=d) (ty:=o.type) (pos:=o.pos) (af:=o.after) (g:=o.guard) (L:=L.map (cells E.toEnc ty)) (m:=m.map (cells E.toEnc ty)) (aF (x:=.tmp s) hx) ht hu (by cases du<;> first|exact .inl rfl|exact .inr ⟨_,rfl⟩|cases hnz) hz hb (ra k1 k2 k3) (by simpa using h1) (by simpa using hr2.1) hd (R:=R)
     rw[hop];refine heff ?_;have:=hh I hi hA0;rw[cI,uz,h2] at this;have e2:(TV.a (TA.own ty (L++m)):TV E.T).to E.toEnc I=.sl true (csz E.toEnc ty) (L.map (cells E.toEnc ty)++m.map (cells E.toEnc ty)):=by show AV.sl true _ (List.map _ (L++m))=_;rw[aah]
     rw[e2] at this;exact this
    ·cases h
   ·cases h
 ·split at h
  ·rename_i ty hty;exact nilCase ty rfl h
  ·cases h
 ·cases h
def zx{x:TA E.T}(h:x.simple=true):(x.to E.toEnc I).one=true:=by
 cases x with
 |d t x=>
  cases t with
  |nam i=>cases h
  |bits n=>cases h
  |ptr t=>cases x<;> rfl
  |_=>rfl
 |clip t l=>cases h
 |raw v=>cases v<;> first|rfl|cases h
 |vec t i n=>obtain⟨a,m,c,e⟩:=TA.vec_form E.toEnc I t i n;rw[e];rfl
 |vsl t i off n=>obtain⟨a,m,c,e⟩:=TA.vsl_form E.toEnc I t i off n;rw[e];rfl
 |_=>rfl
def Bp{x:TA E.T}(h:x.simple=true):x.rd.simple=true:=by cases x<;> first|exact h|rfl
theorem Oa(x:TA E.T):x.rd.plain=true:=by cases x<;> rfl
def lM{x:TA E.T}(h:x.simple=true):(x.to E.toEnc I).cells=[x.to E.toEnc I] /\(x.to E.toEnc I).okc=true:=by
 cases x with
 |d t x=>
  cases t with
  |nam i=>cases h
  |bits n=>cases h
  |ptr t=>cases x<;> exact⟨rfl,rfl⟩
  |_=>exact⟨rfl,rfl⟩
 |raw v=>cases v<;> first|exact⟨rfl,rfl⟩|cases h
 |vec t i n=>obtain⟨a,m,c,e⟩:=TA.vec_form E.toEnc I t i n;rw[e];exact⟨rfl,rfl⟩
 |vsl t i off n=>obtain⟨a,m,c,e⟩:=TA.vsl_form E.toEnc I t i off n;rw[e];exact⟨rfl,rfl⟩
 |_=>exact⟨rfl,rfl⟩
def yh{u:TV E.T}{vs:List (TA E.T)}(h:u.cs1=some vs):(u.to E.toEnc I).okc=true/\(u.to E.toEnc I).rd.cells=vs.map (TA.to E.toEnc I)/\((u.to E.toEnc I).rd.cells.all AV.one)=true/\((u.to E.toEnc I).rd.cells.all fun u=>(de (some u)).isNone)=true:=by
 unfold TV.cs1 at h;split at h
 ·rename_i x;split at h
  ·rename_i hs;cases h;obtain⟨h1,h2⟩:=lM (I:=I) hs;obtain⟨h3,h4⟩:=lM (I:=I) (Bp hs);have e:((TV.a x:TV E.T).to E.toEnc I).rd.cells=[x.rd.to E.toEnc I] :=by show(x.to E.toEnc I).rd.cells=_;rw[<- TA.rd_to,h3]
   refine⟨h2,e,?_,?_⟩
   ·rw[e];simp only[List.all_cons,List.all_nil,Bool.and_true];exact zx (Bp hs)
   ·rw[e];simp only[List.all_cons,List.all_nil,Bool.and_true,TA.plain_to _ _ (Oa x)];rfl
  ·cases h
 ·rename_i l;split at h
  ·rename_i hs;cases h;refine⟨rfl,rfl,?_,?_⟩
   ·show(vs.map (TA.to E.toEnc I)).all AV.one=true;rw[List.all_map,ZL];intro x hx;have:=ZL.1 hs x hx;simp only[Bool.and_eq_true] at this;exact zx this.1
   ·show(vs.map (TA.to E.toEnc I)).all (fun u=>(de (some u)).isNone)=true;rw[List.all_map,ZL];intro x hx;have:=ZL.1 hs x hx;simp only[Bool.and_eq_true] at this;simp only[Function.comp,TA.plain_to _ _ this.2];rfl
  ·cases h
 ·rename_i f l;split at h
  ·rename_i is hc;cases h;have e:(TV.fn f l:TV E.T).to E.toEnc I=(TA.fnb f is:TA E.T).to E.toEnc I:=by rw[Ih hc];simp only[TV.to,TA.to,List.map_map];rfl
   rw[e];exact⟨rfl,rfl,rfl,rfl⟩
  ·cases h
 ·cases h
def ud{k:Nat}{cs0:List (TA E.T)}(hi:Inj I O.h)(hb:look O.h k=some (.cs cs0))(cs:List (TA E.T)):Inj I (O.setc k cs).h:=j5 hi hb rfl
def sU{t:TypeId}{kk p n by_:Nat}{x y:Operand}(hi:Inj I O.h)(hR:Low R)(hA0:A I)(hop:o=⟨none,.store t x y,o.type,o.pos,o.after,o.guard⟩)
  (hx:opT O x=some (.a (.box kk p))) (hz:look Y.sz t=some (n,by_)) (h:(zh E O t kk p n y).holds (OnE E R A)):dM P o (O.to E.toEnc I) R:=by
 unfold zh at h;split at h
 ·rename_i cs hb hy;split at h
  ·rename_i ty hty;split at h
   ·rename_i hc;simp only[Bool.and_eq_true] at hc;have hn:=jL hc.1;subst hn;rw[hop];have heff:=iv (P:=P) (T:=Y) (ty:=o.type) (pos:=o.pos) (af:=o.after) (g:=o.guard) (u0:=.v (.slice none 0 0)) (aF (I:=I) hx) (kM hi hb) (aF (I:=I) hy) rfl hz rfl rfl rfl (by simpa using hc.2) (s0 cs);refine heff _ ?_
    refine hR.low (h I (ud hi hb _) hA0) (fun F X tm hs=> ?_) rfl;refine hs.le2 rfl (fun t u' hu=>⟨u',hu,.refl _⟩) (fun q cs' hq=> ?_) (fun p hp=> ?_)
    ·have e:((O.setc kk (spl cs p [.own ty []])).to E.toEnc I).h=(I kk,(spl cs p [.own ty []]).map (TA.to E.toEnc I))::hTo E.toEnc I O.h:=rfl
     rw[e,ae] at hq;have e2:((O.to E.toEnc I).setc (I kk) (cF (cs.map (TA.to E.toEnc I)) p (AV.rd (.v (.slice none 0 0))).cells)).h=(I kk,cF (cs.map (TA.to E.toEnc I)) p [.v (.slice none 0 0)])::hTo E.toEnc I O.h:=rfl;rw[e2,ae];split at hq
     ·rename_i e3;rw[ZI e3];cases hq;refine⟨_,rfl,?_⟩;rw[rC];unfold cF;exact((LeL.refl _).append (.cons (.nil _ _) .nil)).append (LeL.refl _)
     ·rename_i e3;rw[ZH e3];exact⟨cs',hq,LeL.refl _⟩
    ·rw[xd] at hp;exact hp
   ·cases h
  ·cases h
 ·rename_i cs u hnn hb hy;split at h
  ·rename_i vs hvs;split at h
   ·rename_i hc;simp only[Bool.and_eq_true] at hc;obtain⟨c1,c2,c3,c4⟩:=yh (I:=I) hvs;rw[hop];have heff:=iv (P:=P) (T:=Y) (ty:=o.type) (pos:=o.pos) (af:=o.after) (g:=o.guard) (aF (I:=I) hx) (kM hi hb) (aF (I:=I) hy) c1 hz (by rw[c2,Z3];exact hc.1) c3 c4 (by simpa using hc.2) (s0 cs);refine heff _ ?_
    have hle:=w7 (E:=E) (I:=I) ((look E.ct t).getD []) vs;refine hR.low (h I (ud hi hb _) hA0) (fun F X tm hs=> ?_) rfl;refine hs.le2 rfl (fun t u' hu=>⟨u',hu,.refl _⟩) (fun q cs' hq=> ?_) (fun pp hp=> ?_)
    ·have e:((O.setc kk (spl cs p (wM ((look E.ct t).getD []) vs))).to E.toEnc I).h=(I kk,(spl cs p (wM ((look E.ct t).getD []) vs)).map (TA.to E.toEnc I))::hTo E.toEnc I O.h:=rfl
     rw[e,ae] at hq;have e2:((O.to E.toEnc I).setc (I kk) (cF (cs.map (TA.to E.toEnc I)) p (u.to E.toEnc I).rd.cells)).h=(I kk,cF (cs.map (TA.to E.toEnc I)) p (u.to E.toEnc I).rd.cells)::hTo E.toEnc I O.h:=rfl;rw[e2,ae];split at hq
     ·rename_i e3;rw[ZI e3];cases hq;refine⟨_,rfl,?_⟩;rw[rC,c2];unfold cF;rw[hle.length];exact((LeL.refl _).append hle).append (LeL.refl _)
     ·rename_i e3;rw[ZH e3];exact⟨cs',hq,LeL.refl _⟩
    ·rw[xd] at hp;exact hp
   ·cases h
  ·cases h
 ·cases h
def Lm(hi:Inj I O.h)(hG:GOk P Y E G)(hR:Low R)(hA0:A I)(hA1:Pq G.mu o=true->∀d x,Nat.ble d 99999=true->A (dG I d x))(h:(ON Y E G o O).holds (OnE E R A)):dM P o (O.to E.toEnc I) R:=by
 obtain⟨dst,op,ty,pos,af,g⟩:=o;unfold ON at h;simp only at h;split at h
 ·rename_i d;split at h
  ·rename_i hd;split at h
   ·rename_i s;split at h
    ·exact ko (Y:=Y) hi hG hA0 rfl hd h
    ·rename_i u hn hu;refine Hs hd (u:=u.to E.toEnc I) (by simp only[TS.to,cg,hu];rfl) ?_;have:=h I (by rw[Vm];exact hi) hA0;rw[<- Mx hu (fun v e=>hn v e)] at this;exact this
    ·cases h
   ·rename_i s;split at h
    ·exact ko (Y:=Y) hi hG hA0 rfl hd h
    ·rename_i u hn hu;refine Ag hd (u:=u.to E.toEnc I) (by rw[<- GQ];simp only[TS.to,cg,hu];rfl) ?_;have:=h I (by rw[Vm,UJ];exact hi) hA0;rw[<- Mx hu (fun v e=>hn v e),GQ] at this;exact this
    ·cases h
   ·rename_i c x y;split at h
    ·rename_i hc;split at h
     ·rename_i u hu;refine tB rfl hd (rh (b:=true) (aF hc) rfl (aF hu)) ?_;have:=h I hi hA0;rw[cI,TV.rd_to] at this;exact this
     ·cases h
    ·rename_i hc;split at h
     ·rename_i u hu;refine tB rfl hd (rN (b:=false) (aF hc) rfl (aF hu)) ?_;have:=h I hi hA0;rw[cI,TV.rd_to] at this;exact this
     ·cases h
    ·rename_i b hc;split at h
     ·rename_i u v hu hv;cases hb:b with
      |true=>refine tB rfl hd (rh (b:=b) (aF hc) hb (aF hu)) ?_;have:=h.1 hb I hi hA0;rw[cI,TV.rd_to] at this;exact this
      |false=>refine tB rfl hd (rN (b:=b) (aF hc) hb (aF hv)) ?_;have:=h.2 hb I hi hA0;rw[cI,TV.rd_to] at this;exact this
     ·cases h
    ·cases h
   ·rename_i el;split at h
    ·rename_i zv hz hn';simp only[Bool.and_eq_true] at hn';obtain⟨hn,hnb⟩:=hn';refine ro (T:=Y) hz hd fun b hb=> ?_;have:=h (upd I d b) (Fe hi hn hb) (hA1 rfl d ⟨b,false,[]⟩ hnb);refine hR.low this (fun F X tm hs=> ?_) rfl;rw[cI]
     have e:((O.boxT d (wi ((look E.ct el).getD []) zv.cells.toList)).to E.toEnc (upd I d b))=(O.to E.toEnc I).box b ((wi ((look E.ct el).getD []) zv.cells.toList).map (TA.to E.toEnc (upd I d b))):=by exact oZ (x:=⟨b,false,[]⟩) hn rfl
     have e2:(TV.a (TA.box d 0):TV E.T).to E.toEnc (upd I d b)=.v (.pointer (some ⟨b,0,none⟩)):=by show AV.v (.pointer (some ⟨upd I d b d,0,none⟩))=_;rw[jM]
     rw[e,e2];refine hs.le2 rfl (fun t u' hu=>⟨u',hu,.refl _⟩) (fun q cs' hq=> ?_) (fun p hp=>hp);simp only[AS.put,AS.box,ae] at hq ⊢;split at hq
     ·rename_i e3;rw[ZI e3];cases hq;exact⟨_,rfl,yQ _ _⟩
     ·rename_i e3;rw[ZH e3];exact⟨cs',hq,LeL.refl _⟩
    ·cases h
   ·rename_i el x;split at h
    ·rename_i u hx hn';simp only[Bool.and_eq_true] at hn';obtain⟨hn,hnb⟩:=hn';split at h
     ·rename_i vs hvs;obtain⟨c1,c2,c3,c4⟩:=yh (I:=I) hvs;refine OH (aF (I:=I) hx) c1 c4 hd fun b hb=> ?_;have:=h (upd I d b) (Fe hi hn hb) (hA1 rfl d ⟨b,false,[]⟩ hnb);rw[cI] at this;have hnv:vs.all (TA.noId d)=true\/True:=.inr trivial
      have e2:(TV.a (TA.box d 0):TV E.T).to E.toEnc (upd I d b)=.v (.pointer (some ⟨b,0,none⟩)):=by show AV.v (.pointer (some ⟨upd I d b d,0,none⟩))=_;rw[jM]
      have hvu:vs.map (TA.to E.toEnc (upd I d b))=vs.map (TA.to E.toEnc I):=by
       refine kw ?_;have hu:u.noId d=true:=by
        cases x with
        |tmp t=>simp only[opT] at hx;unfold TS.noId at hn;simp only[Bool.and_eq_true] at hn;exact ZL.1 hn.1.1 _ (db hx)
        |const v=>cases hx;exact Ez d v
        |func f=>cases hx;rfl
        |global g=>cases hx;rfl
       unfold TV.cs1 at hvs;split at hvs
       ·rename_i x0;split at hvs
        ·cases hvs;simp only[List.all_cons,List.all_nil,Bool.and_true];cases x0<;> first|exact hu|rfl
        ·cases hvs
       ·split at hvs
        ·cases hvs;exact hu
        ·cases hvs
       ·rename_i f l;split at hvs
        ·rename_i is hc;cases hvs;have hu':l.all (TA.noId d)=true:=hu;rw[Ih hc] at hu';simp only[List.all_map] at hu';simp only[List.all_cons,List.all_nil,Bool.and_true];exact hu'
        ·cases hvs
       ·cases hvs
      have e:((O.boxT d vs).to E.toEnc (upd I d b))=(O.to E.toEnc I).box b (vs.map (TA.to E.toEnc I)):=by rw[<- hvu];exact oZ (x:=⟨b,false,[]⟩) hn rfl
      rw[e,e2,<- c2] at this;exact this
     ·cases h
    ·cases h
   ·rename_i t x;split at h
    ·rename_i kk p dsc hx h0;split at h
     ·rename_i h1;split at h
      ·rename_i cs hb;split at h
       ·rename_i c hc;have:=h I hi hA0;rw[ER,cI] at this;refine Db (T:=Y) hd (aF (I:=I) hx) (kM hi hb) (u:=c.to E.toEnc I) (by simp[hc]) h0 h1 (TA.to_notMp _ _ _) ?_;have e:(TV.a c.rd:TV E.T).to E.toEnc I=(c.to E.toEnc I).rd:=TA.rd_to _ _ _;rw[e] at this;exact this
       ·cases h
      ·cases h
     ·exact ko (Y:=Y) hi hG hA0 rfl hd h
    ·exact ko (Y:=Y) hi hG hA0 rfl hd h
   ·rename_i t;split at h
    ·rename_i kt et h0;split at h
     ·rename_i ty' hk het hn';simp only[Bool.and_eq_true] at hn';obtain⟨hn,hnb⟩:=hn';refine AA (T:=Y) rfl h0 hk hd fun b hb=> ?_;have:=h (upd I d b) (ik hi hn fun _=>hb) (hA1 rfl d ⟨b,false,[]⟩ hnb);rw[cI] at this;have e:((O.boxM d ty' []).to E.toEnc (upd I d b))=(O.to E.toEnc I).box b [smap []] :=by exact oZ (x:=⟨b,false,[]⟩) hn rfl
      have e2:(TV.a (TA.mpr d):TV E.T).to E.toEnc (upd I d b)=.v (.map (some b)):=by show AV.v (.map (some (upd I d b d)))=_;rw[jM]
      rw[e,e2] at this;exact this
     ·cases h
    ·cases h
   ·rename_i xs ats;split at h
    ·rename_i x y t u hxs hats;have hxs':xs= #[x,y] :=by cases xs;simp at hxs;subst hxs;rfl
     have hats':ats= #[t,u] :=by cases ats;simp at hats;subst hats;rfl
     subst hxs' hats';split at h
     ·rename_i e du ht hu;split at h
      ·rename_i sz by_ hz;split at h
       ·rename_i hc;simp only[Bool.and_eq_true] at hc;exact Ng (Y:=Y) hi hA0 rfl hd ht hu hc.1 hz hc.2 h
       ·cases h
      ·cases h
     ·cases h
    ·cases h
   ·exact ko (Y:=Y) hi hG hA0 rfl hd h
  ·cases h
 ·split at h
  ·rename_i t x y;split at h
   ·rename_i kk p n by_ hx hz;split at h
    ·rename_i s;split at h
     ·rename_i r hr;split at h
      ·rename_i ty' L hown;split at h
       ·rename_i cs hb;split at h
        ·rename_i hc;simp only[Bool.and_eq_true] at hc;have hn:=jL hc.1;subst hn;have hi':=Ej (O:=O) hi r;have hlk:look ((O.to E.toEnc I).lay (r.to I)).h (I kk)=some (cs.map (TA.to E.toEnc I)):=by rw[<- CT O hi hown];exact dz E.toEnc hi' hb rfl
         have heff:=wT (P:=P) (T:=Y) (ty:=ty) (pos:=pos) (af:=af) (g:=g) (aF (I:=I) hx) (tY hr) (yz O hi hown) hlk hz (by simpa using hc.2) (s0 cs);refine heff _ ?_;have:=h I (ud hi' hb _) hA0;rw[xd,rC,CT O hi hown] at this;exact this
        ·cases h
       ·cases h
      ·exact sU (Y:=Y) hi hR hA0 rfl hx hz h
     ·exact sU (Y:=Y) hi hR hA0 rfl hx hz h
    ·exact sU (Y:=Y) hi hR hA0 rfl hx hz h
   ·cases h
  ·rename_i t x y z;split at h
   ·rename_i kt et kk key h0 hx hy;split at h
    ·rename_i ty' l hk hb;split at h
     ·rename_i v hv;obtain⟨u,hu1,hu2⟩:=IM (I:=I) hv;have hb':look (O.to E.toEnc I).h (I kk)=some [smap (l.map fun p=>(p.1,one E.toEnc ty' p.2))] :=dz E.toEnc hi hb rfl;refine Dm (T:=Y) (aF (I:=I) hx) hb' (ne hy) hu1 h0 hk ?_;rw[hu2,Hd];have:=h I (j5 hi hb rfl) hA0;rw[TU] at this;exact this
     ·cases h
    ·cases h
   ·cases h
  ·cases h
def Nr{t:Ty}{v:Value}{z:Den E.T t}(h:O9 t v=some z):AV.v v=one E.toEnc t z:=by
 cases t with
 |byte=>
  cases v with
  |int k n=>
   cases k with
   |u8=>
    simp only[O9] at h;split at h
    ·rename_i hn;cases h;show _=AV.v (.int .u8 ((UInt8.ofNat n.toNat).toNat:Int));rw[hn]
    ·cases h
   |_=>cases h
  |_=>cases h
 |int k=>
  have h':sD (.int k) v=some z:=h;cases v with
  |int k' n=>exact(jX (E:=E.toEnc) h').1
  |_=>cases h'
 |bool=>
  have h':sD .bool v=some z:=h;cases v with
  |bool b=>exact(jX (E:=E.toEnc) h').1
  |_=>cases h'
 |str=>
  have h':sD .str v=some z:=h;cases v with
  |string b=>exact(jX (E:=E.toEnc) h').1
  |_=>cases h'
 |_=>cases h
def vr{t:Ty}:∀ {vs:List Value} {zs:List (Den E.T t)},zA t vs=some zs->vs.map AV.v=zs.map (one E.toEnc t)
 | [],_,h=>by cases h;rfl
 |v::vs,zs,h=>by
  simp only[zA] at h;split at h
  ·rename_i z zs' hz hzs;cases h;rw[aap,aap,Nr hz,vr hzs]
  ·cases h
def CW{d b:Nat}{t:Ty}{l:List (Den E.T t)}(hl:t.lone=true)(hn:O.noId d=true):(O.boxR d t l).to E.toEnc (upd I d b)=(O.to E.toEnc I).box b (l.map (one E.toEnc t)):=by rw[<- jv (I:=upd I d b) hl];exact oZ (x:=⟨b,false,[]⟩) hn rfl
def yM{d k:Nat}{t:Ty}{l:List (Den E.T t)}(hi:Inj I O.h)(hn:O.noId d=true)(hk:gy k (O.to E.toEnc I).h):Inj (upd I d k) (O.boxR d t l).h:=ik hi hn fun _=>hk
def WU(d b:Nat):(TV.a (TA.box d 0):TV E.T).to E.toEnc (upd I d b)=.v (.pointer (some ⟨b,0,none⟩)):=by show AV.v (.pointer (some ⟨upd I d b d,0,none⟩))=_;rw[jM]
def Mk(d b n c:Nat):(TV.a (TA.bsl d 0 n c):TV E.T).to E.toEnc (upd I d b)=.v (.slice (some ⟨b,0,none⟩) n c):=by show AV.v (.slice (some ⟨upd I d b d,0,none⟩) n c)=_;rw[jM]
def MG(v:Value)(m:Nat):(madeCells #[v] m).toList=List.replicate m v:=by
 have:madeCells #[v] m=Array.replicate m v:=by
  apply abK
  ·simp[madeCells]
  ·intro j h1 h2;have hm:j % 1=0:=Nat.mod_one j;simp[madeCells,hm]
 rw[this];simp
def KM{by_:Nat}{n c:Int}{p:Nat × Nat}(h:o9 by_ n c=some p):n=(p.1:Int)/\c=(p.2:Int)/\p.1<=p.2/\by_ * p.2<=281474976710656/\p.2<=9223372036854775807:=by
 unfold o9 at h;split at h
 ·rename_i hc;cases h;obtain⟨h1,h2,h3,h4⟩:=hc;have e:((by_ * c.toNat:Nat):Int)=(by_:Int) * c:=by rw[Int.natCast_mul,Int.toNat_of_nonneg (by omega)]
  refine⟨?_,?_,?_,?_,?_⟩<;> simp only<;> omega
 ·cases h
def FK{t:Ty}{l:List (Den E.T t)}{o:Nat}{v:Den E.T t}(h:o < l.length):cF (l.map (one E.toEnc t)) o [one E.toEnc t v] =(l.set o v).map (one E.toEnc t):=by unfold cF;rw[<- abu,aa3,<- abp,List.set_eq_take_append_cons_drop,ZI h];simp
def KX{R:List (List AV)}{t:Ty}{xs:List (Den E.T t)}(hl:t.lone=true)(h:LeR R (xs.map (cells E.toEnc t))):LeL R.flatten (xs.map (one E.toEnc t)):=by
 induction xs generalizing R with
 |nil=>cases h;exact .nil
 |cons x xs ih=>
  rw[aap] at h ⊢;cases h with
  |cons h1 h2=>rw[oS E.toEnc hl] at h1;rw[aag];exact LeL.append h1 (ih h2)
def SQ{t:Ty}(h:t.lone=true):csz E.toEnc t=1:=by cases t<;> first|rfl|cases h
def zc{t:Ty}(h:t.lone=true)(l:List (Den E.T t)):(l.map (cells E.toEnc t)).flatten=l.map (one E.toEnc t):=jv (I:=Rn.zero) h l
def LG{t:Tree (TS E.T)}(hi:Inj I O.h)(hG:GOk P Y E G)(hR:Low R)(hA0:A I)(hA1:Pq G.mu o=true->∀d x,Nat.ble d 99999=true->A (dG I d x))(ht:O7 Y E G o O=some t)(h:t.holds (OnE E R A)):dM P o (O.to E.toEnc I) R:=by
 obtain⟨dst,op,ty,pos,af,g⟩:=o;unfold O7 at ht;simp only at ht;split at ht
 ·rename_i d el;split at ht
  ·rename_i an e ha;split at ht
   ·rename_i ty' zv hb hz hn';simp only[Bool.and_eq_true] at hn';obtain⟨⟨hn,hnb⟩,hd⟩:=hn';split at ht
    ·rename_i L hlo hzs;cases ht;refine ro (T:=Y) hz hd fun b hb=> ?_;have:=h (upd I d b) (yM hi hn hb) (hA1 rfl d ⟨b,false,[]⟩ hnb);rw[cI,CW hlo hn,WU] at this;rw[vr hzs];exact this
    ·cases ht
   ·cases ht
  ·cases ht
 ·rename_i d t0 x y;split at ht
  ·rename_i e kx n ky c hmu h0 hx hy;split at ht
   ·rename_i ty' zv by_ hb hz hs hn';simp only[Bool.and_eq_true] at hn';obtain⟨⟨hn,hnb⟩,hd⟩:=hn';split at ht
    ·rename_i z hlo hzs;cases ht;obtain⟨p,hp,h⟩:=h;obtain⟨e1,e2,e3,e4,e5⟩:=KM hp;subst e1 e2;have hc:=vr (E:=E) hzs;have hcz:∃v,zv.cells= #[v] :=by
      have hlen:=aas List.length hc;simp at hlen;refine⟨zv.cells[0],?_⟩;apply abK
      ·simp[hlen]
      ·intro j h1 h2;simp at h2;subst h2;simp
     obtain⟨v,hv⟩:=hcz;refine Cw (T:=Y) (dO hx) (dO hy) e3 h0 hs hz e4 e5 hd fun b hb=> ?_;rw[hv] at hc ⊢;rw[abB,MG,abh];simp only[List.map_cons,List.map_nil,List.cons.injEq,and_true] at hc;simp only[OnE] at h;cases hvm:wO G.mu (d+1000000) with
     |true=>
      rw[hvm] at h;have hll:(List.replicate p.1 z).length=p.1:=aa4;have hcs:csz E.toEnc ty'=1:=(eH E.toEnc ty' z).symm.trans (by rw[oS E.toEnc hlo];rfl)
      have hin:Inj (dG I d ⟨b,false,List.replicate (p.2 - p.1) v⟩) (((O.newB d (.vec d ty' (List.replicate p.1 z))).put d (.a (.vec ty' d (List.replicate p.1 z).length))):TS E.T).h:=ik hi hn fun _=>hb;have:=h _ hin (hA1 hmu d _ hnb);rw[cI,oZ (x:=⟨b,false,List.replicate (p.2 - p.1) v⟩) hn (by simp only[bi,m0];rfl)] at this
      have hbx:(TB.vec d ty' (List.replicate p.1 z):TB E.T).to E.toEnc (dG I d ⟨b,false,List.replicate (p.2 - p.1) v⟩)=List.replicate p.2 (.v v):=by
       simp only[TB.to,m0];have:=jv (I:=I) hlo (List.replicate p.1 z);rw[show((List.replicate p.1 z).map (cells E.toEnc ty')).flatten=_ from this,abh,abh,<- hc,List.replicate_append_replicate]
       congr 1;omega
      have hsl:(TV.a (TA.vec ty' d (List.replicate p.1 z).length):TV E.T).to E.toEnc (dG I d ⟨b,false,List.replicate (p.2 - p.1) v⟩)=.v (.slice (some ⟨b,0,none⟩) p.1 p.2):=by
       simp only[TV.to,TA.to,m0];unfold vecV;rw[hcs,hll,ZH (by simp),Nat.div_one,aa4]
       congr 3;omega
      rw[hbx,hsl] at this;exact this
     |false=>rw[hvm] at h;have:=h (upd I d b) (yM hi hn hb) (hA1 hmu d ⟨b,false,[]⟩ hnb);rw[cI,CW hlo hn,Mk,abh] at this;rw[hc];exact this
    ·cases ht
   ·cases ht
  ·cases ht
 ·rename_i d t0 len ps;split at ht
  ·rename_i e ty' us hmu h0 het hx;split at ht
   ·rename_i xs hlo' hp hn' hc';simp only[Bool.and_eq_true] at hn' hlo' hc';obtain⟨⟨hn,hnb⟩,hd⟩:=hn';obtain⟨hlo,hs⟩:=hlo';obtain⟨⟨⟨c1,c2⟩,c3⟩,c4⟩:=hc';obtain⟨by_,hz⟩:=pP hs;cases ht;obtain⟨m1,m2⟩:=s9 (I:=I) hp;have pl:∀u∈us,∃x,u=TV.a x/\x.plain=true/\x.simple=true:=fun u hu=>by
     have:=ZL.1 c4 u hu;unfold Ny at this;split at this
     ·rename_i x;rw[ZT] at this;exact⟨x,rfl,this.1,this.2⟩
     ·cases this
    refine Aa (T:=Y) (sz:=1) rfl h0 hz c1 c2 (je (I:=I) hx) ?_ ?_ c3 hd fun b hb=> ?_
    ·rw[ZL];intro u hu;obtain⟨u0,hu0,rfl⟩:=ZW.1 hu;obtain⟨x,rfl,p1,p2⟩:=pl u0 hu0;obtain⟨q1,q2⟩:=lM (E:=E) (I:=I) p2;show((x.to E.toEnc I).okc && Nat.beq (x.to E.toEnc I).cells.length 1)=true;rw[q1,q2];rfl
    ·intro u hu;obtain⟨r,hr,hu⟩:=abe.1 hu;obtain⟨u1,hu1,rfl⟩:=ZW.1 hr;obtain⟨u0,hu0,rfl⟩:=ZW.1 hu1;obtain⟨x,rfl,p1,p2⟩:=pl u0 hu0;obtain⟨q1,q2⟩:=lM (E:=E) (I:=I) p2;have hu':u∈(x.to E.toEnc I).cells:=hu;rw[q1,aaJ] at hu';subst hu';exact TA.plain_to _ _ p1
    ·have:=h (upd I d b) (yM hi hn hb) (hA1 hmu d ⟨b,false,[]⟩ hnb);rw[cI,CW hlo hn,Mk] at this;refine hR.low this (fun F X tm hs=> ?_) rfl;refine hs.le2 rfl (fun t u' hu=>⟨u',hu,.refl _⟩) (fun q cs' hq=> ?_) (fun p hp=>hp);simp only[AS.put,AS.box,ae] at hq ⊢;split at hq
     ·rename_i e3;rw[ZI e3];cases hq;exact⟨_,rfl,KX hlo m1⟩
     ·rename_i e3;rw[ZH e3];exact⟨cs',hq,LeL.refl _⟩
   ·cases ht
  ·cases ht
 ·rename_i d t0 x;split at ht
  ·rename_i kk p hx;split at ht
   ·rename_i hd;cases ht;exact ko (Y:=Y) hi hG hA0 rfl hd h
   ·cases ht
  ·cases ht
 ·rename_i d x y t0 u;split at ht
  ·rename_i kk n c hx;split at ht
   ·rename_i e du ty' L h0 hu hb;split at ht
    ·rename_i m hc hm;simp only[Bool.and_eq_true] at hc;obtain⟨⟨⟨hlo,hs⟩,hnz⟩,hd⟩:=hc;obtain⟨by_,hz⟩:=pP hs;cases ht;obtain⟨l',hl',h⟩:=h;unfold YD at hl';split at hl'
     ·rename_i hr;cases hl';obtain⟨v,S,k1,k2,k3⟩:=uk (I:=I) hm;rw[SQ hlo] at k2;have hlk:=uI (I:=I) hi hlo hb
      refine zD (T:=Y) (m:=m.map (cells E.toEnc ty')) (aF (I:=I) hx) hlk (fN fun u hu=>by obtain⟨z,_,rfl⟩:=ZW.1 hu;exact n6 ty' z) h0 hu (by cases du<;> first|exact .inl rfl|exact .inr ⟨_,rfl⟩|cases hnz) hz (ra k1 k2 k3) (by simpa using hr.1) (by simpa using hr.2) hd (fun u hu=>by
       rw[zc hlo] at hu;obtain⟨z,_,rfl⟩:=ZW.1 hu;exact vi _ _ z) ?_
      have:=h I (j5 hi hb rfl) hA0;rw[cI,Jq,jv hlo] at this;rw[zc hlo,Z3];have e1:cF (L.map (one E.toEnc ty')) n (m.map (one E.toEnc ty'))=(L.take n++m++L.drop (n+m.length)).map (one E.toEnc ty'):=by unfold cF;rw[aah,aah,abu,abp,Z3]
      rw[e1];exact this
     ·cases hl'
    ·cases ht
   ·cases ht
  ·cases ht
 ·rename_i t0 x y;split at ht
  ·rename_i kk p hx;split at ht
   ·rename_i ty' L hb;split at ht
    ·rename_i a hc hy;split at ht
     ·rename_i v hv;cases ht;simp only[Bool.and_eq_true] at hc;obtain⟨hlo,hs⟩:=hc;obtain⟨by_,hz⟩:=pP hs;obtain⟨u,hu,hcs⟩:=aaz.1 hy;obtain⟨c1,c2,c3,c4⟩:=yh (I:=I) hcs;obtain⟨l',hl',h⟩:=h;unfold ja at hl';split at hl'
      ·rename_i hlt
       cases hl';have hlk:=uI (I:=I) hi hlo hb;have heff:=iv (P:=P) (T:=Y) (ty:=ty) (pos:=pos) (af:=af) (g:=g) (aF (I:=I) hx) hlk (aF (I:=I) hu) c1 hz (by rw[c2];rfl) c3 c4 (by rw[Z3];exact aaS hlt) (fN fun u hu=>by obtain⟨z,_,rfl⟩:=ZW.1 hu;exact n6 ty' z);refine heff _ ?_;have:=h I (j5 hi hb rfl) hA0;rw[Jq,jv hlo,<- FK hlt] at this
       refine hR.low this (fun F X tm hs=> ?_) rfl;refine hs.le2 rfl (fun t u' hu=>⟨u',hu,.refl _⟩) (fun q cs' hq=> ?_) (fun p hp=>hp);simp only[AS.setc,ae] at hq ⊢;split at hq
       ·rename_i e3;rw[ZI e3];cases hq;refine⟨_,rfl,?_⟩;rw[c2];have hle:Le1 (a.to E.toEnc I) (one E.toEnc ty' v):=by have h1:=y8 E.toEnc I hv;rw[TA.rd_to] at h1;exact(qO _).trans h1
        unfold cF;exact LeL.append (LeL.append (LeL.refl _) (.cons hle .nil)) (LeL.refl _)
       ·rename_i e3;rw[ZH e3];exact⟨cs',hq,LeL.refl _⟩
      ·cases hl'
     ·cases ht
    ·cases ht
   ·cases ht
  ·cases ht
 ·cases ht
def AP{k:Nat}{b:TB E.T}(hi:Inj I O.h)(hb:look O.h k=some b)(hl:bi I b=true):gy (I k) ((O.drpB k).to E.toEnc I).h:=by
 intro p hp e;obtain⟨q,hq,rfl⟩:=ZW.1 hp;obtain⟨hq1,hq2⟩:=Z2.1 hq;have hm:=ge q hq1;have:=(hi _ hm _ (db hb)).1 hq2 hl e;have hno:∀ {h:List (Nat × TB E.T)},q∈dropHH [k] h->q.1≠k:=by
  intro h
  induction h with
  |nil=>intro h;cases h
  |cons p r ih=>
   intro h;obtain⟨k0,b0⟩:=p;simp only[dropHH,jA] at h;cases e:Nat.beq k0 k with
   |true=>simp only[e] at h;exact ih h
   |false=>
    simp only[e] at h;rcases ZY.1 h with h|h
    ·rw[h];intro e2;rw[show k0=k from e2,aaL] at e;cases e
    ·exact ih h
 exact hno hq1 this
def nI{k d:Nat}(h:O.noId d=true):(O.drpB k).noId d=true:=by unfold TS.noId at h ⊢;simp only[Bool.and_eq_true] at h ⊢;obtain⟨⟨h1,h2⟩,h3⟩:=h;refine⟨⟨h1,ZL.2 fun p hp=>ZL.1 h2 p (ge p hp)⟩,ZL.2 fun p hp=>ZL.1 h3 p ?_⟩;exact(Z2.1 hp).1
def ug{k:Nat}(hi:Inj I O.h):Inj I (O.drpB k).h:=hi.sub fun p hp=>⟨p,ge p hp,rfl,rfl⟩
def uo{k:Nat}(hi:Inj I O.h){q:Nat}{cs:List AV}(h:look ((O.drpB k).to E.toEnc I).h q=some cs):look (O.to E.toEnc I).h q=some cs:=by obtain⟨i,b,h1,h2,h3,h4⟩:=iJ (ug (k:=k) hi) h;rw[<- h1,<- h3];exact dz E.toEnc hi (js h2).1 h4
def Pw{k:Nat}{p:Nat × Root}(h:p∈((O.drpB k).to E.toEnc I).e):p∈(O.to E.toEnc I).e:=by obtain⟨q,hq,rfl⟩:=ZW.1 h;exact ZW.2 ⟨q,(Z2.1 hq).1,rfl⟩
def zf{k d:Nat}{x:Bk}{ty:Ty}{l':List (Den E.T ty)}(hn:O.noId d=true)(hl:bi (dG I d x) (.vec d ty l':TB E.T)=true):(((O.drpB k).newB d (.vec d ty l')).put d (.a (.vec ty d l'.length)):TS E.T).to E.toEnc (dG I d x)=(((O.drpB k).to E.toEnc I).box x.b ((l'.map (cells E.toEnc ty)).flatten++x.sp.map AV.v)).put d (.v (vecV x (csz E.toEnc ty) l'.length)):=by rw[cI,oZ (nI hn) hl];simp only[TV.to,TA.to,TB.to,m0]
def HW{k d:Nat}{x:Bk}{ty:Ty}{l':List (Den E.T ty)}(hn:O.noId d=true)(hl:bi (dG I d x) (.vec d ty l':TB E.T)=false):(((O.drpB k).newB d (.vec d ty l')).put d (.a (.vec ty d l'.length)):TS E.T).to E.toEnc (dG I d x)=((O.drpB k).to E.toEnc I).put d (.v (vecV x (csz E.toEnc ty) l'.length)):=by
 rw[cI];have h1:=TS.updB_to (I:=I) (y:=x) (nI (k:=k) hn);have e:((O.drpB k).newB d (.vec d ty l'):TS E.T).to E.toEnc (dG I d x)=(O.drpB k).to E.toEnc I:=by rw[<- h1];unfold TS.to TS.newB;simp only[fo _ _ hl]
 rw[e];simp only[TV.to,TA.to,m0]
def Q3{x:Bk}{d:Nat}{ty:Ty}{l':List (Den E.T ty)}(h:(x.nil && Nat.beq l'.length 0)=false):bi (dG I d x) (.vec d ty l':TB E.T)=true:=by
 simp only[bi,m0];cases hx:x.nil with
 |false=>rfl
 |true=>
  rw[hx] at h;cases l' with
  |nil=>simp at h
  |cons=>rfl
def UX{x:Bk}{d:Nat}{ty:Ty}{l':List (Den E.T ty)}(h:(x.nil && Nat.beq l'.length 0)=true):bi (dG I d x) (.vec d ty l':TB E.T)=false:=by simp only[bi,m0];rw[ZT] at h;have:l'=[] :=aal.1 (ZK h.2);rw[h.1,this];rfl
def wb{t:Ty}{l:List (Den E.T t)}{sp:List Value}:io ((l.map (cells E.toEnc t)).flatten++sp.map AV.v):=fun u hu=>by
 rcases aaf.1 hu with hu|hu
 ·obtain⟨r,hr,hu⟩:=abe.1 hu;obtain⟨z,_,rfl⟩:=ZW.1 hr;have:=(jg E.toEnc t z u hu).2;cases u with
  |sl o sz l=>
   cases o with
   |false=>rfl
   |true=>cases this
  |_=>rfl
 ·obtain⟨v,_,rfl⟩:=ZW.1 hu;rfl
def eU{t:Ty}(l:List (Den E.T t)):(l.map (cells E.toEnc t)).flatten.length=l.length * csz E.toEnc t:=by
 induction l with
 |nil=>simp
 |cons a l ih=>rw[aap,aag,ZR,ih,eH,abm,aae];omega
def Lb{α:Type}{by_ n:Nat}{l m r:List α}(h:lg by_ n l m=some r):n=l.length/\0 < m.length/\(l.length+m.length) * by_<=140737488355328/\r=l++m:=by
 unfold lg at h;split at h
 ·rename_i hc;cases h;exact⟨hc.1,hc.2.1,hc.2.2,rfl⟩
 ·cases h
def qP(b:Bk)(sz n:Nat):((b.nil && Nat.beq n 0)=true/\n=0/\vecV b sz n=.slice (nS b.sp) 0 0)\/((b.nil && Nat.beq n 0)=false/\vecV b sz n=.slice (some ⟨b.b,0,none⟩) n (n+b.sp.length / sz)):=by
 cases h:(b.nil && Nat.beq n 0) with
 |true=>have h':=h;rw[ZT] at h';exact .inl ⟨rfl,ZK h'.2,by unfold vecV;rw[if_pos h]⟩
 |false=>exact .inr ⟨rfl,by unfold vecV;rw[if_neg (by rw[h];decide)]⟩
def LF{F:Nat->Prop}{X:GW}{k:Nat}{A B:List AV}(h:eN F X k (A++B))(hm:fU (A++B)=false):∃vs:List Value,vs.length=B.length/\eN F X k (A++vs.map AV.v):=by
 obtain⟨b1,b2,arr,e,fr,b3,b4,b5,b6⟩:=h.cells hm;rw[ZR] at b4;have hv:(arr.toList.drop A.length).length=B.length:=by rw[abd,aaW,b4];omega
 refine⟨arr.toList.drop A.length,hv,ef.box ⟨b1,b2,arr,e,fr,b3,?_,b5,fun o u x hu hx=> ?_⟩⟩
 ·rw[ZR,Z3,hv,b4]
 ·by_cases ho:o < A.length
  ·rw[ZO ho] at hu;exact b6 o u x (by rw[ZO ho];exact hu) hx
  ·rw[ZJ (by omega),aao,aaq,show A.length+ (o - A.length)=o by omega,aay,hx] at hu;cases hu;exact .v _
def LD{α:Type}{n:Nat}{l r:List α}{j:Int}(h:HC n l j=some r):∃m:Nat,j=(m:Int)/\n=l.length/\m<=l.length/\r=l.take m:=by
 unfold HC at h;split at h
 ·rename_i hc;cases h;exact⟨j.toNat,by omega,hc.1,by omega,rfl⟩
 ·cases h
def wh{t:Ty}{sp vs':List AV}{o:Nat}{z:Den E.T t}:∀ {l:List (Den E.T t)} {j:Nat},l[j]? =some z->o+vs'.length<=csz E.toEnc t->∀z',LeL (cF (cells E.toEnc t z) o vs') (cells E.toEnc t z')->LeL (cF ((l.map (cells E.toEnc t)).flatten++sp) (j * csz E.toEnc t+o) vs') (((l.set j z').map (cells E.toEnc t)).flatten++sp)
 | [],_,h,_,_,_=>by simp at h
 |a::l,0,h,ho,z',hz=>by
  simp only[List.getElem?_cons_zero,Option.some.injEq] at h;subst h;have hla:=eH E.toEnc t a;rw[abL,aap,aap,aag,aag,abg,Z6,aac,aac];unfold cF at hz ⊢;rw[List.take_append_of_le_length (by omega),List.drop_append_of_le_length (by omega),<- aac,<- aac,<- aac,aac _ _ sp]
  have:=LeL.append hz (LeL.refl ((l.map (cells E.toEnc t)).flatten++sp));simpa only[List.append_assoc] using this
 |a::l,j+1,h,ho,z',hz=>by
  have ih:=wh (l:=l) (j:=j) (sp:=sp) (by simpa using h) ho z' hz;have hla:=eH E.toEnc t a;rw[List.set_cons_succ,aap,aap,aag,aag,aac,aac];have e:(j+1) * csz E.toEnc t+o=(cells E.toEnc t a).length+ (j * csz E.toEnc t+o):=by rw[hla,aae];omega
  unfold cF at ih ⊢;rw[e,List.take_length_add_append,abM,List.drop_length_add_append,aac,aac];refine LeL.append (LeL.refl _) ?_;simpa only[List.append_assoc] using ih
def Lo{t:Tree (TS E.T)}(hi:Inj I O.h)(hG:GOk P Y E G)(hR:Low R)(hA0:A I)(hA1:Ll O o=true->∀d x,Nat.ble d 99999=true->A (dG I d x))(ht:Ol Y E o O=some t)(h:t.holds (OnE E R A)):dM P o (O.to E.toEnc I) R:=by
 obtain⟨dst,op,ty,pos,af,g⟩:=o;unfold Ol at ht;simp only at ht;split at ht
 ·rename_i d x y t u;split at ht
  ·rename_i vt k n hx;split at ht
   ·rename_i e du l w h0 hu hv hy;split at ht
    ·rename_i m sz by_ hm hz;split at ht
     ·rename_i hc;cases ht;simp only[Bool.and_eq_true] at hc;obtain⟨⟨⟨⟨c1,c2⟩,c3⟩,c4⟩,⟨c5,c6⟩,c7⟩:=hc;have c1:=ZK c1;subst c1;obtain⟨l',hl',h⟩:=h;obtain⟨hn,hm0,hfit,rfl⟩:=Lb hl';subst hn;obtain⟨e2,rfl⟩:=ev hm;obtain⟨wt,wl⟩:=w;simp only at e2;cases e2;obtain⟨ow,hy'⟩:=pK (I:=I) hy;simp only at hy' hm0 hfit h ⊢;have hx':=aF (I:=I) hx
      simp only[TV.to,TA.to] at hx';have hnz:du=.string\/∃e',du=.slice e':=by cases du<;> first|exact .inl rfl|exact .inr ⟨_,rfl⟩|cases c2
      have hone:∀r∈wl.map (cells E.toEnc vt),∀u∈r,u.one=true:=fun r hr u hu=>by obtain⟨z,_,rfl⟩:=ZW.1 hr;exact(jg E.toEnc vt z u hu).1
      have hsrc:∀F X (a:Act),SimE F X (O.to E.toEnc I) a.tmps->∃vs,SrcA P X (csz E.toEnc vt) wl.length wl.length (wl.map (cells E.toEnc vt)).flatten (a.eval y) vs:=fun F X a hs=>by obtain⟨vs,hvs⟩:=JY (P:=P) (ZS c4) (cC hs hy') hone;rw[Z3] at hvs;exact⟨vs,hvs⟩
      have hplu:io (wl.map (cells E.toEnc vt)).flatten:=fun u hu=>wb (l:=wl) (sp:=[]) u (by rw[abP,aax];exact hu);have hplo:io (l.map (cells E.toEnc vt)).flatten:=fun u hu=>wb (l:=l) (sp:=[]) u (by rw[abP,aax];exact hu);have hnl:(l++wl).length=l.length+wl.length:=ZR
      have hflat:((l++wl).map (cells E.toEnc vt)).flatten=(l.map (cells E.toEnc vt)).flatten++ (wl.map (cells E.toEnc vt)).flatten:=by rw[aah,abn]
      have fin:∀ (k' cap:Nat) (sp:List Value),gy k' (O.to E.toEnc I).h->l.length+wl.length<=cap->((l.map (cells E.toEnc vt)).flatten++ (wl.map (cells E.toEnc vt)).flatten++sp.map AV.v).length=cap * csz E.toEnc vt->R (((O.to E.toEnc I).box k' ((l.map (cells E.toEnc vt)).flatten++ (wl.map (cells E.toEnc vt)).flatten++sp.map AV.v)).put d (.v (.slice (some ⟨k',0,none⟩) (l.length+wl.length) cap))):=fun k' cap sp hk hcap hlen=>by
       have hne:((⟨k',false,sp⟩:Bk).nil && Nat.beq (l++wl).length 0)=false:=rfl;have hin:Inj (dG I d ⟨k',false,sp⟩) (((O.drpB k).newB d (.vec d vt (l++wl))).put d (.a (.vec vt d (l++wl).length)):TS E.T).h:=ik (ug hi) (nI c5) fun _ p hp=>hk p (by obtain⟨q,hq,rfl⟩:=ZW.1 hp;obtain⟨hq1,hq2⟩:=Z2.1 hq;exact xg (ge q hq1) hq2)
       have:=h _ hin (hA1 (by unfold Ll;simp only[hx];rfl) d _ c6);rw[zf c5 (Q3 hne)] at this;refine hR.low this (fun F X tm hs=> ?_) rfl;have hval:vecV (⟨k',false,sp⟩:Bk) (csz E.toEnc vt) (l++wl).length=.slice (some ⟨k',0,none⟩) (l.length+wl.length) cap:=by
        rcases qP ⟨k',false,sp⟩ (csz E.toEnc vt) (l++wl).length with ⟨q1,_⟩| ⟨_,q2⟩
        ·rw[hne] at q1;cases q1
        ·rw[q2,hnl];have hsz:=ZS c4;have:sp.length=(cap - (l.length+wl.length)) * csz E.toEnc vt:=by rw[ZR,ZR,eU,eU,Z3,<- aae] at hlen;rw[Nat.sub_mul];omega
         rw[show(⟨k',false,sp⟩:Bk).sp=sp from rfl,this,Nat.mul_div_cancel _ (by omega)]
         congr 1;omega
       rw[hval,hflat];refine hs.le2 rfl (fun t u' hu=>⟨u',hu,.refl _⟩) (fun q cs' hq=> ?_) (fun p hp=> ?_)
       ·simp only[AS.put,AS.box,ae] at hq ⊢;split at hq
        ·rename_i e3;rw[ZI e3];cases hq;exact⟨_,rfl,LeL.refl _⟩
        ·rename_i e3;rw[ZH e3];exact⟨cs',uo hi hq,LeL.refl _⟩
       ·simp only[AS.put,AS.box] at hp ⊢;obtain⟨hp1,hp2⟩:=Z2.1 hp;exact Z2.2 ⟨Pw hp1,hp2⟩
      rcases qP (I.k k) (csz E.toEnc vt) l.length with ⟨q1,q2,q3⟩| ⟨q1,q3⟩
      ·rw[q3] at hx';have hl0:l=[] :=aal.1 q2;subst hl0;refine pn (T:=Y) (olds:=[]) (us:=(wl.map (cells E.toEnc vt)).flatten) (N:=wl.length) (n:=0) (c:=0) (Sv hx') (by simp) h0 hu hnz hz (ZS c3) hsrc (by omega) (by simpa using hfit) hplu (fun u hu=>by cases hu) c7 fun k' cap sp hk h1 h2=> ?_
       have:=fin k' cap sp hk (by simpa using h1) (by simpa using h2);simpa using this
      ·rw[q3] at hx';replace hx':opV (O.to E.toEnc I) x=some (.v (.slice (some ⟨I k,0,none⟩) l.length (l.length+ (I.k k).sp.length / csz E.toEnc vt))):=hx';have hlv:bi I (.vec k vt l:TB E.T)=true:=by
        simp only[bi];cases hnn:(I.k k).nil with
        |false=>rfl
        |true=>
         rw[hnn] at q1;cases l with
         |nil=>simp at q1
         |cons=>rfl
       have hb:=dz E.toEnc hi (iB hv) hlv;have hb':look (O.to E.toEnc I).h (I k)=some ((l.map (cells E.toEnc vt)).flatten++ (I.k k).sp.map AV.v):=hb;have hfl:=eU l;have htake:((l.map (cells E.toEnc vt)).flatten++ (I.k k).sp.map AV.v).take (l.length * csz E.toEnc vt)=(l.map (cells E.toEnc vt)).flatten:=by rw[<- hfl,List.take_left]
       by_cases hroom:l.length+wl.length<=l.length+ (I.k k).sp.length / csz E.toEnc vt
       ·have hsz:=ZS c4;have hroom2:wl.length * csz E.toEnc vt<=(I.k k).sp.length:=by
         have h1:wl.length<=(I.k k).sp.length / csz E.toEnc vt:=by omega
         exact aaM (aaa _ h1) (Nat.div_mul_le_self _ _)
        refine Ab (T:=Y) (N:=wl.length) (us:=(wl.map (cells E.toEnc vt)).flatten) hx' hb' (fN jx) h0 hu hnz hz hsrc hroom (by rw[ZR,hfl,Z3];omega) hplu c7 ?_;have hne:((⟨I k,false,(I.k k).sp.drop (wl.length * csz E.toEnc vt)⟩:Bk).nil && Nat.beq (l++wl).length 0)=false:=rfl
        have hin:Inj (dG I d ⟨I k,false,(I.k k).sp.drop (wl.length * csz E.toEnc vt)⟩) (((O.drpB k).newB d (.vec d vt (l++wl))).put d (.a (.vec vt d (l++wl).length)):TS E.T).h:=ik (ug hi) (nI c5) fun _=>AP hi (iB hv) hlv;have:=h _ hin (hA1 (by unfold Ll;simp only[hx];rfl) d _ c6);rw[zf c5 (Q3 hne)] at this
        refine hR.low this (fun F X tm hs=> ?_) rfl;have hval:vecV (⟨I k,false,(I.k k).sp.drop (wl.length * csz E.toEnc vt)⟩:Bk) (csz E.toEnc vt) (l++wl).length=.slice (some ⟨I k,0,none⟩) (l.length+wl.length) (l.length+ (I.k k).sp.length / csz E.toEnc vt):=by
         rcases qP ⟨I k,false,(I.k k).sp.drop (wl.length * csz E.toEnc vt)⟩ (csz E.toEnc vt) (l++wl).length with ⟨q1,_⟩| ⟨_,q2⟩
         ·rw[hne] at q1;cases q1
         ·rw[q2,hnl];have e1:(⟨I k,false,(I.k k).sp.drop (wl.length * csz E.toEnc vt)⟩:Bk).sp.length=(I.k k).sp.length - wl.length * csz E.toEnc vt:=abd;have e3:((I.k k).sp.length - wl.length * csz E.toEnc vt) / csz E.toEnc vt=(I.k k).sp.length / csz E.toEnc vt - wl.length:=by rw[aa5];exact Nat.sub_mul_div _ _ _
          rw[e1,e3]
          congr 1
          generalize (I.k k).sp.length / csz E.toEnc vt=q at hroom ⊢;omega
        have hspl:cF ((l.map (cells E.toEnc vt)).flatten++ (I.k k).sp.map AV.v) (l.length * csz E.toEnc vt) (wl.map (cells E.toEnc vt)).flatten=(l.map (cells E.toEnc vt)).flatten++ (wl.map (cells E.toEnc vt)).flatten++ ((I.k k).sp.drop (wl.length * csz E.toEnc vt)).map AV.v:=by
         unfold cF;rw[htake,eU wl,<- hfl,List.drop_append,aaO (by omega),aba,List.nil_append,abp]
        rw[hval,hflat];rw[hspl] at hs;refine hs.le2 rfl (fun t u' hu=>⟨u',hu,.refl _⟩) (fun q cs' hq=> ?_) (fun p hp=> ?_)
        ·simp only[AS.put,AS.box,AS.setc,ae] at hq ⊢;split at hq
         ·rename_i e3;rw[ZI e3];cases hq;exact⟨_,rfl,LeL.refl _⟩
         ·rename_i e3;rw[ZH e3];exact⟨cs',uo hi hq,LeL.refl _⟩
        ·simp only[AS.put,AS.box,AS.setc,AS.dropC] at hp ⊢;obtain⟨hp1,hp2⟩:=Z2.1 hp;refine Z2.2 ⟨?_,hp2⟩;have e4:((O.drpB k).to E.toEnc I).e=(O.to E.toEnc I).dropC.e:=(gZ O.e).symm;rw[e4] at hp1;exact hp1
       ·refine pn (T:=Y) (olds:=(l.map (cells E.toEnc vt)).flatten) (us:=(wl.map (cells E.toEnc vt)).flatten) (N:=wl.length) (n:=l.length) (c:=l.length+ (I.k k).sp.length / csz E.toEnc vt) ?_ hfl h0 hu hnz hz (ZS c3) hsrc (by omega) hfit hplu hplo c7 fun k' cap sp hk h1 h2=> ?_
        ·have:=SC (P:=P) (sz:=csz E.toEnc vt) hx' hb' (fN jx) (by rw[ZR,hfl];omega) (fun u hu=>by
          rw[htake] at hu;obtain⟨r,hr,hu⟩:=abe.1 hu;obtain⟨z,_,rfl⟩:=ZW.1 hr;exact(jg E.toEnc vt z u hu).1)
         rw[htake] at this;exact this
        ·exact fin k' cap sp hk h1 h2
     ·cases ht
    ·cases ht
   ·cases ht
  ·cases ht
 ·rename_i d t x hi';split at ht
  ·rename_i vt k n hx;split at ht
   ·rename_i e l j h0 hv hj;split at ht
    ·rename_i hc;cases ht;simp only[Bool.and_eq_true] at hc;obtain⟨⟨c1,c0⟩,⟨c5,c6⟩,c7⟩:=hc;have c0:=ZS c0;obtain⟨by_,hz⟩:=u6 c1;obtain⟨l',hl',h⟩:=h;obtain⟨m,rfl,hn,hm,rfl⟩:=LD hl';subst hn;have hx':=aF (I:=I) hx;simp only[TV.to,TA.to] at hx';have hlt:(l.take m).length=m:=by rw[aa2];omega
     have hcr:Ll O ⟨some d,.slice t x none (some hi') none,ty,pos,af,g⟩=true:=by unfold Ll;simp only[hx];rfl
     rcases qP (I.k k) (csz E.toEnc vt) l.length with ⟨q1,q2,q3⟩| ⟨q1,q3⟩
     ·rw[q3] at hx';have hm0:m=0:=by omega
      subst hm0;have hop:=tU (P:=P) (Y:=Y) (dd:=some d) (ty:=ty) (pos:=pos) (af:=af) (g:=g) (j:=0) hx' h0 hz (dO hj) (by omega);have hv0:(Value.slice (if(0:Nat)=0 then nS (I.k k).sp else(nS (I.k k).sp).map (·.add (0 * csz E.toEnc vt))) (0 - 0) (0 - 0))=.slice (nS (I.k k).sp) 0 0:=rfl;rw[hv0] at hop;refine tB rfl c7 hop ?_
      have hdd:((⟨0,true,(I.k k).sp⟩:Bk).nil && Nat.beq (l.take 0).length 0)=true:=by simp
      have hin:Inj (dG I d ⟨0,true,(I.k k).sp⟩) (((O.drpB k).newB d (.vec d vt (l.take 0))).put d (.a (.vec vt d (l.take 0).length)):TS E.T).h:=ik (ug hi) (nI c5) fun hl=>by have hl':bi (dG I d ⟨0,true,(I.k k).sp⟩) (.vec d vt (l.take 0):TB E.T)=true:=hl;rw[UX hdd] at hl';cases hl'
      have:=h _ hin (hA1 hcr d _ c6);rw[HW c5 (UX hdd)] at this;refine hR.low this (fun F X tm hs=> ?_) rfl;have hval:vecV (⟨0,true,(I.k k).sp⟩:Bk) (csz E.toEnc vt) (l.take 0).length=.slice (nS (I.k k).sp) 0 0:=by unfold vecV;rw[if_pos hdd]
      rw[hval];refine hs.le2 rfl (fun t u' hu=>⟨u',?_,.refl _⟩) (fun q cs' hq=>⟨cs',uo hi hq,LeL.refl _⟩) (fun p hp=> ?_)
      ·exact hu
      ·obtain⟨hp1,hp2⟩:=Z2.1 hp;exact Z2.2 ⟨Pw hp1,hp2⟩
     ·rw[q3] at hx';replace hx':opV (O.to E.toEnc I) x=some (.v (.slice (some ⟨I k,0,none⟩) l.length (l.length+ (I.k k).sp.length / csz E.toEnc vt))):=hx';have hlv:bi I (.vec k vt l:TB E.T)=true:=by
       simp only[bi];cases hnn:(I.k k).nil with
       |false=>rfl
       |true=>
        rw[hnn] at q1;cases l with
        |nil=>simp at q1
        |cons=>rfl
      have hb':look (O.to E.toEnc I).h (I k)=some ((l.map (cells E.toEnc vt)).flatten++ (I.k k).sp.map AV.v):=dz E.toEnc hi (iB hv) hlv
      have hsplit:(l.map (cells E.toEnc vt)).flatten++ (I.k k).sp.map AV.v=((l.take m).map (cells E.toEnc vt)).flatten++ (((l.drop m).map (cells E.toEnc vt)).flatten++ (I.k k).sp.map AV.v):=by rw[<- aac,<- abn,<- aah,List.take_append_drop]
      have hop:=tU (P:=P) (Y:=Y) (dd:=some d) (ty:=ty) (pos:=pos) (af:=af) (g:=g) (j:=m) hx' h0 hz (dO hj) (aaM hm (abf _ _))
      have hval0:(Value.slice (if l.length+ (I.k k).sp.length / csz E.toEnc vt=0 then some ⟨I k,0,none⟩ else(some (⟨I k,0,none⟩:Addr)).map (·.add (0 * csz E.toEnc vt))) (m - 0) (l.length+ (I.k k).sp.length / csz E.toEnc vt - 0))=.slice (some ⟨I k,0,none⟩) m (l.length+ (I.k k).sp.length / csz E.toEnc vt):=by
       rw[aa8,e9,abg,aa6,ite_self,aaX,aaX]
      rw[hval0] at hop;intro F X a hs;refine(hop F X a (hs.r _)).mono fun xv w' ⟨X',h1,h2,h3,h4,h5⟩=> ?_;have hput:=hs.put_new (bJ c7) h2 h3 h4 h5;have hbox:=hput.box (I k) _ hb';rw[hsplit] at hbox;obtain⟨vs,hvs,hbox2⟩:=LF hbox (by rw[<- hsplit];exact fN jx)
      have hin:Inj (dG I d ⟨I k,false,vs⟩) (((O.drpB k).newB d (.vec d vt (l.take m))).put d (.a (.vec vt d (l.take m).length)):TS E.T).h:=ik (ug hi) (nI c5) fun _=>AP hi (iB hv) hlv;have hne:((⟨I k,false,vs⟩:Bk).nil && Nat.beq (l.take m).length 0)=false:=rfl;have:=h _ hin (hA1 hcr d _ c6);rw[zf c5 (Q3 hne)] at this
      refine⟨X',_,h1,this,?_,h2.ext hs.gb hs.fb⟩;have hval:vecV (⟨I k,false,vs⟩:Bk) (csz E.toEnc vt) (l.take m).length=.slice (some ⟨I k,0,none⟩) m (l.length+ (I.k k).sp.length / csz E.toEnc vt):=by
       rcases qP ⟨I k,false,vs⟩ (csz E.toEnc vt) (l.take m).length with ⟨q1,_⟩| ⟨_,q2⟩
       ·rw[hne] at q1;cases q1
       ·rw[q2,hlt];have e1:(⟨I k,false,vs⟩:Bk).sp.length=(I.k k).sp.length+ (l.length - m) * csz E.toEnc vt:=by show vs.length=_;rw[hvs,ZR,eU,abd,Z3];omega
        rw[e1]
        congr 1
        rw[Nat.add_mul_div_right _ _ (by omega)];generalize (I.k k).sp.length / csz E.toEnc vt=q;omega
      rw[hval];refine SimE.rebox (O:=(O.to E.toEnc I).put d (.v (.slice (some ⟨I k,0,none⟩) m (l.length+ (I.k k).sp.length / csz E.toEnc vt)))) hput rfl (fun t u' hu=>⟨u',hu,.inl (.refl _)⟩) (fun q cs' hq=> ?_) (fun p hp=> ?_)
      ·simp only[AS.put,AS.box,ae] at hq;split at hq
       ·rename_i e3;cases hq;right;rw[show q=I k from e3];exact⟨hbox2,wb⟩
       ·exact .inl ⟨cs',uo hi hq,LeL.refl _⟩
      ·obtain⟨hp1,hp2⟩:=Z2.1 hp;exact Z2.2 ⟨Pw hp1,hp2⟩
    ·cases ht
   ·cases ht
  ·cases ht
 ·rename_i t x y;split at ht
  ·rename_i vt k j o hx;split at ht
   ·rename_i l n by_ vs hv hz hy;split at ht
    ·rename_i hc;cases ht;rw[ZT] at hc;have hn:=ZK hc.1;have ho:=ZS hc.2;subst hn;obtain⟨z,hz',h⟩:=h;simp only at h;split at h
     ·rename_i z' hpk;obtain⟨u,hu,hcs⟩:=aaz.1 hy;obtain⟨c1,c2,c3,c4⟩:=yh (I:=I) hcs;have hl:l≠[] :=fun e=>by rw[e] at hz';simp at hz'
      have hb:=qo hi hv hl;have hlen:=(vm ((I.k k).sp.map AV.v) hz').2;have heff:=iv (P:=P) (T:=Y) (ty:=ty) (pos:=pos) (af:=af) (g:=g) (aF (I:=I) hx) hb (aF (I:=I) hu) c1 hz (by rw[c2,Z3];exact aaL _) c3 c4 (aaS (by omega)) (fN jx);refine heff _ ?_;have hset:(l.set j z')≠[] :=fun e=>hl (by simpa using e)
      have hlv:bi I (.vec k vt (l.set j z'):TB E.T)=true:=by
       cases hq:l.set j z' with
       |nil=>exact absurd hq hset
       |cons=>simp[bi]
      have hlv0:bi I (.vec k vt l:TB E.T)=true:=by
       cases l with
       |nil=>exact absurd rfl hl
       |cons=>simp[bi]
      have:=h I (j5 hi (iB hv) (hlv0.trans hlv.symm)) hA0;refine hR.low this (fun F X tm hs=> ?_) rfl;have hle:LeL (cF (cells E.toEnc vt z) o ((u.to E.toEnc I).rd.cells)) (cells E.toEnc vt z'):=by have h1:=Io E I hpk;rw[abP,aax] at h1;have h2:=(ju (I:=I) (spl (cL E vt z) o vs)).trans h1;rw[rC,tP,<- c2] at h2;exact h2
      have hfin:=wh (sp:=(I.k k).sp.map AV.v) hz' (by rw[c2,Z3];exact ho) z' hle;have e5:(O.setv k vt (l.set j z')).to E.toEnc I=(O.to E.toEnc I).setc (I k) (((l.set j z').map (cells E.toEnc vt)).flatten++ (I.k k).sp.map AV.v):=by
       unfold TS.to TS.setv AS.setc AS.dropC;simp only[dS _ _ hlv]
       congr 1
       exact(gZ O.e).symm
      rw[e5];refine hs.le2 rfl (fun t u' hu=>⟨u',hu,.refl _⟩) (fun q cs' hq=> ?_) (fun p hp=>hp);simp only[AS.setc,ae] at hq ⊢;split at hq
      ·rename_i e3;rw[ZI e3];cases hq;exact⟨_,rfl,hfin⟩
      ·rename_i e3;rw[ZH e3];exact⟨cs',hq,LeL.refl _⟩
     ·cases h
    ·cases ht
   ·cases ht
  ·cases ht
 ·cases ht
def BG{α:Type}{off n:Nat}{l m:List α}(h:Fa off n l=some m):off+n<=l.length/\m=(l.drop off).take n:=by
 unfold Fa at h;split at h
 ·rename_i hc;cases h;exact⟨hc,rfl⟩
 ·cases h
def vA{t:Ty}:∀ (l:List (Den E.T t)) (i:Nat),((l.map (cells E.toEnc t)).flatten).drop (i * csz E.toEnc t)=((l.drop i).map (cells E.toEnc t)).flatten
 |l,0=>by rw[abg,abl,abl]
 | [],i+1=>by simp
 |a::l,i+1=>by rw[aap,aag,List.drop_succ_cons,<- vA l i,show(i+1) * csz E.toEnc t=(cells E.toEnc t a).length+i * csz E.toEnc t by rw[eH,aae,abT,abO],List.drop_append];simp
def vh{t:Ty}:∀ (l:List (Den E.T t)) (i:Nat),((l.map (cells E.toEnc t)).flatten).take (i * csz E.toEnc t)=((l.take i).map (cells E.toEnc t)).flatten
 |l,0=>by rw[abg,abI,abI];rfl
 | [],i+1=>by simp
 |a::l,i+1=>by rw[aap,aag,List.take_succ_cons,aap,aag,<- vh l i,show(i+1) * csz E.toEnc t=(cells E.toEnc t a).length+i * csz E.toEnc t by rw[eH,aae,abT,abO],List.take_append,aan (abf _ _),aba]
def KD{X:GW}{sz N:Nat}{m:List (List AV)}{x:Value}{vs:List Value}(h0:0 < sz)(h:SrcA P X sz N N m.flatten x vs)(hm:∀r∈m,r.length=sz)(hN:m.length=N):AddsA P X sz m x (fun i j=>vs.getD (i * sz+j) undef):=by
 have hrow:rowCells sz N (fun i j=>vs.getD (i * sz+j) undef)=vs:=by
  apply aa9;intro q;unfold rowCells;rw[aao];by_cases hq:q < N * sz
  ·rw[List.getElem?_range hq];simp only[Option.map_some];rw[Nat.div_add_mod' q sz,Z5,ZE (by rw[h.lv];exact hq)];rfl
  ·rw[abi (by rw[List.length_range];omega),abi (by rw[h.lv];omega)];rfl
 subst hN;refine⟨h.len,fun w' hw=>by rw[hrow];exact h.first w' hw,hm,fun i j r u hi hj=> ?_,fun v hv=>by rw[hrow] at hv;exact h.one v hv⟩;have k1:=yN hm hi hj;have hlt:=(ZD.1 k1).1;have hlt2:i * sz+j < vs.length:=by rw[h.lv,<- h.lu];exact hlt
 rw[Z5,ZE hlt2];exact h.rel _ _ _ k1 (ZE hlt2)
def Rl(hi:Inj I O.h){y:Operand}{ty:Ty}{k off n:Nat}{l:List (Den E.T ty)}(hy:A9 (opT O y)=some (ty,k,off,n))(hv:pm O.h ty k=some l)(hl:off+n<=l.length)(h0:0 < csz E.toEnc ty):∀F X (a:Act),SimE F X (O.to E.toEnc I) a.tmps->∃c,AddsA P X (csz E.toEnc ty) (((l.drop off).take n).map (cells E.toEnc ty)) (a.eval y) c:=by
 intro F X a hs;have hval:(∃ad c,n=0/\a.eval y=.slice ad 0 c)\/(0 < n/\∃c,a.eval y=.slice (some ⟨I k,off * csz E.toEnc ty,none⟩) n c):=by
  have key:∀v,opV (O.to E.toEnc I) y=some (.v v)->a.eval y=v:=fun v h=>cE (cC hs h);unfold A9 at hy;split at hy
  ·rename_i t' k' off' n' hx;cases hy;have e:=key _ (aF (I:=I) hx);rw[e];unfold pc;split
   ·rename_i hc;rw[ZT] at hc;have:=ZK hc.2;exact .inl ⟨_,0,by omega,rfl⟩
   ·rcases abx n with h|h
    ·subst h;exact .inl ⟨_,_,rfl,rfl⟩
    ·refine .inr ⟨h,n+ (I.k k).sp.length / csz E.toEnc ty,?_⟩;rw[ZH (fun e=>by generalize (I.k k).sp.length / csz E.toEnc ty=q at e;omega)];rfl
  ·rename_i t' k' n' hx;cases hy;have e:=key _ (aF (I:=I) hx);rw[e];unfold vecV;split
   ·rename_i hc;rw[ZT] at hc;exact .inl ⟨_,0,ZK hc.2,rfl⟩
   ·rcases abx n with h|h
    ·subst h;exact .inl ⟨_,_,rfl,rfl⟩
    ·exact .inr ⟨h,n+ (I.k k).sp.length / csz E.toEnc ty,by rw[abg];rfl⟩
  ·cases hy
 rcases hval with ⟨ad,c,hn,e⟩| ⟨hn,c,e⟩
 ·subst hn;rw[e,abI];exact u5 (o:=false) (.nl _ _ _ _) (by simp)
 ·rw[e];have hne:l≠[] :=fun e2=>by rw[e2] at hl;simp at hl;omega
  have hb:=qo hi hv hne;have hfl:((l.map (cells E.toEnc ty)).flatten++ (I.k k).sp.map AV.v).drop (off * csz E.toEnc ty)=((l.drop off).map (cells E.toEnc ty)).flatten++ (I.k k).sp.map AV.v:=by rw[List.drop_append_of_le_length (by rw[eU];exact aaa _ (by omega)),vA]
  have htk:(((l.map (cells E.toEnc ty)).flatten++ (I.k k).sp.map AV.v).drop (off * csz E.toEnc ty)).take (n * csz E.toEnc ty)=(((l.drop off).take n).map (cells E.toEnc ty)).flatten:=by rw[hfl,List.take_append_of_le_length (by rw[eU,abd];exact aaa _ (by omega)),vh]
  obtain⟨vs,hvs⟩:=GF (P:=P) (sz:=csz E.toEnc ty) (off:=off * csz E.toEnc ty) (n:=n) (c:=c) (q:=n) hs hb (fN jx) (by rw[ZR,eU,<- aae];exact aaM (aaa _ hl) (abf _ _)) (fun u hu=>by rw[htk] at hu;obtain⟨r,hr,hu⟩:=abe.1 hu;obtain⟨z,_,rfl⟩:=ZW.1 hr;exact(jg E.toEnc ty z u hu).1);rw[htk] at hvs
  exact⟨_,KD h0 hvs (fun r hr=>by obtain⟨z,_,rfl⟩:=ZW.1 hr;exact eH _ _ _) (by rw[Z3,aa2,abd];omega)⟩
def KW{t:Tree (TS E.T)}(hi:Inj I O.h)(hA0:A I)(ht:Qv Y E o O=some t)(h:t.holds (OnE E R A)):dM P o (O.to E.toEnc I) R:=by
 obtain⟨dst,op,oty,pos,af,g⟩:=o;unfold Qv at ht;simp only at ht;split at ht
 ·rename_i d s y t' u;split at ht
  ·rename_i ty k off n r hy hr;split at ht
   ·rename_i w l how hv;split at ht
    ·rename_i L e e' hL ht' hu';split at ht
     ·rename_i sz by_ hz;split at ht
      ·rename_i hc;cases ht;simp only[Bool.and_eq_true] at hc;obtain⟨⟨c1,c2⟩,c3,c4⟩:=hc;have c1:=ZK c1;subst c1;obtain⟨m,hm,r',hr',h⟩:=h;obtain⟨hl,rfl⟩:=BG hm;obtain⟨h1,h2⟩:=n4 hr';obtain⟨wt,wl⟩:=w;obtain⟨e2,rfl⟩:=ev hL;simp only at e2;cases e2
       have heff:=zW (P:=P) (T:=Y) (O:=O.to E.toEnc I) (d:=d) (ty:=oty) (pos:=pos) (af:=af) (g:=g) (m:=((l.drop off).take n).map (cells E.toEnc ty)) (tY hr) (yz O hi how) ht' hu' (.inr ⟨_,rfl⟩) hz c2 (Rl hi hy hv hl (ZS c3)) (by simpa using h1) c4 (R:=R);refine heff ?_;have:=h I (Ej hi r) hA0;rw[cI,uz,CT O hi how,h2] at this
       have e3:(TV.a (TA.own ty (wl++ (l.drop off).take n)):TV E.T).to E.toEnc I=.sl true (csz E.toEnc ty) (wl.map (cells E.toEnc ty)++ ((l.drop off).take n).map (cells E.toEnc ty)):=by show AV.sl true _ (List.map _ (wl++ (l.drop off).take n))=_;rw[aah]
       rw[e3] at this;exact this
      ·cases ht
     ·cases ht
    ·cases ht
   ·cases ht
  ·cases ht
 ·cases ht
def LP{α:Type}{off n:Nat}{l r:List α}{z:α}(h:Wc off n l z=some r):0 < n/\off+n<=l.length/\r=l.take off++List.replicate n z++l.drop (off+n):=by
 unfold Wc at h;split at h
 ·rename_i hc;cases h;exact⟨hc.1,hc.2,rfl⟩
 ·cases h
def nq(zs:Array Value):∀n:Nat,(Builtin.zeroCells zs n).toList=(List.replicate n zs.toList).flatten
 |0=>by simp[Builtin.zeroCells]
 |n+1=>by
  rw[show List.replicate (n+1) zs.toList=List.replicate n zs.toList++ [zs.toList] from List.replicate_succ',abn,<- nq zs n];apply aa9;intro i;have hs1:(Builtin.zeroCells zs n).toList.length=n * zs.size:=by simp[Builtin.zeroCells]
  have e1:∀m,(Builtin.zeroCells zs m).toList[i]? =if i < m * zs.size then some (zs[i % zs.size]!) else none:=fun m=>by
   rw[aay];unfold Builtin.zeroCells;rw[Array.getElem?_map];by_cases hi:i < m * zs.size
   ·rw[ZI hi,ZV (by simpa using hi)];simp
   ·rw[ZH hi,aa0 (by simpa using hi)];rfl
  rw[e1];by_cases hi:i < n * zs.size
  ·rw[ZI (by rw[aae];omega),ZO (by omega),e1,ZI hi]
  ·rw[ZJ (by omega),hs1];simp only[List.flatten_cons,List.flatten_nil,List.append_nil];by_cases hi2:i < (n+1) * zs.size
   ·rw[ZI hi2];have h3:i - n * zs.size < zs.size:=by rw[aae] at hi2;omega
    have h4:i % zs.size=i - n * zs.size:=by
     obtain⟨q,rfl⟩:∃q,i=n * zs.size+q:=⟨i - n * zs.size,by omega⟩
     rw[aba] at h3 ⊢;rw[aa5,Nat.mul_add_mod,abD h3]
    rw[h4,aay,ZV h3,getElem!_pos zs _ h3]
   ·rw[ZH hi2,aay,aa0 (by rw[aae] at hi2;omega)]
def LeL.rep{A B:List AV}(h:LeL A B):∀n:Nat,LeL (List.replicate n A).flatten (List.replicate n B).flatten
 |0=>LeL.refl _
 |n+1=>by rw[List.replicate_succ,List.replicate_succ,aag,aag];exact LeL.append h (LeL.rep h n)
def KI{t:Tree (TS E.T)}(hi:Inj I O.h)(hR:Low R)(hA0:A I)(ht:Ro Y E o O=some t)(h:t.holds (OnE E R A)):dM P o (O.to E.toEnc I) R:=by
 obtain⟨dst,op,oty,pos,af,g⟩:=o;unfold Ro at ht;simp only at ht;split at ht
 ·rename_i x t';split at ht
  ·rename_i ty k off n e hx h0;split at ht
   ·rename_i l zv hv hz;split at ht
    ·rename_i z hpk hone hsz;cases ht;have hsz:=ZK hsz;obtain⟨l',hl',h⟩:=h;obtain⟨hn,hle,rfl⟩:=LP hl';have hl:l≠[] :=fun e=>by rw[e] at hle;simp at hle;omega
     have hb:=qo hi hv hl;have hx':=aF (I:=I) hx;have hval:(TV.a (TA.vsl ty k off n):TV E.T).to E.toEnc I=.v (.slice (some ⟨I k,off * csz E.toEnc ty,none⟩) n (n+ (I.k k).sp.length / csz E.toEnc ty)):=by
      show AV.v (pc _ _ _ _)=_;unfold pc;have h1:Nat.beq (off+n) 0=false:=by
       cases hb:Nat.beq (off+n) 0 with
       |false=>rfl
       |true=>have:=ZK hb;omega
      rw[h1,abz,ZH (by decide),ZH (fun e=>by generalize (I.k k).sp.length / csz E.toEnc ty=q at e;omega)];rfl
     rw[hval] at hx';have hlen:((l.map (cells E.toEnc ty)).flatten++ (I.k k).sp.map AV.v).length=l.length * csz E.toEnc ty+ (I.k k).sp.length:=by rw[ZR,eU,Z3]
     have hmul:off * csz E.toEnc ty+n * csz E.toEnc ty<=l.length * csz E.toEnc ty:=by rw[<- aae];exact aaa _ hle
     refine KC (T:=Y) hx' hb (fN jx) h0 hz (by rw[hsz,hlen];omega) (fun v hv=> ?_) ?_
     ·rw[nq] at hv;obtain⟨r,h1,h2⟩:=abe.1 hv;rw[(aby.1 h1).2] at h2;exact ZL.1 hone v h2
     ·have hset:(l.take off++List.replicate n z++l.drop (off+n))≠[] :=fun e=>by
       have:=aas List.length e;simp at this;omega
      have hlv:bi I (.vec k ty (l.take off++List.replicate n z++l.drop (off+n)):TB E.T)=true:=by
       cases hq:l.take off++List.replicate n z++l.drop (off+n) with
       |nil=>exact absurd hq hset
       |cons=>simp[bi]
      have hlv0:bi I (.vec k ty l:TB E.T)=true:=by
       cases l with
       |nil=>exact absurd rfl hl
       |cons=>simp[bi]
      have:=h I (j5 hi (iB hv) (hlv0.trans hlv.symm)) hA0;refine hR.low this (fun F X tm hs=> ?_) rfl;have hzle:LeL (zv.cells.toList.map AV.v) (cells E.toEnc ty z):=by
       have h1:=Io E I hpk;rw[abP,aax,aaY] at h1;have h2:(List.map ((fun a=>(TA.rd a).to E.toEnc I) ∘ atomT) zv.cells.toList)=zv.cells.toList.map AV.v:=by apply aai;intro v _;show(TA.rd (atomT v)).to E.toEnc I=_;rw[TA.rd_to,ui];rfl
       rw[h2] at h1;exact h1
      have hfin:LeL (cF ((l.map (cells E.toEnc ty)).flatten++ (I.k k).sp.map AV.v) (off * csz E.toEnc ty) ((Builtin.zeroCells zv.cells n).toList.map AV.v)) (((l.take off++List.replicate n z++l.drop (off+n)).map (cells E.toEnc ty)).flatten++ (I.k k).sp.map AV.v):=by
       have e1:((Builtin.zeroCells zv.cells n).toList.map AV.v).length=n * csz E.toEnc ty:=by simp[Builtin.zeroCells,hsz]
       unfold cF;rw[e1,List.take_append_of_le_length (by rw[eU];omega),vh,<- aae,List.drop_append_of_le_length (by rw[eU];exact aaa _ hle),vA,nq,aah,aah,abn,abn,abh,List.map_flatten,abh];simp only[List.append_assoc];exact(LeL.refl _).append ((LeL.rep hzle n).append (LeL.refl _))
      have e5:(O.setv k ty (l.take off++List.replicate n z++l.drop (off+n))).to E.toEnc I=(O.to E.toEnc I).setc (I k) (((l.take off++List.replicate n z++l.drop (off+n)).map (cells E.toEnc ty)).flatten++ (I.k k).sp.map AV.v):=by
       unfold TS.to TS.setv AS.setc AS.dropC;simp only[dS _ _ hlv]
       congr 1
       exact(gZ O.e).symm
      rw[e5];refine hs.le2 rfl (fun t u' hu=>⟨u',hu,.refl _⟩) (fun q cs' hq=> ?_) (fun p hp=>hp);simp only[AS.setc,ae] at hq ⊢;split at hq
      ·rename_i e3;rw[ZI e3];cases hq;exact⟨_,rfl,hfin⟩
      ·rename_i e3;rw[ZH e3];exact⟨cs',hq,LeL.refl _⟩
    ·cases ht
   ·cases ht
  ·cases ht
 ·cases ht
def Lq{t:Tree (TS E.T)}(hi:Inj I O.h)(hA0:A I)(hA1:Pq G.mu o=true->∀d x,Nat.ble d 99999=true->A (dG I d x))(ht:OM Y E o O=some t)(h:t.holds (OnE E R A)):dM P o (O.to E.toEnc I) R:=by
 obtain⟨dst,op,oty,pos,af,g⟩:=o;unfold OM at ht;simp only at ht;split at ht
 ·rename_i d t';split at ht
  ·rename_i kt et h0;split at ht
   ·rename_i ty' hk het hn'
    cases ht;simp only[Bool.and_eq_true] at hn';obtain⟨⟨hn,hnb⟩,hd⟩:=hn';refine wm (O:=O.to E.toEnc I) rfl hd fun b hb=> ?_;have:=h (upd I d b) (ik hi hn fun _=>hb) (hA1 rfl d ⟨b,false,[]⟩ hnb);rw[cI] at this;have e:((O.boxI d ty' []).to E.toEnc (upd I d b))=(O.to E.toEnc I).box b [imap []] :=oZ (x:=⟨b,false,[]⟩) hn rfl
    have e2:(TV.a (TA.mpr d):TV E.T).to E.toEnc (upd I d b)=.v (.map (some b)):=by show AV.v (.map (some (upd I d b d)))=_;rw[jM]
    rw[e,e2] at this;exact this
   ·cases ht
  ·cases ht
 ·rename_i t' x y z;split at ht
  ·rename_i kt et kk key h0 hx hy;split at ht
   ·rename_i ty' l hk hb;split at ht
    ·rename_i v hv;cases ht;obtain⟨u,hu1,hu2⟩:=IM (I:=I) hv;have hb':look (O.to E.toEnc I).h (I kk)=some [imap (l.map fun p=>(p.1,one E.toEnc ty' p.2))] :=dz E.toEnc hi hb rfl;refine CD (T:=Y) (aF (I:=I) hx) hb' (dO hy) hu1 h0 hk ?_;rw[hu2,Ex];have:=h I (j5 hi hb rfl) hA0;rw[Si] at this;exact this
    ·cases ht
   ·cases ht
  ·cases ht
 ·cases ht
def zR(hi:Inj I O.h)(hG:GOk P Y E G)(hR:Low R)(hA0:A I)(hA1:Rj G.mu O o=true->∀d x,Nat.ble d 99999=true->A (dG I d x))(h:(wK Y E G o O).holds (OnE E R A)):dM P o (O.to E.toEnc I) R:=by
 unfold wK at h;split at h
 ·rename_i t ht;exact Lq (Y:=Y) (G:=G) hi hA0 (fun hc=>hA1 (by unfold Rj;rw[hc,Bool.true_or])) ht h
 split at h
 ·rename_i t ht;exact KI (Y:=Y) hi hR hA0 ht h
 split at h
 ·rename_i t ht;exact KW (Y:=Y) hi hA0 ht h
 split at h
 ·rename_i t ht;exact Lo (Y:=Y) hi hG hR hA0 (fun hc=>hA1 (by unfold Rj;rw[hc,Bool.or_true])) ht h
 ·have hA2:Pq G.mu o=true->∀d x,Nat.ble d 99999=true->A (dG I d x):=fun hc=>hA1 (by unfold Rj;rw[hc,Bool.true_or]);split at h
  ·rename_i t ht;exact LG (Y:=Y) hi hG hR hA0 hA2 ht h
  ·exact Lm (Y:=Y) hi hG hR hA0 hA2 h
end
def T6(hi:Inj I O.h)(hG:GOk P Y E G)(ho:l[k]? =some o)(hw:cb l (O.to E.toEnc I) o=some true)(h:(wK Y E G o O).holds (On P E Q I (.o l (k+1) rest::ks))):br P Q (.o l k (o::rest)::ks) (O.to E.toEnc I):=
 l7 ho hw (zR (Y:=Y) (R:=fun τ=>br P Q (.o l (k+1) rest::ks) τ) hi hG (ql rfl) (A:=Agr I) (Agr.refl I) (fun _ d b hn=>Agr.updB hn) h)
end
def Det(l:List Oper)(mN:Nat->Bool)(o:Oper)(u:AV):Prop:=de (some u)=none/\((∃x,u=.v x)\/∃s,o.op=.move (.tmp s)/\∀ (q:Nat) o',l[q]? =some o'->mN q=true->o'.dst≠some s)
def WJ(P:Program)(l:List Oper)(mN:Nat->Bool)(K:AS->Prop):Nat->List Oper->AS->Prop
 |_,[],O=>K O
 |k,o::rest,O=>match mN k with
  |true=>∃d u,o.dst=some d/\o.guard=none/\Nat.ble (d+1) O.n=true/\OpV P o O u/\Det l mN o u/\WJ P l mN K (k+1) rest (O.put d u)
  |false=>WJ P l mN K (k+1) rest O
def YE(P:Program)(K:AS->Prop):List Oper->AS->Prop
 | [],O=>K O
 |o::rest,O=>dM P o O (YE P K rest)
def noOp:Oper:=⟨none,.assign (.const undef),0,"",#[],none⟩
def msk(mN:Nat->Bool):Nat->List Oper->List Oper
 |_,[] =>[]
 |k,o::r=>(match mN k with|true=>o|false=>noOp)::msk mN (k+1) r
theorem re(mN:Nat->Bool):∀ (k:Nat) (l:List Oper),(msk mN k l).length=l.length
 |_,[] =>rfl
 |k,o::r=>by simp only[msk,List.length_cons,re mN (k+1) r]
def xp(mN:Nat->Bool):∀ (k:Nat) (l:List Oper) (i:Nat) (o:Oper),l[i]? =some o->(msk mN k l)[i]? =some (match mN (k+i) with|true=>o|false=>noOp)
 |_,[],i,o,h=>by simp at h
 |k,o0::r,0,o,h=>by simp at h;subst h;simp[msk]
 |k,o0::r,i+1,o,h=>by simp only[msk,List.getElem?_cons_succ];rw[xp mN (k+1) r i o (by simpa using h),show k+1+i=k+ (i+1) by omega]
def rI{mN:Nat->Bool}{l:List Oper}{i:Nat}{o:Oper}{d:Nat}(h:(msk mN 0 l)[i]? =some o)(hd:o.dst=some d):mN i=true/\l[i]? =some o:=by
 have hi:=(ZD.1 h).1;rw[re] at hi;have:=xp mN 0 l i l[i] (ZE hi);rw[h,Z6] at this;cases hm:mN i with
 |true=>rw[hm] at this;cases this;exact⟨rfl,ZE hi⟩
 |false=>rw[hm] at this;cases this;cases hd
section
variable {P:Program} {Q:Exit->AS->Prop} {ks:List It} {O:AS} {K:AS->Prop} {l:List Oper} {mN:Nat->Bool}
def nQ{α:Type}(p:Nat->Bool):∀ (h:List (Nat × α)) (k:Nat),look (h.filter fun q=>p q.1) k=if p k=true then look h k else none
 | [],k=>by simp[aP]
 | (q,a)::r,k=>by
   have ih:=nQ p r k;rw[abc];by_cases hp:p q=true
   ·rw[ZI hp,ae,ae,ih];by_cases e:k=q
    ·subst e;rw[ZI rfl,ZI hp,ZI rfl]
    ·rw[ZH e,ZH e]
   ·rw[ZH hp,ih,ae];by_cases e:k=q
    ·subst e;rw[ZH hp,ZH hp]
    ·rw[ZH e]
structure MixOk (l:List Oper) (mN:Nat->Bool) (cs:List Nat):Prop where
 lex:∀i o,l[i]? =some o->∀j∈cq o,j < i
 ndst:∀q q' o o' d,l[q]? =some o->l[q']? =some o'->mN q=true->o.dst=some d->o'.dst=some d->q=q'
 settled:∀i o q oq d,l[i]? =some o->l[q]? =some oq->mN q=true->oq.dst=some d->d∈dk l o->q < i/\q∈cq o
 nsees:∀i o q oq d,l[i]? =some o->mN i=true->l[q]? =some oq->mN q=false->oq.dst=some d->d∈dk l o->i∈cq oq
 call:∀i,i < l.length->(mN i=false ↔ i∈cs)
 clt:∀i∈cs,i < l.length
 cnodup:cs.Nodup
 cchain:∀ (j a b:Nat) o,cs[j]? =some a->cs[j+1]? =some b->l[b]? =some o->a∈cq o
 cguard:∀i o,l[i]? =some o->mN i=false->o.guard=none/\∀c b,o.op≠.select c b
structure Filled (l:List Oper) (mN:Nat->Bool) (V:Nat->Value) (listed:Array Bool) (tm tf:Array Value):Prop where
 size:tf.size=tm.size
 same:∀t,(∀ (q:Nat) o,l[q]? =some o->mN q=true->o.dst=some t->listed.getD q false=true)->tf.getD t undef=tm.getD t undef
 val:∀ (q:Nat) o t,l[q]? =some o->mN q=true->o.dst=some t->tf.getD t undef=V q
def kh(l:List Oper)(mN:Nat->Bool)(k:Nat):List Oper->List (Nat × Nat)
 | [] =>[]
 |o::r=>(match mN k,o.dst,o.op with
  |true,some d,.move (.tmp s)=>if l.zipIdx.all (fun q=> !mN q.2 || !(q.1.dst==some s)) then [(d,s)] else []
  |_,_,_=>[])++kh l mN (k+1) r
def sY{l:List Oper}{mN:Nat->Bool}:∀ (rest:List Oper) (k:Nat) (p:Nat × Nat),p∈kh l mN k rest->∃ (i:Nat) (o:Oper),rest[i]? =some o/\mN (k+i)=true/\o.dst=some p.1/\o.op=.move (.tmp p.2)/\∀ (q:Nat) o',l[q]? =some o'->mN q=true->o'.dst≠some p.2
 | [],k,p,h=>by cases h
 |o::r,k,p,h=>by
  simp only[kh] at h;rcases aaf.1 h with h|h
  ·split at h
   ·rename_i d s hm hd ho;split at h
    ·rename_i hall;simp at h;subst h;refine⟨0,o,rfl,hm,hd,ho,fun q o' h' hq e=> ?_⟩;have:=ZL.1 hall (o',q) (ZQ (i:=q) (by rw[List.getElem?_zipIdx,h'];simp));simp[e,hq] at this
    ·cases h
   ·cases h
  ·obtain⟨i,o',h1,h2,h3⟩:=sY r (k+1) p h;exact⟨i+1,o',by simpa using h1,by rw[show k+ (i+1)=k+1+i by omega];exact h2,h3⟩
def Qa(a:Act):AV->Op->Value
 |.v x,_=>x
 |_,.move (.tmp s)=>a.tmps.getD s undef
 |_,_=>undef
def ga(a:Act)(o:Option Tmp)(x:Value)(t:Nat):(a.put o x).tmps.getD t undef=if o=some t/\t < a.tmps.size then x else a.tmps.getD t undef:=by
 cases o with
 |none=>rw[ZH (by simp)];rfl
 |some d=>
  simp only[Act.put,Array.getD_eq_getD_getElem?,Array.getElem?_setIfInBounds];by_cases e:d=t
  ·subst e;by_cases hl:d < a.tmps.size
   ·rw[ZI rfl,ZI hl,ZI ⟨rfl,hl⟩];rfl
   ·rw[ZI rfl,ZH hl,ZH (by simp[hl])];simp[Array.getElem?_eq_none (Nat.le_of_not_lt hl)]
  ·rw[ZH e,ZH (by simp[e])]
def kg(a:Act)(o:Option Tmp)(x:Value):(a.put o x).tmps.size=a.tmps.size:=by cases o<;> simp[Act.put]
def V5{X X':GW}(hn:New X X')(hw:X'.w=X.w)(hg:∀b n,X.g b=some n->b < X.w.heap.size)(hg':∀b n,X'.g b=some n->b < X'.w.heap.size):X'=X:=by
 have:X'.g=X.g:=by
  funext b
  by_cases hb:b < X.w.heap.size
  ·exact(hn.old b hb).2
  ·cases h1:X.g b with
   |some n=>exact absurd (hg b n h1) hb
   |none=>
    cases h2:X'.g b with
    |some n=>have:=hg' b n h2;rw[hw] at this;exact absurd this hb
    |none=>rfl
 cases X;cases X';simp only at hw this;subst hw this;rfl
def uW{F:Nat->Prop}{X:GW}{O:AS}{o:Oper}{u:AV}{a:Act}{s:Nat}(hop:o.op=.move (.tmp s))(h:OpV P o O u)(hs:SimR F X O o.op a.tmps):Rel X u (a.tmps.getD s undef)/\(execOp a.eval o).run P X.w=.ok (.value (a.tmps.getD s undef)) X.w:=by
 have hex:(execOp a.eval o).run P X.w=.ok (.value (a.tmps.getD s undef)) X.w:=by obtain⟨dst,op,ty,pos,af,g⟩:=o;simp only at hop;subst hop;rfl
 have hr:=h F X a hs;unfold jz at hr;rw[hex] at hr;obtain⟨X',h1,h2,h3,h4,h5⟩:=hr;have:=V5 h2 h1 hs.gb h3;subst this;exact⟨h4,hex⟩
def Cp:Op->Bool
 |.select _ _=>true
 |_=>false
def sA(l:List Oper)(mN:Nat->Bool)(i q:Nat)(o oq:Oper):Bool:=
 match oq.dst with
 |none=>true
 |some d=>(!mN q || ((i==q || !(o.dst==some d)) && (!(dk l o).contains d || (Nat.blt q i && (cq o).contains q)))) && (!mN i || mN q || !(dk l o).contains d || (cq oq).contains i)
def QB(l:List Oper):List Nat->Bool
 |a::b::r=>(match l[b]? with|some o=>(cq o).contains a|none=>true) && QB l (b::r)
 |_=>true
def Bv{l:List Oper}:∀ {cs:List Nat},QB l cs=true->∀ (j a b:Nat) o,cs[j]? =some a->cs[j+1]? =some b->l[b]? =some o->a∈cq o
 | [],_,j,a,b,o,h1,_,_=>by simp at h1
 | [x],_,j,a,b,o,_,h2,_=>by simp at h2
 |x::y::r,h,0,a,b,o,h1,h2,h3=>by simp only[QB,Bool.and_eq_true] at h;simp at h1 h2;subst h1 h2;have:=h.1;rw[h3] at this;simpa using this
 |x::y::r,h,j+1,a,b,o,h1,h2,h3=>by simp only[QB,Bool.and_eq_true] at h;exact Bv h.2 j a b o (by simpa using h1) (by simpa using h2) h3
def WX(l:List Oper)(mN:Nat->Bool)(cs:List Nat):Bool:=
 lE 0 l && (l.zipIdx.all fun p=>l.zipIdx.all fun q=>sA l mN p.2 q.2 p.1 q.1) && (l.zipIdx.all fun p=>(mN p.2== !cs.contains p.2) && (mN p.2 || (p.1.guard.isNone && !Cp p.1.op))) && cs.all (fun i=>Nat.blt i l.length) && decide cs.Nodup && QB l cs
def tC{l:List Oper}{i:Nat}{o:Oper}(h:l[i]? =some o):(o,i)∈l.zipIdx:=by refine ZQ (i:=i) ?_;rw[List.getElem?_zipIdx,h];simp
def SA{l:List Oper}{mN:Nat->Bool}{cs:List Nat}(h:WX l mN cs=true):MixOk l mN cs:=by
 simp only[WX,Bool.and_eq_true] at h;obtain⟨⟨⟨⟨⟨h1,h2⟩,h3⟩,h4⟩,h5⟩,h6⟩:=h;have hp:∀ (i q:Nat) o oq,l[i]? =some o->l[q]? =some oq->sA l mN i q o oq=true:=fun i q o oq a b=>ZL.1 (ZL.1 h2 _ (tC a)) _ (tC b)
 have h3':∀ (i:Nat) o,l[i]? =some o->(mN i== !cs.contains i)=true/\(mN i || (o.guard.isNone && !Cp o.op))=true:=fun i o a=>by have:=ZL.1 h3 _ (tC a);simpa using this
 refine⟨fun i o ho j hj=> ?_,fun q q' o o' d a b c e f=> ?_,fun i o q oq d a b c e f=> ?_,fun i o q oq d a c b c2 e f=> ?_,fun i hi=> ?_,fun i hi=> ?_,aaV h5,Bv h6,fun i o ho hm=> ?_⟩
 ·have:=iG l 0 i o h1 ho j hj;omega
 ·have:=hp q' q o' o b a;simp only[sA,e,c,Bool.not_true,Bool.false_or,Bool.and_eq_true,Bool.or_eq_true,f,beq_self_eq_true,Bool.false_eq_true,or_false] at this;have:=this.1.1;simp at this;exact this.symm
 ·have:=hp i q o oq a b;have hf:(dk l o).contains d=true:=by simpa using f
  simp only[sA,e,c,Bool.not_true,Bool.false_or,Bool.and_eq_true,hf] at this;obtain⟨⟨_,k1,k2⟩,_⟩:=this;exact⟨by simpa[Nat.blt_eq] using k1,by simpa using k2⟩
 ·have:=hp i q o oq a b;have hf:(dk l o).contains d=true:=by simpa using f
  simp only[sA,e,c,c2,hf,Bool.not_true,Bool.not_false,Bool.true_or,Bool.false_or,Bool.or_false,Bool.true_and,Bool.and_false,Bool.false_eq_true] at this;simpa using this
 ·have ho:=ZE hi;have:=(h3' i _ ho).1;have e:mN i= !cs.contains i:=by simpa using this
  rw[e];simp
 ·have:=ZL.1 h4 i hi;simpa[Nat.blt_eq] using this
 ·have:=(h3' i o ho).2;rw[hm] at this;simp only[Bool.false_or,Bool.and_eq_true] at this;refine⟨by cases hg:o.guard with
   |none=>rfl
   |some p=>rw[hg] at this;simp at this,fun c b e=> ?_⟩
  have h7:=this.2;rw[e] at h7;simp[Cp] at h7
end
def iQ(F:Nat->Prop)(X:GW)(H1:List (Nat × List AV))(b:Nat):Prop:=
 F b\/(∃c,look H1 b=some c)\/∃k o sz l a n c cs,look H1 k=some cs/\de cs[o]? =some (sz,l)/\X.w.cell? ⟨k,o,none⟩=some (.slice (some a) n c)/\a.block=b
def L9{O:AS}{H:List (Nat × List AV)}(hH:∀k cs,look H k=some cs->look O.h k=some cs):∀r sz l,(O.withH H).own r=some (sz,l)->O.own r=some (sz,l):=fun r sz l ho=>by
 cases r with
 |s t=>exact ho
 |c k o=>
  simp only[AS.own,AS.withH] at ho ⊢;cases hl:look H k with
  |none=>rw[hl] at ho;cases ho
  |some cs=>rw[hl] at ho;rw[hH k cs hl];exact ho
def q6{O:AS}{k o sz:Nat}{l:List (List AV)}{cs:List AV}(h1:look O.h k=some cs)(h2:de cs[o]? =some (sz,l)):O.own (.c k o)=some (sz,l):=by simp only[AS.own,h1];exact h2
def mY{F:Nat->Prop}{X:GW}{sz:Nat}{l:List (List AV)}{a:Addr}{n c:Nat}(h:gH F X sz l (.slice (some a) n c)):a.block < X.w.heap.size/\¬F a.block/\(∃m,X.g a.block=some m)/\a=⟨a.block,0,none⟩:=by
 rcases h with ⟨h,_⟩| ⟨b',cap,cs,e,fr,h1,h2,h3,h4,h5,h6⟩
 ·cases h
 ·cases h1;exact⟨(ZU.1 h3).1,h6,⟨_,h2⟩,rfl⟩
def SimE.aside{F:Nat->Prop}{X:GW}{O:AS}{tm:Array Value}(st:Nat->Bool)(h:SimE F X O tm)(he:O.e=[]):SimE (iQ F X (O.h.filter fun p=>st p.1)) X (O.withH (O.h.filter fun p=> !st p.1)) tm:=by
 have h1:∀k c,look (O.h.filter fun p=>st p.1) k=some c->st k=true/\look O.h k=some c:=fun k c hk=>by
  rw[nQ] at hk;by_cases e:st k=true
  ·rw[ZI e] at hk;exact⟨e,hk⟩
  ·rw[ZH e] at hk;cases hk
 have h0:∀k c,look (O.h.filter fun p=> !st p.1) k=some c->st k=false/\look O.h k=some c:=fun k c hk=>by
  rw[nQ (fun q=> !st q)] at hk;by_cases e:st k=true
  ·simp[e] at hk
  ·simp only[Bool.not_eq_true] at e;simp[e] at hk;exact⟨e,hk⟩
 have hown:=L9 (O:=O) (fun k cs hk=>(h0 k cs hk).2);have hO:∀k o sz l a n c cs,look (O.h.filter fun p=>st p.1) k=some cs->de cs[o]? =some (sz,l)->X.w.cell? ⟨k,o,none⟩=some (.slice (some a) n c)->st k=true/\O.own (.c k o)=some (sz,l)/\gH F X sz l (.slice (some a) n c):=fun k o sz l a n c cs hk ho hc=>by
  obtain⟨e1,e2⟩:=h1 k cs hk;have e3:=q6 e2 ho;obtain⟨x,hx,hok⟩:=h.own _ _ _ e3;have:x=.slice (some a) n c:=ZZ (hx.symm.trans hc);rw[this] at hok;exact⟨e1,e3,hok⟩
 have hlt:∀b,iQ F X (O.h.filter fun p=>st p.1) b->b < X.w.heap.size:=fun b hb=>by
  rcases hb with hb| ⟨c,hc⟩| ⟨k,o,sz,l,a,n,c,cs,hk,ho,hc,rfl⟩
  ·exact h.fb b hb
  ·exact(h.box b c (h1 b c hc).2).lt
  ·exact(mY (hO k o sz l a n c cs hk ho hc).2.2).1
 refine⟨⟨h.size,h.gb,hlt,h.slot,fun k cs hk=> ?_,fun x r hx=> ?_,fun r sz l ho=> ?_,fun r r' sz l sz' l' a n c a' n' c' hne ho ho' hr hr'=>h.disj r r' sz l sz' l' a n c a' n' c' hne (hown _ _ _ ho) (hown _ _ _ ho') hr hr'⟩,fun p hp=> ?_⟩
 ·obtain⟨e1,e2⟩:=h0 k cs hk;have hb:=h.box k cs e2;refine hb.keep ⟨rfl,rfl,fun hF=> ?_⟩ (nj.refl X);rcases hF with hF| ⟨c,hc⟩| ⟨k',o,sz,l,a,n,c,cs',hk',ho,hc,e⟩
  ·exact hb.nF hF
  ·rw[(h1 k c hc).1] at e1;cases e1
  ·obtain⟨_,_,⟨m,hm⟩,_⟩:=mY (hO k' o sz l a n c cs' hk' ho hc).2.2;rw[e,hb.gn] at hm;cases hm
 ·have:look O.e x=some r:=hx;rw[he] at this;cases this
 ·obtain⟨x,hx,hok⟩:=h.own r sz l (hown _ _ _ ho);refine⟨x,hx,hok.keep fun b n c hxe=>⟨rfl,rfl,fun hF=> ?_⟩⟩;subst hxe;rcases hF with hF| ⟨c',hc⟩| ⟨k',o',sz',l',a',n',c',cs',hk',ho',hc',e⟩
  ·exact(mY hok).2.1 hF
  ·obtain⟨_,_,⟨m,hm⟩,_⟩:=mY hok;rw[(h.box _ _ (h1 _ _ hc).2).gn] at hm;cases hm
  ·obtain⟨e1,e2,e3⟩:=hO k' o' sz' l' a' n' c' cs' hk' ho' hc';have hne:r≠.c k' o':=by
    rintro rfl;simp only[AS.own,AS.withH] at ho;cases hl:look (O.h.filter fun p=> !st p.1) k' with
    |none=>rw[hl] at ho;cases ho
    |some cs2=>have:=(h0 k' cs2 hl).1;rw[e1] at this;cases this
   exact h.disj r (.c k' o') sz l sz' l' _ _ _ _ _ _ hne (hown _ _ _ ho) e2 hx hc' e.symm
 ·have:p∈O.e:=hp;rw[he] at this;cases this
def SimE.backO{F F':Nat->Prop}{X0 X:GW}{σ0 σ':AS}{tm0 tm:Array Value}{H1:List (Nat × List AV)}(h0:SimE F X0 σ0 tm0)(hH:∀k cs,look H1 k=some cs->look σ0.h k=some cs)(h:SimE F' X σ' tm)(hF:∀b,iQ F X0 H1 b->F' b)(hx:Ext F' X0 X):SimE F X (σ'.withH (σ'.h++H1)) tm:=by
 have hlook:∀k cs,look (σ'.h++H1) k=some cs->look σ'.h k=some cs\/(look σ'.h k=none/\look H1 k=some cs):=fun k cs hk=>by
  rw[mZ] at hk;cases hl:look σ'.h k with
  |some c=>rw[hl] at hk;cases hk;exact .inl rfl
  |none=>rw[hl] at hk;exact .inr ⟨rfl,hk⟩
 have hF0:∀b,F b->F' b:=fun b hb=>hF b (.inl hb);have hF1:∀k cs,look H1 k=some cs->F' k:=fun k cs hk=>hF k (.inr (.inl ⟨cs,hk⟩));have hown:∀r sz l,(σ'.withH (σ'.h++H1)).own r=some (sz,l)->σ'.own r=some (sz,l)\/∃k o cs,r=.c k o/\look H1 k=some cs/\de cs[o]? =some (sz,l):=fun r sz l ho=>by
  cases r with
  |s t=>exact .inl ho
  |c k o=>
   simp only[AS.own,AS.withH] at ho ⊢;cases hl:look (σ'.h++H1) k with
   |none=>rw[hl] at ho;cases ho
   |some cs=>
    rw[hl] at ho;rcases hlook k cs hl with h1| ⟨h1,h2⟩
    ·rw[h1];exact .inl ho
    ·exact .inr ⟨k,o,cs,rfl,h2,ho⟩
 have hold:∀k o cs sz l,look H1 k=some cs->de cs[o]? =some (sz,l)->∃x,X.w.cell? ⟨k,o,none⟩=some x/\X0.w.cell? ⟨k,o,none⟩=some x/\gH F X0 sz l x/\gH F X sz l x:=fun k o cs sz l hk ho=>by
  obtain⟨x,hx1,hok⟩:=h0.own (.c k o) sz l (q6 (hH k cs hk) ho);have hc0:X0.w.cell? ⟨k,o,none⟩=some x:=hx1;refine⟨x,by rw[dm (hx.frame k (hF1 k cs hk)).1];exact hc0,hc0,hok,hok.keep fun b n c hxe=> ?_⟩;subst hxe;have hb:=hF b (.inr (.inr ⟨k,o,sz,l,_,_,_,cs,hk,ho,hc0,rfl⟩));exact⟨(hx.frame b hb).1,(hx.frame b hb).2,(mY hok).2.1⟩
 have hnF':∀r sz l a n c,σ'.own r=some (sz,l)->rootV tm X.w r=some (.slice (some a) n c)->¬F' a.block:=fun r sz l a n c ho hr=>by obtain⟨x,k1,k2⟩:=h.own r sz l ho;have:x=.slice (some a) n c:=ZZ (k1.symm.trans hr);rw[this] at k2;exact(mY k2).2.1
 refine⟨⟨h.size,h.gb,fun b hb'=>h.fb b (hF0 b hb'),h.slot,fun k cs hk=> ?_,h.eqs,fun r sz l ho=> ?_,fun r r' sz l sz' l' a n c a' n' c' hne ho ho' hr hr'=> ?_⟩,h.eqm⟩
 ·rcases hlook k cs hk with h1| ⟨h1,h2⟩
  ·exact(h.box k cs h1).keep ⟨rfl,rfl,fun e=>(h.box k cs h1).nF (hF0 k e)⟩ (nj.refl X)
  ·have hk':=h0.box k cs (hH k cs h2);exact hk'.keep ⟨(hx.frame k (hF1 k cs h2)).1,(hx.frame k (hF1 k cs h2)).2,hk'.nF⟩ hx.pres
 ·rcases hown r sz l ho with h1| ⟨k,o,cs,rfl,h1,h2⟩
  ·obtain⟨x,k1,k2⟩:=h.own r sz l h1;exact⟨x,k1,k2.keep fun b n c hv=>⟨rfl,rfl,fun e=>(k2.lt hv).2 (hF0 b e)⟩⟩
  ·obtain⟨x,k1,_,_,k2⟩:=hold k o cs sz l h1 h2;exact⟨x,k1,k2⟩
 ·rcases hown r sz l ho with h1| ⟨k,o,cs,rfl,h1,h2⟩
  ·rcases hown r' sz' l' ho' with h3| ⟨k',o',cs',rfl,h3,h4⟩
   ·exact h.disj r r' sz l sz' l' a n c a' n' c' hne h1 h3 hr hr'
   ·obtain⟨x,k1,k0,k2,_⟩:=hold k' o' cs' sz' l' h3 h4;have:x=.slice (some a') n' c':=ZZ (k1.symm.trans hr');subst this;intro e;exact hnF' r sz l a n c h1 hr (by rw[e];exact hF _ (.inr (.inr ⟨k',o',sz',l',_,_,_,cs',h3,h4,k0,rfl⟩)))
  ·obtain⟨x,k1,k0,k2,_⟩:=hold k o cs sz l h1 h2;have:x=.slice (some a) n c:=ZZ (k1.symm.trans hr);subst this;rcases hown r' sz' l' ho' with h3| ⟨k',o',cs',rfl,h3,h4⟩
   ·intro e;exact hnF' r' sz' l' a' n' c' h3 hr' (by rw[<- e];exact hF _ (.inr (.inr ⟨k,o,sz,l,_,_,_,cs,h1,h2,k0,rfl⟩)))
   ·obtain⟨x',k1',k0',_,_⟩:=hold k' o' cs' sz' l' h3 h4;have:x'=.slice (some a') n' c':=ZZ (k1'.symm.trans hr');subst this;exact h0.disj (.c k o) (.c k' o') sz l sz' l' a n c a' n' c' hne (q6 (hH k cs h1) h2) (q6 (hH k' cs' h3) h4) k0 k0'
section
variable {P:Program} {Q:Exit->AS->Prop} {ks:List It} {O:AS} {l:List Oper} {mN:Nat->Bool}
structure Full (l:List Oper) (mN:Nat->Bool) (V:Nat->Value) (tm tf:Array Value):Prop where
 size:tf.size=tm.size
 same:∀t,(∀ (q:Nat) o,l[q]? =some o->mN q=true->o.dst≠some t)->tf.getD t undef=tm.getD t undef
 val:∀ (q:Nat) o t,l[q]? =some o->mN q=true->o.dst=some t->tf.getD t undef=V q
def TO{V:Nat->Value}{cs:List Nat}{tm:Array Value}(hB:MixOk l mN cs)(hst:∀ (q:Nat) o d,l[q]? =some o->mN q=true->o.dst=some d->d < tm.size):∃tf,Full l mN V tm tf:=by
 classical
 refine⟨Array.ofFn (n:=tm.size) fun t=>if hx:∃q o,l[q]? =some o/\mN q=true/\o.dst=some t.1 then V (Classical.choose hx) else tm.getD t.1 undef,by simp,fun t ht=> ?_,fun q o t ho hmq hod=> ?_⟩
 ·simp only[Array.getD_eq_getD_getElem?,Array.getElem?_ofFn];by_cases hl:t < tm.size
  ·rw[abU hl,dif_neg (by rintro⟨q,o,k1,k2,k3⟩;exact ht q o k1 k2 k3)];rfl
  ·rw[dif_neg hl,aa0 (abQ hl)]
 ·simp only[Array.getD_eq_getD_getElem?,Array.getElem?_ofFn];have hl:=hst q o t ho hmq hod;have hx:∃q o,l[q]? =some o/\mN q=true/\o.dst=some t:=⟨q,o,ho,hmq,hod⟩
  rw[abU hl,abU hx];obtain⟨o',k1,k2,k3⟩:=Classical.choose_spec hx;have:=hB.ndst _ q o' o t k1 ho k2 k3 hod;simp only[Option.getD_some,this]
structure DrawG (P:Program) (Q:Exit->AS->Prop) (ks:List It) (l:List Oper) (mN:Nat->Bool) (cs:List Nat) (lim:Nat->Nat) (F:Nat->Prop) (X:GW) (tm tf0:Array Value) (D:List Deferred) (V:Nat->Value) (J:Nat->GW->Array Value->Prop):Prop where
 start:J 0 X tf0
 n:∀ (i:Nat) o j X1 (a1:Act) tf,l[i]? =some o->mN i=true->j<=lim i->J j X1 tf->(∀t,t∈dk l o->a1.tmps.getD t undef=tf0.getD t undef)->jz P o a1 X1.w fun x w'=>x=V i/\∃X2:GW,X2.w=w'/\J j X2 tf/\Ext F X1 X2
 c:∀ (j c:Nat) o X1 tf,cs[j]? =some c->l[c]? =some o->J j X1 tf->il P (fun x w'=>∃X':GW,X'.w=w'/\J (j+1) X' (({ tmps:=tf,defers:=D }:Act).put o.dst x).tmps/\Ext F X1 X') (fun v w'=>∃ (X':GW) (H2:List (Nat × List AV)) (tm2:Array Value),X'.w=w'/\Stk P Q ks (.panic [{ v:=v,recovered:=false }]) ⟨tm.size,[],H2,[]⟩/\SimE F X' ⟨tm.size,[],H2,[]⟩ tm2/\Ext F X1 X') ((execOp ({ tmps:=tf,defers:=D }:Act).eval o).run P X1.w)
 fin:∀X1 tf,J cs.length X1 tf->∃σ':AS,SimE F X1 σ' tf/\br P Q ks σ'
def SimE.slotless{F:Nat->Prop}{X:GW}{n:Nat}{H:List (Nat × List AV)}{tm tm':Array Value}(h:SimE F X ⟨n,[],H,[]⟩ tm)(hs:tm'.size=n):SimE F X ⟨n,[],H,[]⟩ tm':=by
 have hr:∀r sz l,AS.own ⟨n,[],H,[]⟩ r=some (sz,l)->rootV tm' X.w r=rootV tm X.w r:=fun r sz l ho=>by
  cases r with
  |s t=>simp only[AS.own,aP] at ho;cases ho
  |c k o=>rfl
 refine⟨⟨hs,h.gb,h.fb,fun t u hu=>(by cases hu),h.box,fun x r hx=>(by cases hx),fun r sz l ho=> ?_,fun r r' sz l sz' l' a n c a' n' c' hne ho ho' hr1 hr2=> ?_⟩,fun p hp=>by cases hp⟩
 ·rw[hr r sz l ho];exact h.own r sz l ho
 ·rw[hr r sz l ho] at hr1;rw[hr r' sz' l' ho'] at hr2;exact h.disj r r' sz l sz' l' a n c a' n' c' hne ho ho' hr1 hr2
def P4{id:Nat}{cs:List Nat}{lim:Nat->Nat}(hm:P.follows .mixedOrders=true)(hB:MixOk l mN cs)(hlim:∀ (i j c:Nat) o,mN i=true->lim i=j->cs[j]? =some c->l[c]? =some o->∀p:Nat->Prop,(∀ (q:Nat) oq,l[q]? =some oq->p q->∀d∈cq oq,p d)->p c->p i)
  (hd:∀ (i:Nat) o,l[i]? =some o->mN i=true->∃d,o.dst=some d/\o.guard=none/\d < O.n)
  (h:∀F X tm D,SimE F X O tm->∃V J,∀tf0,Full l mN V tm tf0->DrawG P Q ks l mN cs lim F X tm tf0 D V J):br P Q (.c (.region id l.toArray true)::ks) O:=by
 intro F X a hs D hdf;have hXd:New X ⟨X.w.drew,X.g⟩:=⟨rfl,rfl,rfl,ZN _,fun _ _=>⟨rfl,rfl⟩⟩
 have hdst:∀ (i:Nat) o,l[i]? =some o->mN i=true->∃d,o.dst=some d/\o.guard=none/\d < a.tmps.size:=fun i o ho hmi=>by obtain⟨d,k1,k2,k3⟩:=hd i o ho hmi;exact⟨d,k1,k2,by rw[hs.size];exact k3⟩
 obtain⟨V,J,hG⟩:=h F ⟨X.w.drew,X.g⟩ a.tmps D (hs.new hXd hs.gb);obtain⟨tf0,hfull⟩:=TO (V:=V) (tm:=a.tmps) hB fun q o d ho hmq hod=>by obtain⟨d',k1,_,k3⟩:=hdst q o ho hmq;rw[hod] at k1;cases k1;exact k3
 obtain⟨hf1,hf2,hf3⟩:=hfull;obtain⟨hJ,hN,hC,hfin⟩:=hG tf0 ⟨hf1,hf2,hf3⟩;refine wp_region_any hm ?_
 let Inv:Array Bool->GW->Act->Prop:=fun listed X1 a1=>∃ (tf:Array Value) (done rem:List Nat),cs=done++rem/\(∀i∈done,listed.getD i false=true)/\(∀i∈rem,listed.getD i false=false)/\Filled l mN V listed a1.tmps tf/\
  J done.length X1 tf/\Ext F X X1/\a1.tmps.size=a.tmps.size/\(∀t,(∀ (q:Nat) oq,l[q]? =some oq->oq.dst=some t->mN q=false/\listed.getD q false=false)->a1.tmps.getD t undef=a.tmps.getD t undef)
 have key:∀ (fuel:Nat) (listed:Array Bool) (X1:GW) (a1:Act),listed.size=l.length->
   ((List.range l.length).filter (fun i=> !listed.getD i true)).length<=fuel->a1.defers=D->Inv listed X1 a1->(∀j oj,l[j]? =some oj->listed.getD j false=true->∀d∈cq oj,listed.getD d false=true)->
   wpAny P .any l.toArray (dA F X D (Stk P Q ks)) fuel listed a1 X1.w:=by
  have fin:∀ (listed:Array Bool) (X1:GW) (a1:Act),listed.size=l.length->Region.ready .any l.toArray listed=[] ->a1.defers=D->Inv listed X1 a1->dA F X D (Stk P Q ks) .normal a1 X1.w:=by
   rintro listed X1 a1 hsz hnil hd1 ⟨tf,done,rem,c1,c2,c3,c4,c5,c7,c8,c9⟩;have hall:∀i,i < l.length->listed.getD i false=true:=by
    intro i hil;apply Z7;intro hc;have hc:listed.getD i false=false:=by simpa using hc
    obtain⟨k,hk,hkf,hkl⟩:=jt (fun j=>listed.getD j false) l.length ⟨i,hil,hc⟩;have hmem:k∈Region.ready .any l.toArray listed:=by refine mem_ready.2 ⟨by rw[eZ (by omega)];exact hkf,l[k],by simp[hk],fun e he hb=> ?_⟩;exact hkl e.on (hB.lex k l[k] (ZE hk) e.on (cG.2 ⟨e,he,hb,rfl⟩))
    rw[hnil] at hmem;cases hmem
   have hrem:rem=[] :=by
    cases rem with
    |nil=>rfl
    |cons c r=>have h1:=c3 c ZP;rw[hall c (hB.clt c (by rw[c1];simp))] at h1;cases h1
   subst hrem;have htf:tf=a1.tmps:=by apply abK c4.size;intro i h1 h2;have:=c4.same i fun q o k1 _ _=>hall q (ZD.1 k1).1;simpa[h1,h2] using this
   rw[htf] at c5;rw[aax] at c1;rw[<- c1] at c5;obtain⟨σ',g1,g2⟩:=hfin X1 a1.tmps c5;exact⟨hd1,X1,σ',rfl,g2,g1,c7⟩
  intro fuel
  induction fuel with
  |zero=>
   intro listed X1 a1 hsz hf hd1 hI hdn;have hnil:Region.ready .any l.toArray listed=[] :=by
    rw[aaC];intro i hi;obtain⟨h1,o,h2,_⟩:=mem_ready.1 hi;have hil:i < l.length:=by simpa using (ZU.1 h2).1
    have h0:=aal.1 (abJ.1 hf);have:=aaZ.1 h0 i (aaF.2 hil);rw[h1] at this;exact this rfl
   exact⟨hnil,fin listed X1 a1 hsz hnil hd1 hI⟩
  |succ fuel ih=>
   intro listed X1 a1 hsz hf hd1 hI hdn;refine⟨fun hnil=>fin listed X1 a1 hsz hnil hd1 hI,fun i hi=> ?_⟩;obtain⟨h1,o,h2,h3⟩:=mem_ready.1 hi;have h2':l[i]? =some o:=by simpa using h2
   have hil:i < l.length:=(ZD.1 h2').1;have hlf:listed.getD i false=false:=by rw[<- eZ (by omega)];exact h1
   have hdep:∀q∈cq o,listed.getD q false=true:=fun q hq=>by obtain⟨e,k1,k2,k3⟩:=cG.1 hq;rw[<- k3];exact h3 e k1 k2
   have hcnt:((List.range l.length).filter (fun j=> !(listed.setIfInBounds i true).getD j true)).length<=fuel:=by have:=lQ hil hsz h1;omega
   obtain⟨tf,done,rem,c1,c2,c3,c4,c5,c7,c8,c9⟩:=hI;have hset:∀j,(listed.setIfInBounds i true).getD j false=if j=i then true else listed.getD j false:=fun j=>bv false (by omega)
   have hseen:∀t,t∈dk l o->tf.getD t undef=a1.tmps.getD t undef:=fun t ht=>c4.same t fun q oq k1 k2 k3=>hdep q (hB.settled i o q oq t h2' k1 k2 k3 ht).2;have hdn':∀j oj,l[j]? =some oj->(listed.setIfInBounds i true).getD j false=true->∀d∈cq oj,(listed.setIfInBounds i true).getD d false=true:=fun j oj hoj hj d hd=>by
    rw[hset] at hj ⊢;split
    ·rfl
    ·by_cases e:j=i
     ·subst e;rw[h2'] at hoj;cases hoj;exact hdep d hd
     ·rw[ZH e] at hj;exact hdn j oj hoj hj d hd
   unfold wpOp;simp only[h2];cases hmi:mN i with
   |true=>
    obtain⟨d,k1,k2,hdl⟩:=hdst i o h2' hmi;have hfree:∀t,t∈dk l o->(∀ (q:Nat) o',l[q]? =some o'->mN q=true->o'.dst≠some t)->∀ (q:Nat) oq,l[q]? =some oq->oq.dst=some t->mN q=false/\listed.getD q false=false:=fun t hts hn q oq hq hod=>by
     cases hmq:mN q with
     |true=>exact absurd hod (hn q oq hq hmq)
     |false=>
      refine⟨rfl,?_⟩;cases hl:listed.getD q false with
      |false=>rfl
      |true=>have:=hdn q oq hq hl i (hB.nsees i o q oq t h2' hmi hq hmq hod hts);rw[hlf] at this;cases this
    have hsee0:∀t,t∈dk l o->a1.tmps.getD t undef=tf0.getD t undef:=fun t ht=>by
     by_cases hx:∃ (q:Nat) (oq:Oper),l[q]? =some oq/\mN q=true/\oq.dst=some t
     ·obtain⟨q,oq,j1,j2,j3⟩:=hx;rw[hf3 q oq t j1 j2 j3,<- hseen t ht,c4.val q oq t j1 j2 j3]
     ·have hn:∀ (q:Nat) o',l[q]? =some o'->mN q=true->o'.dst≠some t:=fun q o' a b c=>hx ⟨q,o',a,b,c⟩;rw[hf2 t hn];exact c9 t (hfree t ht hn)
    have hjl:done.length<=lim i:=by
     apply Z7;intro hc;have hlt:lim i < done.length:=by omega
     have hcj:cs[lim i]? =some done[lim i] :=by rw[c1,ZO hlt];exact ZE hlt
     have hdl2:=c2 _ (aaD hlt);have hcl:=hB.clt _ (ZQ hcj);have:=hlim i _ _ _ hmi rfl hcj (ZE hcl) (fun q=>listed.getD q false=true) hdn hdl2;rw[hlf] at this;cases this
    have hw:Region.wanted o (yielded l.toArray a1.tmps)=true:=by unfold Region.wanted;rw[k2]
    rw[ZI hw];left;refine(hN i o done.length X1 a1 tf h2' hmi hjl c5 hsee0).wp fun x w' ⟨hx,X2,q1,q2,q3⟩=> ?_;subst q1 hx
    refine ih (listed.setIfInBounds i true) X2 (a1.put o.dst (V i)) (by simp[hsz]) hcnt (by rw[eG];exact hd1) ⟨tf,done,rem,c1,fun j hj=> ?_,fun j hj=> ?_,⟨by rw[kg];exact c4.size,fun t ht=> ?_,c4.val⟩,q2,c7.trans q3,by rw[kg];exact c8,fun t ht=> ?_⟩ hdn'
    ·rw[hset];split
     ·rfl
     ·exact c2 j hj
    ·rw[hset,ZH (fun e=>by
      subst e;have:=(hB.call j hil).2 (by rw[c1];exact List.mem_append_right _ hj);rw[hmi] at this;cases this)]
     exact c3 j hj
    ·rw[ga,k1];by_cases e:t=d
     ·subst e;rw[ZI ⟨rfl,by rw[c8];exact hdl⟩];exact c4.val i o t h2' hmi k1
     ·rw[ZH (by rintro⟨h,_⟩;exact e (ZZ h).symm)];refine c4.same t fun q oq j1 j2 j3=> ?_;have:=ht q oq j1 j2 j3;rw[hset] at this;by_cases e2:q=i
      ·subst e2;rw[h2'] at j1;cases j1;rw[k1] at j3;cases j3;exact absurd rfl e
      ·rw[ZH e2] at this;exact this
    ·rw[ga,ZH (by
      rintro⟨h,_⟩;have:=(ht i o h2' h).1;rw[hmi] at this;cases this)]
     refine c9 t fun q oq j1 j2=> ?_;obtain⟨m1,m2⟩:=ht q oq j1 j2;refine⟨m1,?_⟩;rw[hset] at m2;by_cases e2:q=i
     ·rw[ZI e2] at m2;cases m2
     ·rw[ZH e2] at m2;exact m2
   |false=>
    obtain⟨hg,hsel⟩:=hB.cguard i o h2' hmi;have hics:i∈cs:=(hB.call i hil).1 hmi;have hirem:i∈rem:=by
     rw[c1] at hics;rcases aaf.1 hics with h|h
     ·rw[c2 i h] at hlf;cases hlf
     ·exact h
    obtain⟨r,hr⟩:∃r,rem=i::r:=by
     cases hrem:rem with
     |nil=>rw[hrem] at hirem;cases hirem
     |cons c r=>
      rw[hrem] at hirem;rcases ZY.1 hirem with rfl|hir
      ·exact⟨r,rfl⟩
      ·exfalso;obtain⟨j,hj⟩:=aab hir;have hjl:j < (c::r).length:=by have:=(ZD.1 hj).1;simp;omega
       have hpre:cs[done.length+j]? =some (c::r)[j] :=by rw[c1,hrem,ZJ (by omega),show done.length+j - done.length=j by omega];exact ZE hjl
       have hpost:cs[done.length+j+1]? =some i:=by rw[c1,hrem,ZJ (by omega),show done.length+j+1 - done.length=j+1 by omega];simpa using hj
       have h5:=hdep _ (hB.cchain _ _ _ o hpre hpost h2');rw[c3 _ (by rw[hrem];exact aaD hjl)] at h5;cases h5
    subst hr;have hw:Region.wanted o (yielded l.toArray a1.tmps)=true:=by unfold Region.wanted;rw[hg]
    rw[ZI hw];left;have hcd:cs[done.length]? =some i:=by rw[c1,ZJ (ZN _)];simp
    have hrun:=hC done.length i o X1 tf hcd h2' c5;have hev:execOp ({ tmps:=tf,defers:=D }:Act).eval o=execOp a1.eval o:=by
     refine execOp_congr o hsel fun x hx=> ?_;cases x with
     |tmp t=>exact hseen t (by simp only[dk];exact aar _ (gM (by simpa using hx)))
     |const v=>rfl
     |func f=>rfl
     |global g=>rfl
    rw[hev] at hrun;have hnd:∀ (q:Nat) oq t,l[q]? =some oq->mN q=true->oq.dst=some t->o.dst≠some t:=fun q oq t j1 j2 j3 e=>by have:=hB.ndst q i oq o t j1 h2' j2 j3 e;subst this;rw[hmi] at j2;cases j2
    have fin2:∀ (x:Value) (w':World),(∃X':GW,X'.w=w'/\J (done.length+1) X' (({ tmps:=tf,defers:=D }:Act).put o.dst x).tmps/\Ext F X1 X')->wpAny P .any l.toArray (dA F X D (Stk P Q ks)) fuel (listed.setIfInBounds i true) (a1.put o.dst x) w':=by
     rintro x w' ⟨X2,rfl,q3,q4⟩;have hnodup:=hB.cnodup;rw[c1] at hnodup
     refine ih (listed.setIfInBounds i true) X2 (a1.put o.dst x) (by simp[hsz]) hcnt (by rw[eG];exact hd1) ⟨(({ tmps:=tf,defers:=D }:Act).put o.dst x).tmps,done++ [i],r,by rw[c1];simp,fun j hj=> ?_,fun j hj=> ?_,⟨by rw[kg,kg];exact c4.size,fun t ht=> ?_,fun q oq t j1 j2 j3=> ?_⟩,by rw[ZR];exact q3,c7.trans q4,by rw[kg];exact c8,fun t ht=> ?_⟩ hdn'
     ·rw[hset];split
      ·rfl
      ·rcases aaf.1 hj with hj|hj
       ·exact c2 j hj
       ·rename_i hne;simp at hj;exact absurd hj hne
     ·have hji:j≠i:=by
       rintro rfl;have h6:=(List.nodup_append.1 hnodup).2.1;rw[abG] at h6;exact h6.1 hj
      rw[hset,ZH hji];exact c3 j (ZM _ hj)
     ·rw[ga,ga];have hsz2:({ tmps:=tf,defers:=D }:Act).tmps.size=a1.tmps.size:=c4.size;rw[hsz2];by_cases e:o.dst=some t/\t < a1.tmps.size
      ·rw[ZI e,ZI e]
      ·rw[ZH e,ZH e];refine c4.same t fun q oq j1 j2 j3=> ?_;have:=ht q oq j1 j2 j3;rw[hset] at this;by_cases e2:q=i
       ·subst e2;rw[hmi] at j2;cases j2
       ·rw[ZH e2] at this;exact this
     ·rw[ga,ZH (by rintro⟨h,_⟩;exact hnd q oq t j1 j2 j3 h)];exact c4.val q oq t j1 j2 j3
     ·rw[ga,ZH (by
       rintro⟨h,_⟩;have:=(ht i o h2' h).2;rw[hset,ZI rfl] at this;cases this)]
      refine c9 t fun q oq j1 j2=> ?_;obtain⟨m1,m2⟩:=ht q oq j1 j2;refine⟨m1,?_⟩;rw[hset] at m2;by_cases e2:q=i
      ·rw[ZI e2] at m2;cases m2
      ·rw[ZH e2] at m2;exact m2
    have pan:∀ (v:Value) (w':World),(∃ (X':GW) (H2:List (Nat × List AV)) (tm2:Array Value),X'.w=w'/\Stk P Q ks (.panic [{ v:=v,recovered:=false }]) ⟨a.tmps.size,[],H2,[]⟩/\SimE F X' ⟨a.tmps.size,[],H2,[]⟩ tm2/\Ext F X1 X')->dA F X D (Stk P Q ks) (.panic [{ v:=v,recovered:=false }]) a1 w':=by
     rintro v w' ⟨X',H2,tm2,rfl,h3,h4,h5⟩;exact⟨hd1,X',_,rfl,h3,h4.slotless c8,c7.trans h5⟩
    unfold Oper.wp;generalize (execOp a1.eval o).run P X1.w=r at hrun ⊢;cases r with
    |halt z w=>cases z<;> simp only[il] at hrun;exact pan _ _ hrun
    |ok nx w=>
     cases nx<;> simp only[il] at hrun<;> simp only[Oper.upon]
     case value x=>exact fin2 _ _ hrun
     case skip=>exact fin2 _ _ hrun
     case enter f args=>
      refine hrun.mono fun e w' he=> ?_;cases e with
      |returned v=>exact fin2 _ _ he
      |panicked ch=>obtain⟨v,rfl,he⟩:=he;exact pan _ _ he
      |outgrown=>exact he.elim
 have hno:∀i,(Array.replicate l.toArray.size false).getD i false=false:=fun i=>by simp only[Array.getD_eq_getD_getElem?,Array.getElem?_replicate];split<;> simp
 refine key _ _ ⟨X.w.drew,X.g⟩ a (by simp) (by refine aaM (aaH _ _) (by simp)) hdf ⟨tf0,[],cs,rfl,(fun i hi=>by cases hi),(fun i _=>hno i),⟨hf1,(fun t ht=>hf2 t fun q o k1 k2 k3=>by have:=ht q o k1 k2 k3;rw[hno] at this;cases this),hf3⟩,hJ,hXd.ext hs.gb hs.fb,rfl,fun t _=>rfl⟩ (fun j oj _ hf=>by rw[hno] at hf;cases hf)
end
def rp{F:Nat->Prop}{X:GW}{k off:Nat}{cs:List AV}{u:AV}(h:eN F X k cs)(hm:fU cs=false)(hu:cs[off]? =some u):∃v,X.w.cell? ⟨k,off,none⟩=some v/\Rel X u v:=by
 obtain⟨b1,b2,arr,el,fr,b3,b4,b5,b6⟩:=h.cells hm;have hlt:off < arr.size:=by rw[b4];exact(ZD.1 hu).1
 exact⟨arr[off],by simp[World.cell?,b3,hlt],b6 off u _ hu (ZV hlt)⟩
def bst(mB:Nat->Bool)(i:Nat)(O:AS):AS:=match mB i with|true=>O|false=>O.withH []
def UO(P:Program)(o:Oper)(O:AS)(k off:Nat)(u:AV):Prop:=
 (∃cs u0,look O.h k=some cs/\fU cs=false/\cs[off]? =some u0/\u=u0.rd)/\(∀s,o.op≠.move (.tmp s))/\∀F X (a:Act),SimR F X O o.op a.tmps->∃v,X.w.cell? ⟨k,off,none⟩=some v/\(execOp a.eval o).run P X.w=.ok (.value v) X.w
def tg(ld:List (Nat × Nat × Nat))(d:Nat):Option (Nat × Nat × Nat):=ld.find? fun p=>p.1==d
def Ut(P:Program)(l:List Oper)(mN mB:Nat->Bool)(ld:List (Nat × Nat × Nat))(i:Nat)(O:AS)(o:Oper)(u:AV):Prop:=
 de (some u)=none/\∀d,o.dst=some d->match tg ld d with
  |some p=>mB i=true/\UO P o O p.2.1 p.2.2 u
  |none=>(∃x,u=.v x)\/∃s,o.op=.move (.tmp s)/\∀ (q:Nat) o',l[q]? =some o'->mN q=true->o'.dst≠some s
def ub(P:Program)(l:List Oper)(mN mB:Nat->Bool)(ld:List (Nat × Nat × Nat))(K:AS->Prop):Nat->List Oper->AS->Prop
 |_,[],O=>K O
 |k,o::rest,O=>match mN k with
  |true=>∃d u,o.dst=some d/\o.guard=none/\Nat.ble (d+1) O.n=true/\OpV P o (bst mB k O) u/\Ut P l mN mB ld k O o u/\ub P l mN mB ld K (k+1) rest (O.put d u)
  |false=>ub P l mN mB ld K (k+1) rest O
section
variable {P:Program} {Q:Exit->AS->Prop} {ks:List It} {O:AS} {K:AS->Prop} {l:List Oper} {mN mB:Nat->Bool} {ld:List (Nat × Nat × Nat)}
def uy(L:List Oper):∀ (rest:List Oper) (k:Nat) (O:AS),ub P L mN mB ld K k rest O->∃us:List AV,us.length=rest.length/\K (puts O (msk mN k rest) us)/\
  ∀ (i:Nat) o u,rest[i]? =some o->us[i]? =some u->mN (k+i)=true->∃d,o.dst=some d/\o.guard=none/\Nat.ble (d+1) O.n=true/\OpV P o (bst mB (k+i) (puts O ((msk mN k rest).take i) (us.take i))) u/\Ut P L mN mB ld (k+i) (puts O ((msk mN k rest).take i) (us.take i)) o u
 | [],k,O,h=>⟨[],rfl,h,fun i o u h=>by simp at h⟩
 |o::rest,k,O,h=>by
  unfold ub at h;cases hm:mN k with
  |true=>
   rw[hm] at h;obtain⟨d,u,h1,h2,h3,h4,h5,h6⟩:=h;obtain⟨us,k1,k2,k3⟩:=uy L rest (k+1) (O.put d u) h6;refine⟨u::us,by simp[k1],by simp only[msk,hm,puts,h1];exact k2,fun i o' u' ho hu hmi=> ?_⟩;cases i with
   |zero=>simp at ho hu;subst ho hu;exact⟨d,h1,h2,h3,h4,h5⟩
   |succ i=>
    obtain⟨d',m1,m2,m3,m4,m5⟩:=k3 i o' u' (by simpa using ho) (by simpa using hu) (by rw[show k+1+i=k+ (i+1) by omega];exact hmi);rw[show k+1+i=k+ (i+1) by omega] at m4 m5;refine⟨d',m1,m2,m3,?_,?_⟩
    ·simp only[msk,hm,List.take_succ_cons,puts,h1];exact m4
    ·simp only[msk,hm,List.take_succ_cons,puts,h1];exact m5
  |false=>
   rw[hm] at h;obtain⟨us,k1,k2,k3⟩:=uy L rest (k+1) O h;refine⟨.v undef::us,by simp[k1],by simp only[msk,hm,puts,noOp];exact k2,fun i o' u' ho hu hmi=> ?_⟩;cases i with
   |zero=>rw[aa6,hm] at hmi;cases hmi
   |succ i=>
    obtain⟨d',m1,m2,m3,m4,m5⟩:=k3 i o' u' (by simpa using ho) (by simpa using hu) (by rw[show k+1+i=k+ (i+1) by omega];exact hmi);rw[show k+1+i=k+ (i+1) by omega] at m4 m5;refine⟨d',m1,m2,m3,?_,?_⟩
    ·simp only[msk,hm,List.take_succ_cons,puts,noOp];exact m4
    ·simp only[msk,hm,List.take_succ_cons,puts,noOp];exact m5
def tL(P:Program)(o:Oper)(O:AS)(R:AS->Prop)(RP:Value->List (Nat × List AV)->Prop):Prop:=
 ∀F X (a:Act),SimE F X O a.tmps->il P (fun x w'=>∃ (X':GW) (σ':AS),X'.w=w'/\R σ'/\SimE F X' σ' (a.put o.dst x).tmps/\Ext F X X') (fun v w'=>∃ (X':GW) (H2:List (Nat × List AV)),X'.w=w'/\RP v H2/\SimE F X' ⟨O.n,[],H2,[]⟩ a.tmps/\Ext F X X') ((execOp a.eval o).run P X.w)
def pj(P:Program)(n:Nat)(RP:Value->List (Nat × List AV)->Prop)(K:AS->Prop):List Oper->AS->Prop
 | [],O=>K O
 |o::rest,O=>O.n=n/\tL P o O (pj P n RP K rest) RP
def AS.alc(O:AS)(ld:List (Nat × Nat × Nat)):AS:={ n:=O.n,t:=O.t,h:=O.h,e:=ld.map (fun p=>(p.1,Root.c p.2.1 p.2.2))++O.e }
def JU{F:Nat->Prop}{X:GW}{tm:Array Value}:∀ {ld:List (Nat × Nat × Nat)} {O:AS},SimE F X O tm->(∀p∈ld,X.w.cell? ⟨p.2.1,p.2.2,none⟩=some (tm.getD p.1 undef))->SimE F X (O.alc ld) tm
 | [],O,h,_=>h
 |p::ld,O,h,hm=>(JU h fun q hq=>hm q (ZM _ hq)).alias (d:=p.1) (r:=.c p.2.1 p.2.2) (hm p ZP)
theorem vn:∀ {ld:List (Nat × Nat × Nat)} {p:Nat × Nat × Nat},(ld.map (·.1)).Nodup->p∈ld->tg ld p.1=some p
 | [],p,_,h=>by cases h
 |q::ld,p,hn,h=>by
  rw[aap,abG] at hn;unfold tg;rw[List.find?_cons];rcases ZY.1 h with rfl|h
  ·simp
  ·have:(q.1==p.1)=false:=by
    simp only[beq_eq_false_iff_ne];exact fun e=>hn.1 (by rw[e];exact aaQ h)
   rw[this];exact vn hn.2 h
end
section
variable {P:Program} {Q:Exit->AS->Prop} {ks:List It} {O:AS} {K:AS->Prop} {l:List Oper} {mN mB:Nat->Bool} {ld:List (Nat × Nat × Nat)}
def il.mono{R R':Value->World->Prop}{RP RP':Value->World->Prop}{r:Result Next}(h:il P R RP r)(hR:∀x w,R x w->R' x w)(hP:∀v w,RP v w->RP' v w):il P R' RP' r:=by
 cases r with
 |halt z w=>cases z<;> simp only[il] at h ⊢ <;> first|exact hP _ _ h|exact h.elim
 |ok nx w=>
  cases nx<;> simp only[il] at h ⊢
  case value x=>exact hR _ _ h
  case skip=>exact hR _ _ h
  case enter f args=>
   refine h.mono fun e w' he=> ?_;cases e with
   |returned v=>exact hR _ _ he
   |panicked ch=>obtain⟨v,rfl,he⟩:=he;exact⟨v,rfl,hP _ _ he⟩
   |outgrown=>exact he.elim
def Jn(i:Nat)(O:AS):(bst mB i O).t=O.t:=by unfold bst;cases mB i<;> rfl
def Kt{i:Nat}{O:AS}{k:Nat}{c:List AV}(h:look (bst mB i O).h k=some c):mB i=true/\look O.h k=some c:=by
 unfold bst at h;cases hb:mB i with
 |true=>rw[hb] at h;exact⟨rfl,h⟩
 |false=>rw[hb] at h;cases h
def vl(X:GW)(tm:Array Value)(ld:List (Nat × Nat × Nat))(o:Oper)(u:AV):Value:=match o.dst with
 |some d=>match tg ld d with
  |some p=>(X.w.cell? ⟨p.2.1,p.2.2,none⟩).getD undef
  |none=>Qa { tmps:=tm,defers:=[] } u o.op
 |none=>undef
set_option maxHeartbeats 1000000
def Mt{id:Nat}{st:Nat->Bool}{cs1 cs2:List Nat}(hm:P.follows .mixedOrders=true)(hB:MixOk l mN (cs1++cs2))(hmB:∀ (i c:Nat) o,mN i=true->mB i=true->cs2.head? =some c->l[c]? =some o->∀p:Nat->Prop,(∀ (q:Nat) oq,l[q]? =some oq->p q->∀d∈cq oq,p d)->p c->p i)(he:O.e=[])(hldn:(ld.map (·.1)).Nodup)(hldb:∀p∈ld,∃ (q:Nat) (o:Oper),l[q]? =some o/\mN q=true/\o.dst=some p.1)
  (h:ub P l mN mB ld (fun σ'=>pj P O.n (fun v H2=>∃H3,(∀k cs,look H3 k=some cs->look (H2++O.h.filter fun p=>st p.1) k=some cs)/\Stk P Q ks (.panic [{ v:=v,recovered:=false }]) ⟨O.n,[],H3,[]⟩) (fun σ2=>pj P O.n (fun v H2=>Stk P Q ks (.panic [{ v:=v,recovered:=false }]) ⟨O.n,[],H2,[]⟩) (fun σ3=>br P Q ks σ3) (cs2.filterMap fun i=>l[i]?) ((σ2.withH (σ2.h++O.h.filter fun p=>st p.1)).alc ld)) (cs1.filterMap fun i=>l[i]?) ((σ'.withH (O.h.filter fun p=> !st p.1)).als (kh l mN 0 l))) 0 l (O.withH (O.h.filter fun p=>st p.1))):
  br P Q (.c (.region id l.toArray true)::ks) O:=by
 obtain⟨us,hul,hK,hstep⟩:=uy l l 0 _ h;simp only[Nat.zero_add] at hstep;refine P4 (cs:=cs1++cs2) (lim:=fun i=>match mB i with|true=>cs1.length|false=>(cs1++cs2).length) hm hB (fun i j c o hmi hj hc ho=> ?_) (fun i o ho hmi=> ?_) fun F X tm D hs=> ?_
 ·cases hb:mB i with
  |true=>simp only[hb] at hj;subst hj;rw[ZJ (ZN _),aau] at hc;exact hmB i c o hmi hb (by rw[List.head?_eq_getElem?];exact hc) ho
  |false=>simp only[hb] at hj;subst hj;rw[abi (ZN _)] at hc;cases hc
 ·have hil:=(ZD.1 ho).1;obtain⟨d,k1,k2,k3,_⟩:=hstep i o us[i] ho (ZE (by omega)) hmi;exact⟨d,k1,k2,bJ k3⟩
 have hsa:=hs.aside st he;generalize hH1:(O.h.filter fun p=>st p.1)=H1 at *;generalize hH0:(O.h.filter fun p=> !st p.1)=H0 at *;have h1look:∀k c,look H1 k=some c->st k=true/\look O.h k=some c:=fun k c hk=>by
  rw[<- hH1,nQ] at hk;by_cases e:st k=true
  ·rw[ZI e] at hk;exact⟨e,hk⟩
  ·rw[ZH e] at hk;cases hk
 have hbox1:∀k c,look H1 k=some c->eN F X k c:=fun k c hk=>hs.box k c (h1look k c hk).2;have hmdis:∀ (q q':Nat) o o' d,(msk mN 0 l)[q]? =some o->(msk mN 0 l)[q']? =some o'->o.dst=some d->o'.dst=some d->q=q':=fun q q' o o' d h1 h2 h3 h4=>by obtain⟨k1,k2⟩:=rI h1 h3;obtain⟨k3,k4⟩:=rI h2 h4;exact hB.ndst q q' o o' d k2 k4 k1 h3 h4
 have hml:us.length=(msk mN 0 l).length:=by rw[re,hul]
 have hputs:∀ (i:Nat) (t:Nat) (u:AV),look (puts (O.withH H1) ((msk mN 0 l).take i) (us.take i)).t t=some u->(∃q o,q < i/\l[q]? =some o/\mN q=true/\o.dst=some t/\us[q]? =some u)\/(look O.t t=some u/\∀q o,q < i->l[q]? =some o->mN q=true->o.dst≠some t):=by
  intro i t u hu;rw[iF _ _ _ _ (by simp[hml]) (fun q q' o1 o2 d h1 h2 h3 h4=>by
   rw[ZX] at h1 h2;split at h1
   ·split at h2
    ·exact hmdis q q' o1 o2 d h1 h2 h3 h4
    ·cases h2
   ·cases h1)] at hu
  cases hf:(((msk mN 0 l).take i).zip (us.take i)).find? (fun p=>p.1.dst==some t) with
  |some p=>
   rw[hf] at hu;cases hu;have hmem:=aav hf;have hpd:p.1.dst=some t:=by simpa using aa7 hf
   obtain⟨q,hq⟩:=aab hmem;rw[Z8,ZX,ZX] at hq;have hqi:q < i:=by apply Z7;intro hc;rw[ZH hc] at hq;cases hq.1
   rw[ZI hqi,ZI hqi] at hq;obtain⟨k1,k2⟩:=rI hq.1 hpd;exact .inl ⟨q,p.1,hqi,k2,k1,hpd,hq.2⟩
  |none=>
   rw[hf] at hu;refine .inr ⟨hu,fun q o hqi hlo hmq hod=> ?_⟩;have hql:=(ZD.1 hlo).1;have hmq':(msk mN 0 l)[q]? =some o:=by rw[xp mN 0 l q o hlo,Z6,hmq]
   have hmem:(o,us[q]'(by omega))∈((msk mN 0 l).take i).zip (us.take i):=by
    refine ZQ (i:=q) (Z8.2 ⟨?_,?_⟩)
    ·rw[ZX,ZI hqi];exact hmq'
    ·rw[ZX,ZI hqi];exact ZE (by omega)
   exact absurd (by simpa using hod) (aaI.1 hf _ hmem)
 refine⟨fun(q:Nat)=>match l[q]?,us[q]? with
  |some o,some u=>vl X tm ld o u
  |_,_=>undef,?_⟩
 generalize hVdef:(fun(q:Nat)=>match l[q]?,us[q]? with
  |some o,some u=>vl X tm ld o u
  |_,_=>undef)=V
 have hV:∀ (q:Nat) o u,l[q]? =some o->us[q]? =some u->V q=vl X tm ld o u:=fun q o u ho hu=>by rw[<- hVdef];simp only[ho,hu]
 have hmv:∀ (q:Nat) o u s,l[q]? =some o->us[q]? =some u->mN q=true->o.op=.move (.tmp s)->(∀ (q':Nat) o',l[q']? =some o'->mN q'=true->o'.dst≠some s)->Rel X u (tm.getD s undef):=by
  intro q o u s ho hu hmq hop hns;obtain⟨d,k1,k2,k3,k4,k5,k6⟩:=hstep q o u ho hu hmq;refine(uW (F:=F) (a:={ tmps:=tm,defers:=[] }) hop k4 ⟨hs.gb,hs.fb,fun t u' ht hu'=> ?_,fun k c hk=> ?_⟩).1
  ·rw[hop] at ht;simp[Op.operands] at ht;subst ht;rw[Jn] at hu';rcases hputs q t u' hu' with ⟨q',o',_,k7,k9,k8,_⟩| ⟨k7,_⟩
   ·exact absurd k8 (hns q' o' k7 k9)
   ·exact hs.slot t u' k7
  ·have:=(Kt hk).2;rw[jC] at this;exact hbox1 k c this
 have relV:∀ (q:Nat) o u,l[q]? =some o->us[q]? =some u->mN q=true->Rel X u (V q)/\de (some u)=none:=by
  intro q o u ho hu hmq;obtain⟨d,k1,k2,k3,k4,k5,k6⟩:=hstep q o u ho hu hmq;refine⟨?_,k5⟩;rw[hV q o u ho hu];have k7:=k6 d k1;unfold vl;simp only[k1];cases hld:tg ld d with
  |some p=>rw[hld] at k7;obtain⟨_,⟨cs,u0,j1,j2,j3,rfl⟩,_,_⟩:=k7;rw[jC] at j1;obtain⟨v,g1,g2⟩:=rp (hbox1 _ _ j1) j2 j3;simp only[g1,Option.getD_some];exact g2.rd
  |none=>
   rw[hld] at k7;rcases k7 with ⟨x,rfl⟩| ⟨s,hop,hns⟩
   ·exact .v x
   ·by_cases hx:∃x,u=.v x
    ·obtain⟨x,rfl⟩:=hx;exact .v x
    ·have hval:Qa { tmps:=tm,defers:=[] } u o.op=tm.getD s undef:=by
      rw[hop];cases u<;> first|rfl|exact absurd ⟨_,rfl⟩ hx
     rw[hval];exact hmv q o u s ho hu hmq hop hns
 refine⟨fun j X1 tf=>tf.size=tm.size/\(∀ (q:Nat) o t,l[q]? =some o->mN q=true->o.dst=some t->tf.getD t undef=V q)/\Ext F X X1/\((j<=cs1.length/\∃σ1,SimE (iQ F X H1) X1 σ1 tf/\Ext (iQ F X H1) X X1/\pj P O.n (fun v H2=>∃H3,(∀k cs,look H3 k=some cs->look (H2++H1) k=some cs)/\Stk P Q ks (.panic [{ v:=v,recovered:=false }]) ⟨O.n,[],H3,[]⟩) (fun σ2=>pj P O.n (fun v H2=>Stk P Q ks (.panic [{ v:=v,recovered:=false }]) ⟨O.n,[],H2,[]⟩) (fun σ3=>br P Q ks σ3) (cs2.filterMap fun i=>l[i]?) ((σ2.withH (σ2.h++H1)).alc ld)) ((cs1.drop j).filterMap fun i=>l[i]?) σ1)\/
  (cs1.length < j/\∃σ1,SimE F X1 σ1 tf/\pj P O.n (fun v H2=>Stk P Q ks (.panic [{ v:=v,recovered:=false }]) ⟨O.n,[],H2,[]⟩) (fun σ3=>br P Q ks σ3) ((cs2.drop (j - cs1.length)).filterMap fun i=>l[i]?) σ1)),fun tf0 hf=> ?_⟩
 obtain⟨hf1,hf2,hf3⟩:=hf;have hfull:∀t u,look (puts (O.withH H1) (msk mN 0 l) us).t t=some u->(∃ (q:Nat) (o:Oper),l[q]? =some o/\mN q=true/\o.dst=some t/\us[q]? =some u)\/(look O.t t=some u/\∀ (q:Nat) o,l[q]? =some o->mN q=true->o.dst≠some t):=by
  intro t u hu;have e1:(msk mN 0 l).take l.length=msk mN 0 l:=aan (by rw[re];omega);have e2:us.take l.length=us:=aan (by omega);rcases hputs l.length t u (by rw[e1,e2];exact hu) with ⟨q,o,_,k⟩| ⟨k1,k2⟩
  ·exact .inl ⟨q,o,k⟩
  ·exact .inr ⟨k1,fun q o ho=>k2 q o (ZD.1 ho).1 ho⟩
 have hs0:SimE (iQ F X H1) X (((puts (O.withH H1) (msk mN 0 l) us).withH H0).als (kh l mN 0 l)) tf0:=by
  refine uC (hsa.other (by rw[hf1,hs.size];exact(oL (msk mN 0 l) us (O.withH H1)).symm) hsa.fb (fun t u hu=> ?_) (fun k c hk=>⟨hk,(hsa.box k c hk).nF⟩) (vo (msk mN 0 l) us (O.withH H1) he) (fun r=>r) (fun r sz lw ho=>.inr ?_) (fun _ _ _ _ _ _ _ _ hne _ _ _ _=>hne)) fun p hp=> ?_
  ·rcases hfull t u hu with ⟨q,o,k1,k2,k3,k4⟩| ⟨k1,k2⟩
   ·rw[hf3 q o t k1 k2 k3];exact(relV q o u k1 k4 k2).1
   ·rw[hf2 t k2];exact hs.slot t u k1
  ·have fin:∀r,(O.withH H0).own r=some (sz,lw)->rootV tf0 X.w r=rootV tm X.w r->(O.withH H0).own r=some (sz,lw)/\rootV tf0 X.w r=rootV tm X.w r/\∀a n c,rootV tf0 X.w r=some (.slice (some a) n c)->¬iQ F X H1 a.block:=fun r h1 h2=>⟨h1,h2,fun a n c hr=>by
    obtain⟨x,hx,hok⟩:=hsa.own r sz lw h1;rw[h2,hx] at hr;cases hr;exact(mY hok).2.1⟩
   cases r with
   |s t=>
    obtain⟨k0⟩:look (puts (O.withH H1) (msk mN 0 l) us).t t=some (.sl true sz lw)/\True:=⟨lX ho,trivial⟩
    rcases hfull t _ k0 with ⟨q,o,k1,k2,k3,k4⟩| ⟨k1,k2⟩
    ·have:=(relV q o _ k1 k4 k2).2;cases this
    ·exact fin (.s t) (by simp only[AS.own,AS.withH,k1];rfl) (by simp only[rootV,hf2 t k2])
   |c k o=>exact fin (.c k o) ho rfl
  ·obtain⟨i,o,k1,k2,k3,k4,k5⟩:=sY l 0 p hp;rw[Z6] at k2;have hil:=(ZD.1 k1).1;have hui:us[i]? =some us[i] :=ZE (by omega);obtain⟨d,j1,_,_,_,_,j6⟩:=hstep i o us[i] k1 hui k2;have j7:=j6 p.1 k3;rw[hf3 i o p.1 k1 k2 k3,hf2 p.2 k5,hV i o us[i] k1 hui];unfold vl;simp only[k3];cases hld:tg ld p.1 with
   |some p'=>rw[hld] at j7;exact absurd k4 (j7.2.2.1 p.2)
   |none=>
    have hr:=hmv i o us[i] p.2 k1 hui k2 k4 k5;generalize us[i] =u at hr ⊢;by_cases hx:∃x,u=.v x
    ·obtain⟨x,rfl⟩:=hx;exact(cE hr).symm
    ·rw[k4];cases u<;> first|rfl|exact absurd ⟨_,rfl⟩ hx
 have back:∀X1 tf σ1,(∀ (q:Nat) o t,l[q]? =some o->mN q=true->o.dst=some t->tf.getD t undef=V q)->SimE (iQ F X H1) X1 σ1 tf->Ext (iQ F X H1) X X1->SimE F X1 ((σ1.withH (σ1.h++H1)).alc ld) tf:=by
  intro X1 tf σ1 hv h1 hx;refine JU (hs.backO (fun k cs hk=>(h1look k cs hk).2) h1 (fun b hb=>hb) hx) fun p hp=> ?_;obtain⟨q,o,j1,j2,j3⟩:=hldb p hp;have hql:=(ZD.1 j1).1;have huq:us[q]? =some us[q] :=ZE (by omega);obtain⟨d,k1,_,_,_,_,k6⟩:=hstep q o us[q] j1 huq j2;have k7:=k6 p.1 j3;rw[vn hldn hp] at k7
  obtain⟨_,⟨cs,u0,g1,g2,g3,_⟩,_,_⟩:=k7;rw[jC] at g1;obtain⟨v,g4,_⟩:=rp (hbox1 _ _ g1) g2 g3;rw[hv q o p.1 j1 j2 j3,hV q o us[q] j1 huq,dm (hx.frame p.2.1 (.inr (.inl ⟨cs,g1⟩))).1,g4];unfold vl;simp only[j3,vn hldn hp,g4,Option.getD_some]
 refine⟨⟨hf1,hf3,Ext.refl _ _,.inl ⟨aad _,_,hs0,Ext.refl _ _,by rw[abl];exact hK⟩⟩,?_,?_,?_⟩
 ·rintro i o j X1 a1 tf ho hmi hj ⟨g0,g1,gx,hJ⟩ hsee;have hil:=(ZD.1 ho).1;have hui:us[i]? =some us[i] :=ZE (by omega);obtain⟨d,k1,k2,k3,k4,k5,k6⟩:=hstep i o us[i] ho hui hmi;have hgb:(∀b n,X1.g b=some n->b < X1.w.heap.size)/\(∀b,F b->b < X1.w.heap.size):=by
   rcases hJ with ⟨_,σ1,q1,_⟩| ⟨_,σ1,q1,_⟩
   ·exact⟨q1.gb,fun b hb=>q1.fb b (.inl hb)⟩
   ·exact⟨q1.gb,q1.fb⟩
  have hph:mB i=true->Ext (iQ F X H1) X X1:=fun hb=>by
   simp only[hb] at hj;rcases hJ with ⟨_,σ1,_,q2,_⟩| ⟨q0,_⟩
   ·exact q2
   ·omega
  have hR:SimR F X1 (bst mB i (puts (O.withH H1) ((msk mN 0 l).take i) (us.take i))) o.op a1.tmps:=by
   refine⟨hgb.1,hgb.2,fun t u ht hu=> ?_,fun k c hk=> ?_⟩
   ·have hts:t∈dk l o:=by simp only[dk];exact aar _ (gM ht)
    rw[Jn] at hu;rw[hsee t hts];rcases hputs i t u hu with ⟨q,oq,_,j1,j2,j3,j4⟩| ⟨j1,j2⟩
    ·rw[hf3 q oq t j1 j2 j3];exact(relV q oq u j1 j4 j2).1.mono gx.pres
    ·rw[hf2 t fun q o' hq hmq hod=>j2 q o' (hB.settled i o q o' t ho hq hmq hod hts).1 hq hmq hod];exact(hs.slot t u j1).mono gx.pres
   ·obtain⟨hb,hk⟩:=Kt hk;rw[jC] at hk;have hbx:=hbox1 k c hk;have hE:=hph hb;exact hbx.keep ⟨(hE.frame k (.inr (.inl ⟨c,hk⟩))).1,(hE.frame k (.inr (.inl ⟨c,hk⟩))).2,hbx.nF⟩ hE.pres
  have k7:=k6 d k1;have hVi:=hV i o us[i] ho hui;unfold vl at hVi;simp only[k1] at hVi;cases hld:tg ld d with
  |some p=>
   rw[hld] at k7;simp only[hld] at hVi;obtain⟨hb,⟨cs,u0,e1,e2,e3,_⟩,_,hrun⟩:=k7;have hR2:SimR F X1 (puts (O.withH H1) ((msk mN 0 l).take i) (us.take i)) o.op a1.tmps:=by
    have:bst mB i (puts (O.withH H1) ((msk mN 0 l).take i) (us.take i))=puts (O.withH H1) ((msk mN 0 l).take i) (us.take i):=by unfold bst;rw[hb]
    rw[this] at hR;exact hR
   obtain⟨v,v1,v2⟩:=hrun F X1 a1 hR2;rw[jC] at e1;have hc:X.w.cell? ⟨p.2.1,p.2.2,none⟩=some v:=by rw[<- dm ((hph hb).frame p.2.1 (.inr (.inl ⟨cs,e1⟩))).1];exact v1
   unfold jz;rw[v2];exact⟨by rw[hVi,hc];rfl,X1,rfl,⟨g0,g1,gx,hJ⟩,Ext.refl _ _⟩
  |none=>
   rw[hld] at k7;simp only[hld] at hVi;rcases k7 with ⟨x,hx⟩| ⟨s,hop,hns⟩
   ·refine(k4 F X1 a1 hR).mono fun y w' ⟨X2,q1,q2,q3,q4,_⟩=>⟨?_,X2,q1,⟨g0,g1,gx.trans (q2.ext hgb.1 hgb.2),?_⟩,q2.ext hgb.1 hgb.2⟩
    ·rw[hx] at q4 hVi;rw[hVi];exact cE q4
    ·rcases hJ with ⟨e1,σ1,e2,e3,e4⟩| ⟨e1,σ1,e2,e3⟩
     ·exact .inl ⟨e1,σ1,e2.new q2 q3,e3.trans (q2.ext e2.gb e2.fb),e4⟩
     ·exact .inr ⟨e1,σ1,e2.new q2 q3,e3⟩
   ·have hex:=(uW hop k4 hR).2;unfold jz;rw[hex];refine⟨?_,X1,rfl,⟨g0,g1,gx,hJ⟩,Ext.refl _ _⟩;rw[hsee s (by simp only[dk,hop];exact aar _ (by simp[Op.operands,sQ])),hf2 s hns,hVi];have hr:=hmv i o us[i] s ho hui hmi hop hns;generalize us[i] =u at hr ⊢;by_cases hx:∃x,u=.v x
    ·obtain⟨x,rfl⟩:=hx;exact cE hr
    ·rw[hop];cases u<;> first|rfl|exact absurd ⟨_,rfl⟩ hx
 ·rintro j c o X1 tf hcj hlo ⟨g0,g1,gx,hJ⟩
  have hcm:mN c=false:=(hB.call c (ZD.1 hlo).1).2 (ZQ hcj);have hsz:tm.size=O.n:=hs.size;have hput:∀x,(({ tmps:=tf,defers:=D }:Act).put o.dst x).tmps.size=tm.size/\∀ (q:Nat) oq t,l[q]? =some oq->mN q=true->oq.dst=some t->(({ tmps:=tf,defers:=D }:Act).put o.dst x).tmps.getD t undef=V q:=fun x=>by
   refine⟨by rw[kg];exact g0,fun q oq t h1 h2 h3=> ?_⟩;rw[ga,ZH]
   ·exact g1 q oq t h1 h2 h3
   ·rintro⟨e,_⟩;have:=hB.ndst q c oq o t h1 hlo h2 h3 e;subst this;rw[hcm] at h2;cases h2
  have two:∀ (σ1:AS) (rest:List Nat),cs1.length<=j->rest=cs2.drop (j+1 - cs1.length)->SimE F X1 σ1 tf->pj P O.n (fun v H2=>Stk P Q ks (.panic [{ v:=v,recovered:=false }]) ⟨O.n,[],H2,[]⟩) (fun σ3=>br P Q ks σ3) (o::rest.filterMap fun i=>l[i]?) σ1->_:=fun σ1 rest hjl hrest h1 h2=>
   il.mono (R':=fun x w'=>∃X':GW,X'.w=w'/\(((({ tmps:=tf,defers:=D }:Act).put o.dst x).tmps.size=tm.size/\(∀ (q:Nat) oq t,l[q]? =some oq->mN q=true->oq.dst=some t->(({ tmps:=tf,defers:=D }:Act).put o.dst x).tmps.getD t undef=V q)/\Ext F X X'/\∃σ2,SimE F X' σ2 (({ tmps:=tf,defers:=D }:Act).put o.dst x).tmps/\pj P O.n (fun v H2=>Stk P Q ks (.panic [{ v:=v,recovered:=false }]) ⟨O.n,[],H2,[]⟩) (fun σ3=>br P Q ks σ3) ((cs2.drop (j+1 - cs1.length)).filterMap fun i=>l[i]?) σ2))/\Ext F X1 X') (RP':=fun v w'=>∃ (X':GW) (H2:List (Nat × List AV)) (tm2:Array Value),X'.w=w'/\Stk P Q ks (.panic [{ v:=v,recovered:=false }]) ⟨tm.size,[],H2,[]⟩/\SimE F X' ⟨tm.size,[],H2,[]⟩ tm2/\Ext F X1 X') (h2.2 F X1 { tmps:=tf,defers:=D } h1) (fun x w' ⟨X',σ',e1,e2,e3,e4⟩=>⟨X',e1,⟨(hput x).1,(hput x).2,gx.trans e4,σ',e3,by rw[<- hrest];exact e2⟩,e4⟩) (fun v w' ⟨X',H2,e1,e2,e3,e4⟩=>⟨X',H2,tf,e1,by rw[hsz];exact e2,by rw[hsz,<- h2.1];exact e3,e4⟩)
  rcases hJ with ⟨e1,σ1,e2,e3,e4⟩| ⟨e1,σ1,e2,e3⟩
  ·by_cases hjl:j < cs1.length
   ·have hc1:cs1[j]? =some c:=by rw[ZO hjl] at hcj;exact hcj
    have hdr:cs1.drop j=c::cs1.drop (j+1):=by rw[aaw hjl];have:=ZE hjl;rw[hc1] at this;rw[ZZ this]
    rw[hdr,abo,hlo] at e4
    refine(e4.2 _ X1 { tmps:=tf,defers:=D } e2).mono (fun x w' ⟨X',σ',f1,f2,f3,f4⟩=>⟨X',f1,⟨(hput x).1,(hput x).2,gx.trans (f4.mono fun b hb=>.inl hb),.inl ⟨hjl,σ',f3,e3.trans f4,f2⟩⟩,f4.mono fun b hb=>.inl hb⟩) (fun v w' ⟨X',H2,f1,⟨H3,f5,f2⟩,f3,f4⟩=>⟨X',H3,tf,f1,by rw[hsz];exact f2,?_,f4.mono fun b hb=>.inl hb⟩)
    have:=hs.backO (fun k cs hk=>(h1look k cs hk).2) f3 (fun b hb=>hb) (e3.trans f4);rw[hsz,<- e4.1];exact SimE.sub this rfl (fun _ _ h=>by cases h) f5 (fun p hp=>by cases hp)
   ·have hje:j=cs1.length:=by omega
    have hc2:cs2[0]? =some c:=by rw[ZJ (by omega),hje,aau] at hcj;exact hcj
    cases hcs2:cs2 with
    |nil=>rw[hcs2] at hc2;cases hc2
    |cons c' r=>
     rw[hcs2] at hc2;simp at hc2;subst hc2;rw[hje,abR] at e4;have e5:pj P O.n (fun v H2=>Stk P Q ks (.panic [{ v:=v,recovered:=false }]) ⟨O.n,[],H2,[]⟩) (fun σ3=>br P Q ks σ3) (cs2.filterMap fun i=>l[i]?) ((σ1.withH (σ1.h++H1)).alc ld):=e4;rw[hcs2,abo,hlo] at e5
     refine(two _ r (by omega) (by rw[hcs2,hje];simp) (back X1 tf σ1 g1 e2 e3) e5).mono (fun x w' ⟨X',f1,⟨f2,f3,f4,σ2,f5,f6⟩,f7⟩=>⟨X',f1,⟨f2,f3,f4,.inr ⟨by omega,σ2,f5,by rw[<- hcs2];exact f6⟩⟩,f7⟩) (fun v w' h=>h)
  ·have hc2:cs2[j - cs1.length]? =some c:=by
    rw[ZJ (by omega)] at hcj;exact hcj
   have hlt:=(ZD.1 hc2).1;have hdr:cs2.drop (j - cs1.length)=c::cs2.drop (j+1 - cs1.length):=by rw[aaw hlt,show j - cs1.length+1=j+1 - cs1.length by omega];have:=ZE hlt;rw[hc2] at this;rw[ZZ this]
   rw[hdr,abo,hlo] at e3;exact(two σ1 _ (by omega) rfl e2 e3).mono (fun x w' ⟨X',f1,⟨f2,f3,f4,σ2,f5,f6⟩,f7⟩=>⟨X',f1,⟨f2,f3,f4,.inr ⟨by omega,σ2,f5,f6⟩⟩,f7⟩) (fun v w' h=>h)
 ·rintro X1 tf ⟨g0,g1,gx,⟨g2,σ1,g3,g4,g5⟩| ⟨g2,σ1,g3,g4⟩⟩
  ·have e2:cs2=[] :=by
    rw[ZR] at g2;exact aal.1 (by omega)
   subst e2;rw[aax,abR] at g5;exact⟨_,back X1 tf σ1 g1 g3 g4,g5⟩
  ·rw[ZR,aaO (by omega)] at g4;exact⟨σ1,g3,g4⟩
end
section
variable {P:Program} {Q:Exit->AS->Prop} {ks:List It} {T:Tys P} {O:AS} {R:AS->Prop} {RP:Value->List (Nat × List AV)->Prop} {post:AOut->List (Nat × List AV)->Prop} {us:List AV} {ρs:List (Option Root)} {xs:Array Operand} {ats:Array TypeId} {f:FuncId} {d:Nat} {t ty:TypeId} {x:Operand} {pos:String} {af:Array Edge} {g:Option (Nat × Bool)}
def H7{R0:Value->World->Prop}{RP0:Value->World->Prop}{r:Result Next}(h:pL P R0 r):il P R0 RP0 r:=by
 cases r with
 |halt z w=>exact h.elim
 |ok nx w=>
  cases nx<;> simp only[pL] at h<;> simp only[il]
  case value x=>exact h
  case skip=>exact h
  case enter f args=>
   refine h.mono fun e w' he=> ?_;cases e with
   |returned v=>exact he
   |panicked ch=>exact he.elim
   |outgrown=>exact he.elim
def zj{o:Oper}(h:dM P o O R):tL P o O R RP:=fun F X a hs=>H7 (h F X a hs)
def Lt{b o:Nat}{cs:List AV}{u:AV}{dsc:TypeDesc}{dd:Option Tmp}(hx:opV O x=some (.v (.pointer (some ⟨b,o,none⟩))))(hb:look O.h b=some cs)(hu:cs[o]? =some u)(h0:look T.ty t=some dsc)(h1:kH dsc=true)(hm:fU cs=false):UO P ⟨dd,.load t x,ty,pos,af,g⟩ O b o u.rd:=by refine⟨⟨cs,u,hb,hm,hu,rfl⟩,fun s e=>(by cases e),fun F X a hs=> ?_⟩;have e1:=aZ hs (by simp[Op.operands]) hx;obtain⟨v,hc,_⟩:=rp (hs.box b cs hb) hm hu;exact⟨v,hc,by simp only[execOp,e1];exact bd (rt (T.tyOk _ _ h0) h1 hc)⟩
def y7{Hp Hr:List (Nat × List AV)}(hc:aI P f us Hp post)(ha:PArgs O xs.toList us ρs)(h1:oY ρs=true)(hroot:∀k o,some (Root.c k o)∈ρs->look Hp k=none)(hHp:∀k cs,look Hp k=some cs->look O.h k=some cs)(hHr:∀k cs,look Hr k=some cs->look (dV ρs O).h k=some cs/\look Hp k=none)(hd:Nat.ble (d+1) O.n=true)
  (hR:∀u H',post (.ret u) H'->(∀k cs,look H' k=some cs->look Hr k=none)->R (AS.nf ((eK O ρs Hr H').put d u))) (hP:∀v H',post (.pan v) H'->∃H2,(∀k cs,look H2 k=some cs->look (eK O ρs Hr H').h k=some cs)/\RP v H2) (hn:∀H',(eK O ρs Hr H').n=O.n):tL P ⟨some d,.call { callee:=.value (.func f),args:=xs,argTypes:=ats },ty,pos,af,g⟩ O R RP:=by
 intro F X a hs;have hlen:=ha.len;rw[Conc.execOp_call_func rfl,lP hc.1];simp only[il];refine(s8 (vs:=xs.map a.eval) hs hc (by simp[hlen.1]) (fun i u hu=> ?_) (fun i j r hi hj=>lK h1 i j r r hi hj) hroot hHp hHr (bJ hd)).mono fun e w' ⟨X',out,H',p1,p2,p3,p4,p5,p6⟩=> ?_
 ·obtain⟨x,I,hx,hρ,hp⟩:=ha.get i u hu;have hx':xs[i]? =some x:=by simpa using hx
  have:(xs.map a.eval).getD i undef=a.eval x:=by simp[hx']
  rw[this];exact⟨I,hρ,hp.val hs⟩
 ·cases out with
  |ret u=>obtain⟨v,rfl,hv⟩:=p5;exact⟨X',_,p1,hR u H' p2 p6,hv,p3⟩
  |pan x=>subst p5;obtain⟨H2,k1,k2⟩:=hP x H' p2;have h9:SimE F X' ⟨(eK O ρs Hr H').n,[],H2,[]⟩ a.tmps:=p4.sub rfl (fun _ _ h=>by cases h) k1 (fun p hp=>by cases hp);rw[hn] at h9;exact⟨x,rfl,X',H2,p1,k2,h9,p3⟩
def KQ{Hp Hr:List (Nat × List AV)}(hc:aI P f us Hp post)(ha:PArgs O xs.toList us ρs)(h1:oY ρs=true)(hroot:∀k o,some (Root.c k o)∈ρs->look Hp k=none)(hHp:∀k cs,look Hp k=some cs->look O.h k=some cs)(hHr:∀k cs,look Hr k=some cs->look (dV ρs O).h k=some cs/\look Hp k=none)(hd:Nat.ble (d+1) O.n=true)
  (hR:∀u H',post (.ret u) H'->R (AS.nf ((eK O ρs Hr H').put d u))) (hP:∀v H',post (.pan v) H'->∃H2,(∀k cs,look H2 k=some cs->look (eK O ρs Hr H').h k=some cs)/\RP v H2) (hn:∀H',(eK O ρs Hr H').n=O.n):tL P ⟨some d,.call { callee:=.value (.func f),args:=xs,argTypes:=ats },ty,pos,af,g⟩ O R RP:=
 y7 hc ha h1 hroot hHp hHr hd (fun u H' hp _=>hR u H' hp) hP hn
end
def zl:List Nat->Nat->Bool
 | [],_=>false
 |a::r,i=>match Nat.beq i a with|true=>true|false=>zl r i
def sy(l:List Oper)(done:List Nat):List Nat:=(List.range l.length).filter fun i=> !zl done i && match l[i]? with
 |some o=>(cq o).all (zl done)
 |none=>false
def HX(P:Program)(Q:Exit->AS->Prop)(ks:List It)(l:List Oper)(n0:Nat):Nat->List Nat->AS->Prop
 |0,done,O=>sy l done=[] /\br P Q ks O
 |n+1,done,O=>(sy l done=[] ->br P Q ks O)/\∀i∈sy l done,∀o,l[i]? =some o->O.n=n0/\o.guard=none/\tL P o O (HX P Q ks l n0 n (i::done)) fun v H2=>Stk P Q ks (.panic [{ v:=v,recovered:=false }]) ⟨n0,[],H2,[]⟩
def iC{i:Nat}:∀ {l:List Nat},zl l i=true ↔ i∈l
 | [] =>⟨fun h=>(by cases h),fun h=>(by cases h)⟩
 |a::r=>by
  unfold zl;rw[ZY];cases e:Nat.beq i a with
  |true=>exact⟨fun _=>.inl (ZK e),fun _=>rfl⟩
  |false=>
   refine⟨fun h=>.inr (iC.1 h),fun h=> ?_⟩;rcases h with rfl|h
   ·rw[aaL] at e;cases e
   ·exact iC.2 h
section
variable {P:Program} {Q:Exit->AS->Prop} {ks:List It} {O:AS} {l:List Oper}
def DI{done:List Nat}{i:Nat}:i∈sy l done ↔ i ∉ done/\∃o,l[i]? =some o/\∀d∈cq o,d∈done:=by
 unfold sy;rw[Z2,aaF];constructor
 ·rintro⟨h1,h2⟩;rw[ZT] at h2;have ho:l[i]? =some l[i] :=ZE h1;refine⟨fun hc=> ?_,l[i],ho,fun d hd=> ?_⟩
  ·rw[iC.2 hc] at h2;exact absurd h2.1 (by simp)
  ·have h3:=h2.2;rw[ho] at h3;exact iC.1 (ZL.1 h3 d hd)
 ·rintro⟨h1,o,ho,h2⟩;refine⟨(ZD.1 ho).1,?_⟩;rw[ZT];refine⟨?_,?_⟩
  ·cases e:zl done i with
   |false=>rfl
   |true=>exact absurd (iC.1 e) h1
  ·rw[ho];exact ZL.2 fun d hd=>iC.2 (h2 d hd)
def Xi{id:Nat}(hm:P.follows .mixedOrders=true)(h:HX P Q ks l O.n l.length [] O):br P Q (.c (.region id l.toArray true)::ks) O:=by
 intro F X a hs D hdf;have hXd:New X ⟨X.w.drew,X.g⟩:=⟨rfl,rfl,rfl,ZN _,fun _ _=>⟨rfl,rfl⟩⟩
 refine wp_region_any hm ?_
 have key:∀ (fuel:Nat) (done:List Nat) (listed:Array Bool) (X1:GW) (a1:Act) (σ1:AS),listed.size=l.length->(∀j,j < l.length->(listed.getD j false=true ↔ j∈done))->(∀d∈done,d < l.length)->a1.defers=D->a1.tmps.size=O.n->Ext F X X1->SimE F X1 σ1 a1.tmps->HX P Q ks l O.n fuel done σ1->wpAny P .any l.toArray (dA F X D (Stk P Q ks)) fuel listed a1 X1.w:=by
  intro fuel
  induction fuel with
  |zero=>
   intro done listed X1 a1 σ1 hsz hl hdn hd1 hn1 hx1 hs1 hA;have hr:∀i,i∈Region.ready .any l.toArray listed->i∈sy l done:=fun i hi=>by
    obtain⟨h1,o,h2,h3⟩:=mem_ready.1 hi;have h2':l[i]? =some o:=by simpa using h2
    have hil:=(ZD.1 h2').1;have hlf:listed.getD i false=false:=by rw[<- eZ (by omega)];exact h1
    refine DI.2 ⟨fun hc=>(by rw[(hl i hil).2 hc] at hlf;cases hlf),o,h2',fun d hd=> ?_⟩;obtain⟨e,k1,k2,k3⟩:=cG.1 hd;have:=h3 e k1 k2;rw[k3] at this;have hdl:d < l.length:=by apply Z7;intro hc;rw[aam,aa0 (by omega)] at this;cases this
    exact(hl d hdl).1 this
   refine⟨aaC.2 fun i hi=> ?_,hd1,X1,σ1,rfl,hA.2,hs1,hx1⟩;have:=hr i hi;rw[hA.1] at this;cases this
  |succ fuel ih=>
   intro done listed X1 a1 σ1 hsz hl hdn hd1 hn1 hx1 hs1 hA;have hr:∀i,i∈Region.ready .any l.toArray listed ↔ i∈sy l done:=fun i=>by
    rw[mem_ready,DI];constructor
    ·rintro⟨h1,o,h2,h3⟩;have h2':l[i]? =some o:=by simpa using h2
     have hil:=(ZD.1 h2').1;have hlf:listed.getD i false=false:=by rw[<- eZ (by omega)];exact h1
     refine⟨fun hc=>(by rw[(hl i hil).2 hc] at hlf;cases hlf),o,h2',fun d hd=> ?_⟩;obtain⟨e,k1,k2,k3⟩:=cG.1 hd;have:=h3 e k1 k2;rw[k3] at this;have hdl:d < l.length:=by apply Z7;intro hc;rw[aam,aa0 (by omega)] at this;cases this
     exact(hl d hdl).1 this
    ·rintro⟨h1,o,h2,h3⟩;have hil:=(ZD.1 h2).1;refine⟨?_,o,by simpa using h2,fun e he hb=> ?_⟩
     ·rw[eZ (by omega)];cases hc:listed.getD i false with
      |false=>rfl
      |true=>exact absurd ((hl i hil).1 hc) h1
     ·have hd:=h3 e.on (cG.2 ⟨e,he,hb,rfl⟩);exact(hl _ (hdn _ hd)).2 hd
   refine⟨fun hnil=>⟨hd1,X1,σ1,rfl,hA.1 (aaC.2 fun i hi=>by rw[<- hr i,hnil] at hi;cases hi),hs1,hx1⟩,fun i hi=> ?_⟩;have hi':=(hr i).1 hi;obtain⟨h1,o,h2,h3⟩:=DI.1 hi';have hil:=(ZD.1 h2).1;obtain⟨hn,hg,hE⟩:=hA.2 i hi' o h2;have hrun:=hE F X1 a1 hs1
   have fin2:∀ (x:Value) (w':World),(∃ (X':GW) (σ':AS),X'.w=w'/\HX P Q ks l O.n fuel (i::done) σ'/\SimE F X' σ' (a1.put o.dst x).tmps/\Ext F X1 X')->wpAny P .any l.toArray (dA F X D (Stk P Q ks)) fuel (listed.setIfInBounds i true) (a1.put o.dst x) w':=by
    rintro x w' ⟨X',σ',rfl,k1,k2,k3⟩;refine ih (i::done) (listed.setIfInBounds i true) X' (a1.put o.dst x) σ' (by simp[hsz]) (fun j hj=> ?_) (fun d hd=>(ZY.1 hd).elim (fun e=>e ▸ hil) (hdn d)) (by rw[eG];exact hd1) (by rw[kg];exact hn1) (hx1.trans k3) k2 k1;rw[bv false (by omega),ZY];by_cases e:j=i
    ·subst e;simp
    ·rw[ZH e,hl j hj];simp[e]
   have pan:∀ (v:Value) (w':World),(∃ (X':GW) (H2:List (Nat × List AV)),X'.w=w'/\Stk P Q ks (.panic [{ v:=v,recovered:=false }]) ⟨O.n,[],H2,[]⟩/\SimE F X' ⟨σ1.n,[],H2,[]⟩ a1.tmps/\Ext F X1 X')->dA F X D (Stk P Q ks) (.panic [{ v:=v,recovered:=false }]) a1 w':=by
    rintro v w' ⟨X',H2,rfl,k1,k2,k3⟩;rw[hn] at k2;exact⟨hd1,X',_,rfl,k1,k2,hx1.trans k3⟩
   have ho2:l.toArray[i]? =some o:=by simpa using h2
   unfold wpOp;simp only[ho2];have hw:Region.wanted o (yielded l.toArray a1.tmps)=true:=by unfold Region.wanted;rw[hg]
   rw[ZI hw];left;unfold Oper.wp;generalize (execOp a1.eval o).run P X1.w=r at hrun ⊢;cases r with
   |halt z w=>cases z<;> simp only[il] at hrun;exact pan _ _ hrun
   |ok nx w=>
    cases nx<;> simp only[il] at hrun<;> simp only[Oper.upon]
    case value x=>exact fin2 _ _ hrun
    case skip=>exact fin2 _ _ hrun
    case enter f args=>
     refine hrun.mono fun e w' he=> ?_;cases e with
     |returned v=>exact fin2 _ _ he
     |panicked ch=>obtain⟨v,rfl,he⟩:=he;exact pan _ _ he
     |outgrown=>exact he.elim
 have hno:∀i,(Array.replicate l.toArray.size false).getD i false=false:=fun i=>by simp only[Array.getD_eq_getD_getElem?,Array.getElem?_replicate];split<;> simp
 have:=key l.toArray.size [] (Array.replicate l.toArray.size false) ⟨X.w.drew,X.g⟩ a O (by simp) (fun j _=>by rw[hno];simp) (fun d hd=>by cases hd) hdf hs.size (hXd.ext hs.gb hs.fb) (hs.new hXd hs.gb) (by simpa using h);exact this
end
section
variable {P:Program} {Q:Exit->AS->Prop} {ks:List It} {O:AS} {l:List Oper} {mN:Nat->Bool}
structure MixOk0 (l:List Oper) (mN:Nat->Bool):Prop where
 lex:∀i o,l[i]? =some o->∀j∈cq o,j < i
 ndst:∀q q' o o' d,l[q]? =some o->l[q']? =some o'->mN q=true->o.dst=some d->o'.dst=some d->q=q'
 settled:∀i o q oq d,l[i]? =some o->l[q]? =some oq->mN q=true->oq.dst=some d->d∈dk l o->q < i/\q∈cq o
 nsees:∀i o q oq d,l[i]? =some o->mN i=true->l[q]? =some oq->mN q=false->oq.dst=some d->d∈dk l o->i∈cq oq
 cguard:∀i o,l[i]? =some o->mN i=false->o.guard=none/\∀c b,o.op≠.select c b
def Oi{V:Nat->Value}{tm:Array Value}(hB:MixOk0 l mN)(hst:∀ (q:Nat) o d,l[q]? =some o->mN q=true->o.dst=some d->d < tm.size):∃tf,Full l mN V tm tf:=by
 classical
 refine⟨Array.ofFn (n:=tm.size) fun t=>if hx:∃q o,l[q]? =some o/\mN q=true/\o.dst=some t.1 then V (Classical.choose hx) else tm.getD t.1 undef,by simp,fun t ht=> ?_,fun q o t ho hmq hod=> ?_⟩
 ·simp only[Array.getD_eq_getD_getElem?,Array.getElem?_ofFn];by_cases hl:t < tm.size
  ·rw[abU hl,dif_neg (by rintro⟨q,o,k1,k2,k3⟩;exact ht q o k1 k2 k3)];rfl
  ·rw[dif_neg hl,aa0 (abQ hl)]
 ·simp only[Array.getD_eq_getD_getElem?,Array.getElem?_ofFn];have hl:=hst q o t ho hmq hod;have hx:∃q o,l[q]? =some o/\mN q=true/\o.dst=some t:=⟨q,o,ho,hmq,hod⟩
  rw[abU hl,abU hx];obtain⟨o',k1,k2,k3⟩:=Classical.choose_spec hx;have:=hB.ndst _ q o' o t k1 ho k2 k3 hod;simp only[Option.getD_some,this]
structure DrawGT (P:Program) (Q:Exit->AS->Prop) (ks:List It) (l:List Oper) (mN:Nat->Bool) (F:Nat->Prop) (X:GW) (tm tf0:Array Value) (D:List Deferred) (V:Nat->Value) (J:List Nat->GW->Array Value->Prop):Prop where
 start:J [] X tf0
 n:∀ (i:Nat) o done X1 (a1:Act) tf,l[i]? =some o->mN i=true->J done X1 tf->(∀t,t∈dk l o->a1.tmps.getD t undef=tf0.getD t undef)->jz P o a1 X1.w fun x w'=>x=V i/\∃X2:GW,X2.w=w'/\J done X2 tf/\Ext F X1 X2
 c:∀ (done:List Nat) (c:Nat) o X1 tf,c ∉ done->mN c=false->l[c]? =some o->(∀d∈cq o,mN d=false->d∈done)->J done X1 tf->il P (fun x w'=>∃X':GW,X'.w=w'/\J (c::done) X' (({ tmps:=tf,defers:=D }:Act).put o.dst x).tmps/\Ext F X1 X') (fun v w'=>∃ (X':GW) (H2:List (Nat × List AV)) (tm2:Array Value),X'.w=w'/\Stk P Q ks (.panic [{ v:=v,recovered:=false }]) ⟨tm.size,[],H2,[]⟩/\SimE F X' ⟨tm.size,[],H2,[]⟩ tm2/\Ext F X1 X') ((execOp ({ tmps:=tf,defers:=D }:Act).eval o).run P X1.w)
 fin:∀done X1 tf,(∀i,i < l.length->mN i=false->i∈done)->J done X1 tf->∃σ':AS,SimE F X1 σ' tf/\br P Q ks σ'
def LJ{id:Nat}(hm:P.follows .mixedOrders=true)(hB:MixOk0 l mN)
  (hd:∀ (i:Nat) o,l[i]? =some o->mN i=true->∃d,o.dst=some d/\o.guard=none/\d < O.n)
  (h:∀F X tm D,SimE F X O tm->∃V J,∀tf0,Full l mN V tm tf0->DrawGT P Q ks l mN F X tm tf0 D V J):br P Q (.c (.region id l.toArray true)::ks) O:=by
 intro F X a hs D hdf;have hXd:New X ⟨X.w.drew,X.g⟩:=⟨rfl,rfl,rfl,ZN _,fun _ _=>⟨rfl,rfl⟩⟩
 have hdst:∀ (i:Nat) o,l[i]? =some o->mN i=true->∃d,o.dst=some d/\o.guard=none/\d < a.tmps.size:=fun i o ho hmi=>by obtain⟨d,k1,k2,k3⟩:=hd i o ho hmi;exact⟨d,k1,k2,by rw[hs.size];exact k3⟩
 obtain⟨V,J,hG⟩:=h F ⟨X.w.drew,X.g⟩ a.tmps D (hs.new hXd hs.gb);obtain⟨tf0,hfull⟩:=Oi (V:=V) (tm:=a.tmps) hB fun q o d ho hmq hod=>by obtain⟨d',k1,_,k3⟩:=hdst q o ho hmq;rw[hod] at k1;cases k1;exact k3
 obtain⟨hf1,hf2,hf3⟩:=hfull;obtain⟨hJ,hN,hC,hfin⟩:=hG tf0 ⟨hf1,hf2,hf3⟩;refine wp_region_any hm ?_
 let Inv:Array Bool->GW->Act->Prop:=fun listed X1 a1=>∃ (tf:Array Value) (done:List Nat),(∀i,i < l.length->mN i=false->(i∈done ↔ listed.getD i false=true))/\Filled l mN V listed a1.tmps tf/\
  J done X1 tf/\Ext F X X1/\a1.tmps.size=a.tmps.size/\(∀t,(∀ (q:Nat) oq,l[q]? =some oq->oq.dst=some t->mN q=false/\listed.getD q false=false)->a1.tmps.getD t undef=a.tmps.getD t undef)
 have key:∀ (fuel:Nat) (listed:Array Bool) (X1:GW) (a1:Act),listed.size=l.length->
   ((List.range l.length).filter (fun i=> !listed.getD i true)).length<=fuel->a1.defers=D->Inv listed X1 a1->(∀j oj,l[j]? =some oj->listed.getD j false=true->∀d∈cq oj,listed.getD d false=true)->
   wpAny P .any l.toArray (dA F X D (Stk P Q ks)) fuel listed a1 X1.w:=by
  have fin:∀ (listed:Array Bool) (X1:GW) (a1:Act),listed.size=l.length->Region.ready .any l.toArray listed=[] ->a1.defers=D->Inv listed X1 a1->dA F X D (Stk P Q ks) .normal a1 X1.w:=by
   rintro listed X1 a1 hsz hnil hd1 ⟨tf,done,c1,c4,c5,c7,c8,c9⟩;have hall:∀i,i < l.length->listed.getD i false=true:=by
    intro i hil;apply Z7;intro hc;have hc:listed.getD i false=false:=by simpa using hc
    obtain⟨k,hk,hkf,hkl⟩:=jt (fun j=>listed.getD j false) l.length ⟨i,hil,hc⟩;have hmem:k∈Region.ready .any l.toArray listed:=by refine mem_ready.2 ⟨by rw[eZ (by omega)];exact hkf,l[k],by simp[hk],fun e he hb=> ?_⟩;exact hkl e.on (hB.lex k l[k] (ZE hk) e.on (cG.2 ⟨e,he,hb,rfl⟩))
    rw[hnil] at hmem;cases hmem
   have htf:tf=a1.tmps:=by apply abK c4.size;intro i h1 h2;have:=c4.same i fun q o k1 _ _=>hall q (ZD.1 k1).1;simpa[h1,h2] using this
   rw[htf] at c5;obtain⟨σ',g1,g2⟩:=hfin done X1 a1.tmps (fun i hi hmi=>(c1 i hi hmi).2 (hall i hi)) c5;exact⟨hd1,X1,σ',rfl,g2,g1,c7⟩
  intro fuel
  induction fuel with
  |zero=>
   intro listed X1 a1 hsz hf hd1 hI hdn;have hnil:Region.ready .any l.toArray listed=[] :=by
    rw[aaC];intro i hi;obtain⟨h1,o,h2,_⟩:=mem_ready.1 hi;have hil:i < l.length:=by simpa using (ZU.1 h2).1
    have h0:=aal.1 (abJ.1 hf);have:=aaZ.1 h0 i (aaF.2 hil);rw[h1] at this;exact this rfl
   exact⟨hnil,fin listed X1 a1 hsz hnil hd1 hI⟩
  |succ fuel ih=>
   intro listed X1 a1 hsz hf hd1 hI hdn;refine⟨fun hnil=>fin listed X1 a1 hsz hnil hd1 hI,fun i hi=> ?_⟩;obtain⟨h1,o,h2,h3⟩:=mem_ready.1 hi;have h2':l[i]? =some o:=by simpa using h2
   have hil:i < l.length:=(ZD.1 h2').1;have hlf:listed.getD i false=false:=by rw[<- eZ (by omega)];exact h1
   have hdep:∀q∈cq o,listed.getD q false=true:=fun q hq=>by obtain⟨e,k1,k2,k3⟩:=cG.1 hq;rw[<- k3];exact h3 e k1 k2
   have hcnt:((List.range l.length).filter (fun j=> !(listed.setIfInBounds i true).getD j true)).length<=fuel:=by have:=lQ hil hsz h1;omega
   obtain⟨tf,done,c1,c4,c5,c7,c8,c9⟩:=hI;have hset:∀j,(listed.setIfInBounds i true).getD j false=if j=i then true else listed.getD j false:=fun j=>bv false (by omega)
   have hseen:∀t,t∈dk l o->tf.getD t undef=a1.tmps.getD t undef:=fun t ht=>c4.same t fun q oq k1 k2 k3=>hdep q (hB.settled i o q oq t h2' k1 k2 k3 ht).2;have hdn':∀j oj,l[j]? =some oj->(listed.setIfInBounds i true).getD j false=true->∀d∈cq oj,(listed.setIfInBounds i true).getD d false=true:=fun j oj hoj hj d hd=>by
    rw[hset] at hj ⊢;split
    ·rfl
    ·by_cases e:j=i
     ·subst e;rw[h2'] at hoj;cases hoj;exact hdep d hd
     ·rw[ZH e] at hj;exact hdn j oj hoj hj d hd
   unfold wpOp;simp only[h2];cases hmi:mN i with
   |true=>
    obtain⟨d,k1,k2,hdl⟩:=hdst i o h2' hmi;have hfree:∀t,t∈dk l o->(∀ (q:Nat) o',l[q]? =some o'->mN q=true->o'.dst≠some t)->∀ (q:Nat) oq,l[q]? =some oq->oq.dst=some t->mN q=false/\listed.getD q false=false:=fun t hts hn q oq hq hod=>by
     cases hmq:mN q with
     |true=>exact absurd hod (hn q oq hq hmq)
     |false=>
      refine⟨rfl,?_⟩;cases hl:listed.getD q false with
      |false=>rfl
      |true=>have:=hdn q oq hq hl i (hB.nsees i o q oq t h2' hmi hq hmq hod hts);rw[hlf] at this;cases this
    have hsee0:∀t,t∈dk l o->a1.tmps.getD t undef=tf0.getD t undef:=fun t ht=>by
     by_cases hx:∃ (q:Nat) (oq:Oper),l[q]? =some oq/\mN q=true/\oq.dst=some t
     ·obtain⟨q,oq,j1,j2,j3⟩:=hx;rw[hf3 q oq t j1 j2 j3,<- hseen t ht,c4.val q oq t j1 j2 j3]
     ·have hn:∀ (q:Nat) o',l[q]? =some o'->mN q=true->o'.dst≠some t:=fun q o' a b c=>hx ⟨q,o',a,b,c⟩;rw[hf2 t hn];exact c9 t (hfree t ht hn)
    have hw:Region.wanted o (yielded l.toArray a1.tmps)=true:=by unfold Region.wanted;rw[k2]
    rw[ZI hw];left;refine(hN i o done X1 a1 tf h2' hmi c5 hsee0).wp fun x w' ⟨hx,X2,q1,q2,q3⟩=> ?_;subst q1 hx
    refine ih (listed.setIfInBounds i true) X2 (a1.put o.dst (V i)) (by simp[hsz]) hcnt (by rw[eG];exact hd1) ⟨tf,done,fun j hjl hmj=> ?_,⟨by rw[kg];exact c4.size,fun t ht=> ?_,c4.val⟩,q2,c7.trans q3,by rw[kg];exact c8,fun t ht=> ?_⟩ hdn'
    ·rw[hset,ZH (fun e=>by subst e;rw[hmi] at hmj;cases hmj)];exact c1 j hjl hmj
    ·rw[ga,k1];by_cases e:t=d
     ·subst e;rw[ZI ⟨rfl,by rw[c8];exact hdl⟩];exact c4.val i o t h2' hmi k1
     ·rw[ZH (by rintro⟨h,_⟩;exact e (ZZ h).symm)];refine c4.same t fun q oq j1 j2 j3=> ?_;have:=ht q oq j1 j2 j3;rw[hset] at this;by_cases e2:q=i
      ·subst e2;rw[h2'] at j1;cases j1;rw[k1] at j3;cases j3;exact absurd rfl e
      ·rw[ZH e2] at this;exact this
    ·rw[ga,ZH (by
      rintro⟨h,_⟩;have:=(ht i o h2' h).1;rw[hmi] at this;cases this)]
     refine c9 t fun q oq j1 j2=> ?_;obtain⟨m1,m2⟩:=ht q oq j1 j2;refine⟨m1,?_⟩;rw[hset] at m2;by_cases e2:q=i
     ·rw[ZI e2] at m2;cases m2
     ·rw[ZH e2] at m2;exact m2
   |false=>
    obtain⟨hg,hsel⟩:=hB.cguard i o h2' hmi;have hni:i ∉ done:=fun hc=>by rw[(c1 i hil hmi).1 hc] at hlf;cases hlf
    have hdd:∀d∈cq o,mN d=false->d∈done:=fun d hd hmd=>(c1 d (by have:=hB.lex i o h2' d hd;omega) hmd).2 (hdep d hd);have hw:Region.wanted o (yielded l.toArray a1.tmps)=true:=by unfold Region.wanted;rw[hg]
    rw[ZI hw];left;have hrun:=hC done i o X1 tf hni hmi h2' hdd c5;have hev:execOp ({ tmps:=tf,defers:=D }:Act).eval o=execOp a1.eval o:=by
     refine execOp_congr o hsel fun x hx=> ?_;cases x with
     |tmp t=>exact hseen t (by simp only[dk];exact aar _ (gM (by simpa using hx)))
     |const v=>rfl
     |func f=>rfl
     |global g=>rfl
    rw[hev] at hrun;have hnd:∀ (q:Nat) oq t,l[q]? =some oq->mN q=true->oq.dst=some t->o.dst≠some t:=fun q oq t j1 j2 j3 e=>by have:=hB.ndst q i oq o t j1 h2' j2 j3 e;subst this;rw[hmi] at j2;cases j2
    have fin2:∀ (x:Value) (w':World),(∃X':GW,X'.w=w'/\J (i::done) X' (({ tmps:=tf,defers:=D }:Act).put o.dst x).tmps/\Ext F X1 X')->wpAny P .any l.toArray (dA F X D (Stk P Q ks)) fuel (listed.setIfInBounds i true) (a1.put o.dst x) w':=by
     rintro x w' ⟨X2,rfl,q3,q4⟩;refine ih (listed.setIfInBounds i true) X2 (a1.put o.dst x) (by simp[hsz]) hcnt (by rw[eG];exact hd1) ⟨(({ tmps:=tf,defers:=D }:Act).put o.dst x).tmps,i::done,fun j hjl hmj=> ?_,⟨by rw[kg,kg];exact c4.size,fun t ht=> ?_,fun q oq t j1 j2 j3=> ?_⟩,q3,c7.trans q4,by rw[kg];exact c8,fun t ht=> ?_⟩ hdn'
     ·rw[hset,ZY];by_cases e:j=i
      ·simp[e]
      ·rw[ZH e];exact⟨fun h=>(c1 j hjl hmj).1 (h.resolve_left e),fun h=>.inr ((c1 j hjl hmj).2 h)⟩
     ·rw[ga,ga];have hsz2:({ tmps:=tf,defers:=D }:Act).tmps.size=a1.tmps.size:=c4.size;rw[hsz2];by_cases e:o.dst=some t/\t < a1.tmps.size
      ·rw[ZI e,ZI e]
      ·rw[ZH e,ZH e];refine c4.same t fun q oq j1 j2 j3=> ?_;have:=ht q oq j1 j2 j3;rw[hset] at this;by_cases e2:q=i
       ·subst e2;rw[hmi] at j2;cases j2
       ·rw[ZH e2] at this;exact this
     ·rw[ga,ZH (by rintro⟨h,_⟩;exact hnd q oq t j1 j2 j3 h)];exact c4.val q oq t j1 j2 j3
     ·rw[ga,ZH (by
       rintro⟨h,_⟩;have:=(ht i o h2' h).2;rw[hset,ZI rfl] at this;cases this)]
      refine c9 t fun q oq j1 j2=> ?_;obtain⟨m1,m2⟩:=ht q oq j1 j2;refine⟨m1,?_⟩;rw[hset] at m2;by_cases e2:q=i
      ·rw[ZI e2] at m2;cases m2
      ·rw[ZH e2] at m2;exact m2
    have pan:∀ (v:Value) (w':World),(∃ (X':GW) (H2:List (Nat × List AV)) (tm2:Array Value),X'.w=w'/\Stk P Q ks (.panic [{ v:=v,recovered:=false }]) ⟨a.tmps.size,[],H2,[]⟩/\SimE F X' ⟨a.tmps.size,[],H2,[]⟩ tm2/\Ext F X1 X')->dA F X D (Stk P Q ks) (.panic [{ v:=v,recovered:=false }]) a1 w':=by
     rintro v w' ⟨X',H2,tm2,rfl,h3,h4,h5⟩;exact⟨hd1,X',_,rfl,h3,h4.slotless c8,c7.trans h5⟩
    unfold Oper.wp;generalize (execOp a1.eval o).run P X1.w=r at hrun ⊢;cases r with
    |halt z w=>cases z<;> simp only[il] at hrun;exact pan _ _ hrun
    |ok nx w=>
     cases nx<;> simp only[il] at hrun<;> simp only[Oper.upon]
     case value x=>exact fin2 _ _ hrun
     case skip=>exact fin2 _ _ hrun
     case enter f args=>
      refine hrun.mono fun e w' he=> ?_;cases e with
      |returned v=>exact fin2 _ _ he
      |panicked ch=>obtain⟨v,rfl,he⟩:=he;exact pan _ _ he
      |outgrown=>exact he.elim
 have hno:∀i,(Array.replicate l.toArray.size false).getD i false=false:=fun i=>by simp only[Array.getD_eq_getD_getElem?,Array.getElem?_replicate];split<;> simp
 refine key _ _ ⟨X.w.drew,X.g⟩ a (by simp) (by refine aaM (aaH _ _) (by simp)) hdf ⟨tf0,[],(fun i _ _=>by rw[hno];simp),⟨hf1,(fun t ht=>hf2 t fun q o k1 k2 k3=>by have:=ht q o k1 k2 k3;rw[hno] at this;cases this),hf3⟩,hJ,hXd.ext hs.gb hs.fb,rfl,fun t _=>rfl⟩ (fun j oj _ hf=>by rw[hno] at hf;cases hf)
def L8(P:Program)(n:Nat)(RP:Value->List (Nat × List AV)->Prop)(K:AS->Prop)(l:List Oper)(mN:Nat->Bool):Nat->List Nat->AS->Prop
 |0,done,O=>(∀i,i < l.length->mN i=false->i∈done)/\K O
 |f+1,done,O=>O.n=n/\((∀i,i < l.length->mN i=false->i∈done)->K O)/\∀ (c:Nat) o,c ∉ done->mN c=false->l[c]? =some o->(∀d∈cq o,mN d=false->d∈done)->tL P o O (L8 P n RP K l mN f (c::done)) RP
set_option maxHeartbeats 1000000
def K0{id:Nat}{st:Nat->Bool}{fuel:Nat}(hm:P.follows .mixedOrders=true)(hB:MixOk0 l mN)(he:O.e=[])
  (h:ub P l mN (fun _=>false) [] (fun σ'=>L8 P O.n (fun v H2=>∃H3,(∀k cs,look H3 k=some cs->look (H2++O.h.filter fun p=>st p.1) k=some cs)/\Stk P Q ks (.panic [{ v:=v,recovered:=false }]) ⟨O.n,[],H3,[]⟩) (fun σ2=>br P Q ks (σ2.withH (σ2.h++O.h.filter fun p=>st p.1))) l mN fuel [] ((σ'.withH (O.h.filter fun p=> !st p.1)).als (kh l mN 0 l))) 0 l (O.withH (O.h.filter fun p=>st p.1))):
  br P Q (.c (.region id l.toArray true)::ks) O:=by
 obtain⟨us,hul,hK,hstep⟩:=uy l l 0 _ h;simp only[Nat.zero_add] at hstep;refine LJ hm hB (fun i o ho hmi=> ?_) fun F X tm D hs=> ?_
 ·have hil:=(ZD.1 ho).1;obtain⟨d,k1,k2,k3,_⟩:=hstep i o us[i] ho (ZE (by omega)) hmi;exact⟨d,k1,k2,bJ k3⟩
 have hsa:=hs.aside st he;generalize hH1:(O.h.filter fun p=>st p.1)=H1 at *;generalize hH0:(O.h.filter fun p=> !st p.1)=H0 at *;have h1look:∀k c,look H1 k=some c->st k=true/\look O.h k=some c:=fun k c hk=>by
  rw[<- hH1,nQ] at hk;by_cases e:st k=true
  ·rw[ZI e] at hk;exact⟨e,hk⟩
  ·rw[ZH e] at hk;cases hk
 have hbox1:∀k c,look H1 k=some c->eN F X k c:=fun k c hk=>hs.box k c (h1look k c hk).2;have hmdis:∀ (q q':Nat) o o' d,(msk mN 0 l)[q]? =some o->(msk mN 0 l)[q']? =some o'->o.dst=some d->o'.dst=some d->q=q':=fun q q' o o' d h1 h2 h3 h4=>by obtain⟨k1,k2⟩:=rI h1 h3;obtain⟨k3,k4⟩:=rI h2 h4;exact hB.ndst q q' o o' d k2 k4 k1 h3 h4
 have hml:us.length=(msk mN 0 l).length:=by rw[re,hul]
 have hputs:∀ (i:Nat) (t:Nat) (u:AV),look (puts (O.withH H1) ((msk mN 0 l).take i) (us.take i)).t t=some u->(∃q o,q < i/\l[q]? =some o/\mN q=true/\o.dst=some t/\us[q]? =some u)\/(look O.t t=some u/\∀q o,q < i->l[q]? =some o->mN q=true->o.dst≠some t):=by
  intro i t u hu;rw[iF _ _ _ _ (by simp[hml]) (fun q q' o1 o2 d h1 h2 h3 h4=>by
   rw[ZX] at h1 h2;split at h1
   ·split at h2
    ·exact hmdis q q' o1 o2 d h1 h2 h3 h4
    ·cases h2
   ·cases h1)] at hu
  cases hf:(((msk mN 0 l).take i).zip (us.take i)).find? (fun p=>p.1.dst==some t) with
  |some p=>
   rw[hf] at hu;cases hu;have hmem:=aav hf;have hpd:p.1.dst=some t:=by simpa using aa7 hf
   obtain⟨q,hq⟩:=aab hmem;rw[Z8,ZX,ZX] at hq;have hqi:q < i:=by apply Z7;intro hc;rw[ZH hc] at hq;cases hq.1
   rw[ZI hqi,ZI hqi] at hq;obtain⟨k1,k2⟩:=rI hq.1 hpd;exact .inl ⟨q,p.1,hqi,k2,k1,hpd,hq.2⟩
  |none=>
   rw[hf] at hu;refine .inr ⟨hu,fun q o hqi hlo hmq hod=> ?_⟩;have hql:=(ZD.1 hlo).1;have hmq':(msk mN 0 l)[q]? =some o:=by rw[xp mN 0 l q o hlo,Z6,hmq]
   have hmem:(o,us[q]'(by omega))∈((msk mN 0 l).take i).zip (us.take i):=by
    refine ZQ (i:=q) (Z8.2 ⟨?_,?_⟩)
    ·rw[ZX,ZI hqi];exact hmq'
    ·rw[ZX,ZI hqi];exact ZE (by omega)
   exact absurd (by simpa using hod) (aaI.1 hf _ hmem)
 refine⟨fun(q:Nat)=>match l[q]?,us[q]? with
  |some o,some u=>vl X tm [] o u
  |_,_=>undef,?_⟩
 generalize hVdef:(fun(q:Nat)=>match l[q]?,us[q]? with
  |some o,some u=>vl X tm [] o u
  |_,_=>undef)=V
 have hV:∀ (q:Nat) o u,l[q]? =some o->us[q]? =some u->V q=vl X tm [] o u:=fun q o u ho hu=>by rw[<- hVdef];simp only[ho,hu]
 have hmv:∀ (q:Nat) o u s,l[q]? =some o->us[q]? =some u->mN q=true->o.op=.move (.tmp s)->(∀ (q':Nat) o',l[q']? =some o'->mN q'=true->o'.dst≠some s)->Rel X u (tm.getD s undef):=by
  intro q o u s ho hu hmq hop hns;obtain⟨d,k1,k2,k3,k4,k5,k6⟩:=hstep q o u ho hu hmq;refine(uW (F:=F) (a:={ tmps:=tm,defers:=[] }) hop k4 ⟨hs.gb,hs.fb,fun t u' ht hu'=> ?_,fun k c hk=> ?_⟩).1
  ·rw[hop] at ht;simp[Op.operands] at ht;subst ht;rw[Jn] at hu';rcases hputs q t u' hu' with ⟨q',o',_,k7,k9,k8,_⟩| ⟨k7,_⟩
   ·exact absurd k8 (hns q' o' k7 k9)
   ·exact hs.slot t u' k7
  ·have:=(Kt hk).2;rw[jC] at this;exact hbox1 k c this
 have relV:∀ (q:Nat) o u,l[q]? =some o->us[q]? =some u->mN q=true->Rel X u (V q)/\de (some u)=none:=by
  intro q o u ho hu hmq;obtain⟨d,k1,k2,k3,k4,k5,k6⟩:=hstep q o u ho hu hmq;refine⟨?_,k5⟩;rw[hV q o u ho hu];have k7:=k6 d k1;unfold vl;simp only[k1];cases hld:tg [] d with
  |some p=>rw[hld] at k7;obtain⟨_,⟨cs,u0,j1,j2,j3,rfl⟩,_,_⟩:=k7;rw[jC] at j1;obtain⟨v,g1,g2⟩:=rp (hbox1 _ _ j1) j2 j3;simp only[g1,Option.getD_some];exact g2.rd
  |none=>
   rw[hld] at k7;rcases k7 with ⟨x,rfl⟩| ⟨s,hop,hns⟩
   ·exact .v x
   ·by_cases hx:∃x,u=.v x
    ·obtain⟨x,rfl⟩:=hx;exact .v x
    ·have hval:Qa { tmps:=tm,defers:=[] } u o.op=tm.getD s undef:=by
      rw[hop];cases u<;> first|rfl|exact absurd ⟨_,rfl⟩ hx
     rw[hval];exact hmv q o u s ho hu hmq hop hns
 refine⟨fun done X1 tf=>tf.size=tm.size/\(∀ (q:Nat) o t,l[q]? =some o->mN q=true->o.dst=some t->tf.getD t undef=V q)/\Ext F X X1/\∃f σ1,SimE (iQ F X H1) X1 σ1 tf/\Ext (iQ F X H1) X X1/\L8 P O.n (fun v H2=>∃H3,(∀k cs,look H3 k=some cs->look (H2++H1) k=some cs)/\Stk P Q ks (.panic [{ v:=v,recovered:=false }]) ⟨O.n,[],H3,[]⟩) (fun σ2=>br P Q ks (σ2.withH (σ2.h++H1))) l mN f done σ1,fun tf0 hf=> ?_⟩
 obtain⟨hf1,hf2,hf3⟩:=hf;have hfull:∀t u,look (puts (O.withH H1) (msk mN 0 l) us).t t=some u->(∃ (q:Nat) (o:Oper),l[q]? =some o/\mN q=true/\o.dst=some t/\us[q]? =some u)\/(look O.t t=some u/\∀ (q:Nat) o,l[q]? =some o->mN q=true->o.dst≠some t):=by
  intro t u hu;have e1:(msk mN 0 l).take l.length=msk mN 0 l:=aan (by rw[re];omega);have e2:us.take l.length=us:=aan (by omega);rcases hputs l.length t u (by rw[e1,e2];exact hu) with ⟨q,o,_,k⟩| ⟨k1,k2⟩
  ·exact .inl ⟨q,o,k⟩
  ·exact .inr ⟨k1,fun q o ho=>k2 q o (ZD.1 ho).1 ho⟩
 have hs0:SimE (iQ F X H1) X (((puts (O.withH H1) (msk mN 0 l) us).withH H0).als (kh l mN 0 l)) tf0:=by
  refine uC (hsa.other (by rw[hf1,hs.size];exact(oL (msk mN 0 l) us (O.withH H1)).symm) hsa.fb (fun t u hu=> ?_) (fun k c hk=>⟨hk,(hsa.box k c hk).nF⟩) (vo (msk mN 0 l) us (O.withH H1) he) (fun r=>r) (fun r sz lw ho=>.inr ?_) (fun _ _ _ _ _ _ _ _ hne _ _ _ _=>hne)) fun p hp=> ?_
  ·rcases hfull t u hu with ⟨q,o,k1,k2,k3,k4⟩| ⟨k1,k2⟩
   ·rw[hf3 q o t k1 k2 k3];exact(relV q o u k1 k4 k2).1
   ·rw[hf2 t k2];exact hs.slot t u k1
  ·have fin:∀r,(O.withH H0).own r=some (sz,lw)->rootV tf0 X.w r=rootV tm X.w r->(O.withH H0).own r=some (sz,lw)/\rootV tf0 X.w r=rootV tm X.w r/\∀a n c,rootV tf0 X.w r=some (.slice (some a) n c)->¬iQ F X H1 a.block:=fun r h1 h2=>⟨h1,h2,fun a n c hr=>by
    obtain⟨x,hx,hok⟩:=hsa.own r sz lw h1;rw[h2,hx] at hr;cases hr;exact(mY hok).2.1⟩
   cases r with
   |s t=>
    obtain⟨k0⟩:look (puts (O.withH H1) (msk mN 0 l) us).t t=some (.sl true sz lw)/\True:=⟨lX ho,trivial⟩
    rcases hfull t _ k0 with ⟨q,o,k1,k2,k3,k4⟩| ⟨k1,k2⟩
    ·have:=(relV q o _ k1 k4 k2).2;cases this
    ·exact fin (.s t) (by simp only[AS.own,AS.withH,k1];rfl) (by simp only[rootV,hf2 t k2])
   |c k o=>exact fin (.c k o) ho rfl
  ·obtain⟨i,o,k1,k2,k3,k4,k5⟩:=sY l 0 p hp;rw[Z6] at k2;have hil:=(ZD.1 k1).1;have hui:us[i]? =some us[i] :=ZE (by omega);obtain⟨d,j1,_,_,_,_,j6⟩:=hstep i o us[i] k1 hui k2;have j7:=j6 p.1 k3;rw[hf3 i o p.1 k1 k2 k3,hf2 p.2 k5,hV i o us[i] k1 hui];unfold vl;simp only[k3];cases hld:tg [] p.1 with
   |some p'=>rw[hld] at j7;exact absurd k4 (j7.2.2.1 p.2)
   |none=>
    have hr:=hmv i o us[i] p.2 k1 hui k2 k4 k5;generalize us[i] =u at hr ⊢;by_cases hx:∃x,u=.v x
    ·obtain⟨x,rfl⟩:=hx;exact(cE hr).symm
    ·rw[k4];cases u<;> first|rfl|exact absurd ⟨_,rfl⟩ hx
 have back:∀X1 tf σ1,SimE (iQ F X H1) X1 σ1 tf->Ext (iQ F X H1) X X1->SimE F X1 (σ1.withH (σ1.h++H1)) tf:=fun X1 tf σ1 h1 hx=>hs.backO (fun k cs hk=>(h1look k cs hk).2) h1 (fun b hb=>hb) hx;refine⟨⟨hf1,hf3,Ext.refl _ _,fuel,_,hs0,Ext.refl _ _,hK⟩,?_,?_,?_⟩
 ·rintro i o done X1 a1 tf ho hmi ⟨g0,g1,gx,fu,σ1,s1,qx,hJ⟩ hsee;have hil:=(ZD.1 ho).1;have hui:us[i]? =some us[i] :=ZE (by omega);obtain⟨d,k1,k2,k3,k4,k5,k6⟩:=hstep i o us[i] ho hui hmi;have hgb:(∀b n,X1.g b=some n->b < X1.w.heap.size)/\(∀b,F b->b < X1.w.heap.size):=⟨s1.gb,fun b hb=>s1.fb b (.inl hb)⟩
  have hR:SimR F X1 (bst (fun _=>false) i (puts (O.withH H1) ((msk mN 0 l).take i) (us.take i))) o.op a1.tmps:=by
   refine⟨hgb.1,hgb.2,fun t u ht hu=> ?_,fun k c hk=> ?_⟩
   ·have hts:t∈dk l o:=by simp only[dk];exact aar _ (gM ht)
    rw[Jn] at hu;rw[hsee t hts];rcases hputs i t u hu with ⟨q,oq,_,j1,j2,j3,j4⟩| ⟨j1,j2⟩
    ·rw[hf3 q oq t j1 j2 j3];exact(relV q oq u j1 j4 j2).1.mono gx.pres
    ·rw[hf2 t fun q o' hq hmq hod=>j2 q o' (hB.settled i o q o' t ho hq hmq hod hts).1 hq hmq hod];exact(hs.slot t u j1).mono gx.pres
   ·obtain⟨hb,hk⟩:=Kt hk;rw[jC] at hk;have hbx:=hbox1 k c hk;cases hb
  have k7:=k6 d k1;have hVi:=hV i o us[i] ho hui;unfold vl at hVi;simp only[k1] at hVi;cases hld:tg [] d with
  |some p=>cases hld
  |none=>
   rw[hld] at k7;simp only[hld] at hVi;rcases k7 with ⟨x,hx⟩| ⟨s,hop,hns⟩
   ·refine(k4 F X1 a1 hR).mono fun y w' ⟨X2,q1,q2,q3,q4,_⟩=>⟨?_,X2,q1,⟨g0,g1,gx.trans (q2.ext hgb.1 hgb.2),fu,σ1,s1.new q2 q3,qx.trans (q2.ext s1.gb s1.fb),hJ⟩,q2.ext hgb.1 hgb.2⟩
    rw[hx] at q4 hVi;rw[hVi];exact cE q4
   ·have hex:=(uW hop k4 hR).2;unfold jz;rw[hex];refine⟨?_,X1,rfl,⟨g0,g1,gx,fu,σ1,s1,qx,hJ⟩,Ext.refl _ _⟩;rw[hsee s (by simp only[dk,hop];exact aar _ (by simp[Op.operands,sQ])),hf2 s hns,hVi];have hr:=hmv i o us[i] s ho hui hmi hop hns;generalize us[i] =u at hr ⊢;by_cases hx:∃x,u=.v x
    ·obtain⟨x,rfl⟩:=hx;exact cE hr
    ·rw[hop];cases u<;> first|rfl|exact absurd ⟨_,rfl⟩ hx
 ·rintro done c o X1 tf hcd hcm hlo hdeps ⟨g0,g1,gx,fu,σ1,e2,e3,hJ⟩;have hsz:tm.size=O.n:=hs.size;have hput:∀x,(({ tmps:=tf,defers:=D }:Act).put o.dst x).tmps.size=tm.size/\∀ (q:Nat) oq t,l[q]? =some oq->mN q=true->oq.dst=some t->(({ tmps:=tf,defers:=D }:Act).put o.dst x).tmps.getD t undef=V q:=fun x=>by
   refine⟨by rw[kg];exact g0,fun q oq t h1 h2 h3=> ?_⟩;rw[ga,ZH]
   ·exact g1 q oq t h1 h2 h3
   ·rintro⟨e,_⟩;have:=hB.ndst q c oq o t h1 hlo h2 h3 e;subst this;rw[hcm] at h2;cases h2
  cases fu with
  |zero=>exact absurd (hJ.1 c (ZD.1 hlo).1 hcm) hcd
  |succ fu=>
   obtain⟨j1,_,j3⟩:=hJ
   refine(j3 c o hcd hcm hlo hdeps _ X1 { tmps:=tf,defers:=D } e2).mono (fun x w' ⟨X',σ',f1,f2,f3,f4⟩=>⟨X',f1,⟨(hput x).1,(hput x).2,gx.trans (f4.mono fun b hb=>.inl hb),fu,σ',f3,e3.trans f4,f2⟩,f4.mono fun b hb=>.inl hb⟩) (fun v w' ⟨X',H2,f1,⟨H3,f5,f2⟩,f3,f4⟩=>⟨X',H3,tf,f1,by rw[hsz];exact f2,?_,f4.mono fun b hb=>.inl hb⟩)
   have:=hs.backO (fun k cs hk=>(h1look k cs hk).2) f3 (fun b hb=>hb) (e3.trans f4);rw[hsz,<- j1];exact SimE.sub this rfl (fun _ _ h=>by cases h) f5 (fun p hp=>by cases hp)
 ·rintro done X1 tf hall ⟨g0,g1,gx,fu,σ1,e2,e3,hJ⟩;refine⟨_,back X1 tf σ1 e2 e3,?_⟩;cases fu with
  |zero=>exact hJ.2
  |succ fu=>exact hJ.2.1 hall
def Mh(l:List Oper)(mN:Nat->Bool):Bool:=
 lE 0 l && (l.zipIdx.all fun p=>l.zipIdx.all fun q=>sA l mN p.2 q.2 p.1 q.1) && (l.zipIdx.all fun p=>mN p.2 || (p.1.guard.isNone && !Cp p.1.op))
def Qo{l:List Oper}{mN:Nat->Bool}(h:Mh l mN=true):MixOk0 l mN:=by
 simp only[Mh,Bool.and_eq_true] at h;obtain⟨⟨h1,h2⟩,h3⟩:=h;have hp:∀ (i q:Nat) o oq,l[i]? =some o->l[q]? =some oq->sA l mN i q o oq=true:=fun i q o oq a b=>ZL.1 (ZL.1 h2 _ (tC a)) _ (tC b);have h3':∀ (i:Nat) o,l[i]? =some o->(mN i || (o.guard.isNone && !Cp o.op))=true:=fun i o a=>by have:=ZL.1 h3 _ (tC a);simpa using this
 refine⟨fun i o ho j hj=> ?_,fun q q' o o' d a b c e f=> ?_,fun i o q oq d a b c e f=> ?_,fun i o q oq d a c b c2 e f=> ?_,fun i o ho hm=> ?_⟩
 ·have:=iG l 0 i o h1 ho j hj;omega
 ·have:=hp q' q o' o b a;simp only[sA,e,c,Bool.not_true,Bool.false_or,Bool.and_eq_true,Bool.or_eq_true,f,beq_self_eq_true,Bool.false_eq_true,or_false] at this;have:=this.1.1;simp at this;exact this.symm
 ·have:=hp i q o oq a b;have hf:(dk l o).contains d=true:=by simpa using f
  simp only[sA,e,c,Bool.not_true,Bool.false_or,Bool.and_eq_true,hf] at this;obtain⟨⟨_,k1,k2⟩,_⟩:=this;exact⟨by simpa[Nat.blt_eq] using k1,by simpa using k2⟩
 ·have:=hp i q o oq a b;have hf:(dk l o).contains d=true:=by simpa using f
  simp only[sA,e,c,c2,hf,Bool.not_true,Bool.not_false,Bool.true_or,Bool.false_or,Bool.or_false,Bool.true_and,Bool.and_false,Bool.false_eq_true] at this;simpa using this
 ·have:=h3' i o ho;rw[hm] at this;simp only[Bool.false_or,Bool.and_eq_true] at this;refine⟨by cases hg:o.guard with
   |none=>rfl
   |some p=>rw[hg] at this;simp at this,fun c b e=> ?_⟩
  have h7:=this.2;rw[e] at h7;simp[Cp] at h7
end
end Go.Proofs.Ytlhjbhgkhpbnfaa
