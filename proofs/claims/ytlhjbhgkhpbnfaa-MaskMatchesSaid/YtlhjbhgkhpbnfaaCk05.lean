import Derived.Test.YtlhjbhgkhpbnfaaCk04
import Derived.Test.YtlhjbhgkhpbnfaaProg
import Derived.WalkKit
import Derived.Lib.Walk
import Derived.Lib.Strings
import Derived.Lib.Slices
import Derived.Lib.Bytealg
import Derived.BigCall
import Derived.BigGuard
set_option linter.unusedSimpArgs false
set_option linter.unusedVariables false
set_option linter.defProp false
namespace Go.Proofs.Ytlhjbhgkhpbnfaa
open Go.RowKit P
inductive Want where
 |yes
 |no
 |nor
 |sym (b want:Bool) (d:Nat)
 |bad
def sk{T:Nat->Type}(l:List Oper)(O:TS T)(o:Oper):Want:=
 match o.guard with
 |none=>.yes
 |some (j,want)=>match(l[j]?).bind (·.dst) with
  |some d=>match Nat.ble (d+1) O.n with
   |true=>match look O.t d with
    |some (.a .tt)=>(match want with|true=>.yes|false=>.no)
    |some (.a .ff)=>(match want with|true=>.no|false=>.yes)
    |some (.a (.d .bool b))=>.sym b want d
    |some (.a (.raw (.tuple _)))=>.nor
    |_=>.bad
   |false=>.bad
  |none=>.bad
def TS.know{T:Nat->Type}(O:TS T)(d:Nat)(x:TA T):TS T:={ n:=O.n,t:=(d,.a x)::O.t,h:=O.h,e:=O.e }
section
variable {P:Program} (Y:Tys P) (E:Env) (G:Gam E)
inductive OL (T:Nat->Type) where
 |st (O:TS T)
 |pan (v:Value)
def bx{T:Nat->Type}(h:List (Nat × TB T)):List Nat->Bool
 | [] =>true
 |i::r=>match look h i,jA r i with
  |some _,false=>bx h r
  |_,_=>false
def TS.give{T:Nat->Type}(O:TS T)(ids:List Nat)(h':List (Nat × TB T)):TS T:={ n:=O.n,t:=O.t,h:=h'++dropHH ids O.h,e:=kn O.e }
def vq{T:Nat->Type}(O:TS T)(d:Nat):XR T->Tree (OL T)
 |.bad=>.fail
 |.ret o ids u h=>match bx O.h ids && nvH (dv O.h ids) with
  |true=>.bnd o fun z=>match nvH (h z) with
   |true=>.leaf (.st ((O.give ids (h z)).put d (u z)))
   |false=>.fail
  |false=>.fail
 |.may o ids u h=>match bx O.h ids && nvH (dv O.h ids) with
  |true=>.bnd o fun p=>.sm p (fun z=>match nvH (h z) with
   |true=>.leaf (.st ((O.give ids (h z)).put d (u z)))
   |false=>.fail) fun v=>.leaf (.pan v)
  |false=>.fail
 |.mv o ids mv nw u h=>match bx O.h ids && DY ids mv nw d && sO (mvQ mv nw d) (dropHH ids O.h) with
  |true=>.bnd o fun p=>.sm p (fun z=>match(u z).ids (mvP ids nw) && sO (mvP ids nw) (h z) with
   |true=>.leaf (.st ((O.giveM ids mv nw d (px (nmN nw d) (h z))).put d ((u z).ren (nmN nw d))))
   |false=>.fail) fun v=>.leaf (.pan v)
  |false=>.fail
def IN{T:Nat->Type}(O:TS T)(d:Nat)(x:XR T):Tree (OL T):=match x with
 |.mv _ _ _ _ _ _=>.fail
 |x=>vq O d x
def Vt(E:Env)(u:TV E.T):Option Value:=match u.ids fun _=>false with
 |true=>Pt (u.to E.toEnc Rn.zero)
 |false=>none
def Vn:BinOp->Option Bool
 |.eql=>some false
 |.neq=>some true
 |_=>none
def nilV{T:Nat->Type}(b neg:Bool):TV T:=match b != neg with
 |true=>.a .tt
 |false=>.a .ff
def evX(o:Oper)(O:TS E.T):Tree (OL E.T):=
 match o.dst with
 |some d=>match Nat.ble (d+1) O.n with
  |true=>match o.op with
   |.call { callee:=.value (.func f),args:=xs,argTypes:=ats }=>match D0 G.x f with
    |true=>match vT O xs.toList with
     |some us=>vq O d (Eo G.x f (eO E [] us) O.h)
     |none=>.fail
    |false=>(wK Y E G o O).bind fun σ'=>.leaf (.st σ')
   |.call { callee:=.value (.tmp s),args:=xs,argTypes:=ats }=>match look O.t s,vT O xs.toList with
    |some (.fn f caps),some us=>match caps.all TA.plain with
     |true=>vq O d (Eo G.x f (eO E [] us++caps.map .a) O.h)
     |false=>.fail
    |some (.a (.fnb f is)),some us=>vq O d (Eo G.x f (eO E [] us++is.map fun i=>.a (.box i 0)) O.h)
    |_,_=>.fail
   |.binOp op t x y _=>match asL (opT O x),opT O y,look Y.ty t,op with
    |some ⟨_,l⟩,some (.a (.raw (.slice none 0 0))),some (.slice _),.eql=>.nl l (.leaf (.st (O.put d (.a .tt)))) (.leaf (.st (O.put d (.a .ff))))
    |some ⟨_,l⟩,some (.a (.raw (.slice none 0 0))),some (.slice _),.neq=>.nl l (.leaf (.st (O.put d (.a .ff)))) (.leaf (.st (O.put d (.a .tt))))
    |_,_,_,_=>match A9 (opT O x),opT O y,look Y.ty t,Vn op with
     |some (ty,k,off,n),some (.a (.raw (.slice none 0 0))),some (.slice _),some neg=>match pm O.h ty k with
      |some l=>.nl ((l.drop off).take n) (.leaf (.st (O.put d (nilV true neg)))) (.leaf (.st (O.put d (nilV false neg))))
      |none=>.fail
     |_,_,_,_=>(wK Y E G o O).bind fun σ'=>.leaf (.st σ')
   |_=>(wK Y E G o O).bind fun σ'=>.leaf (.st σ')
  |false=>.fail
 |none=>match o.op with
  |.panic x=>match opT O x with
   |some u=>match Vt E u with
    |some v=>.leaf (.pan v)
    |none=>.fail
   |none=>.fail
  |_=>(wK Y E G o O).bind fun σ'=>.leaf (.st σ')
def yW{T:Nat->Type}(f:TS T->Tree (OL T)):OL T->Tree (OL T)
 |.st O=>f O
 |.pan v=>.leaf (.pan v)
def ln(O:TS E.T)(o:Oper):Tree (TS E.T):=
 match o.dst with
 |some d=>match Nat.ble (d+1) O.n with
  |true=>.leaf (O.put d (.a (.raw undef)))
  |false=>.fail
 |none=>.fail
def mO(l:List Oper):List Oper->TS E.T->Tree (OL E.T)
 | [],O=>.leaf (.st O)
 |o::rest,O=>match sk l O o with
  |.yes=>(evX Y E G o O).bind (yW (mO l rest))
  |.no=>(ln E O o).bind (mO l rest)
  |.nor=>(ln E O o).bind (mO l rest)
  |.sym b true d=>.cond b ((evX Y E G o (O.know d .tt)).bind (yW (mO l rest))) ((ln E (O.know d .ff) o).bind (mO l rest))
  |.sym b false d=>.cond b ((ln E (O.know d .tt) o).bind (mO l rest)) ((evX Y E G o (O.know d .ff)).bind (yW (mO l rest)))
  |.bad=>.fail
def evQ(o:Oper)(O:TS E.T):Tree (TS E.T):=
 match o.dst with
 |some d=>match Nat.ble (d+1) O.n with
  |true=>match o.op with
   |.pick c x y=>match opT O c with
    |some (.a .tt)=>match opT O x with
     |some u=>.leaf (O.put d u.rd)
     |none=>.fail
    |some (.a .ff)=>match opT O y with
     |some u=>.leaf (O.put d u.rd)
     |none=>.fail
    |some (.a (.d .bool b))=>match opT O x,opT O y with
     |some u,some v=>.cond b (.leaf (O.put d u.rd)) (.leaf (O.put d v.rd))
     |_,_=>.fail
    |_=>.fail
   |.buildSlice t 0 ⟨[]⟩=>match look Y.ty t,look E.et t with
    |some (.slice e),some (.sl ty)=>match look Y.sz e with
     |some (sz,_)=>match Nat.beq sz (csz E.toEnc ty) with
      |true=>.leaf (O.put d (.a (.clip ty [])))
      |false=>.fail
     |none=>.fail
    |_,_=>.fail
   |.call { callee:=.builtin .append,args:=⟨[x,y]⟩,argTypes:=⟨[t,u]⟩ }=>match opT O x,look Y.ty t,look Y.ty u with
    |some (.a (.clip ty l)),some (.slice e),some du=>match look Y.sz e,He ty (opT O y) with
     |some (sz,by_),some m=>match uQ du && Nat.ble 1 by_ && Nat.beq sz (csz E.toEnc ty) with
      |true=>.nl m (.leaf (O.put d (.a (.clip ty l)))) (.bnd (ie by_ l m) fun r=>.leaf (O.put d (.a (.own ty r))))
      |false=>.fail
     |_,_=>.fail
    |_,_,_=>.fail
   |op=>nR Y E G O d op o.type
  |false=>.fail
 |none=>.fail
def we(l:List Oper):List Oper->TS E.T->Tree (TS E.T)
 | [],O=>.leaf O
 |o::rest,O=>match sk l O o with
  |.yes=>(evQ Y E G o O).bind (we l rest)
  |.no=>(ln E O o).bind (we l rest)
  |.nor=>(ln E O o).bind (we l rest)
  |.sym b true d=>.cond b ((evQ Y E G o (O.know d .tt)).bind (we l rest)) ((ln E (O.know d .ff) o).bind (we l rest))
  |.sym b false d=>.cond b ((ln E (O.know d .tt) o).bind (we l rest)) ((evQ Y E G o (O.know d .ff)).bind (we l rest))
  |_=>.fail
def bs0(l:List Oper)(s:Nat):Bool:=l.any fun o=>match o.dst,o.op with
 |some d,.buildSlice _ 0 ⟨[]⟩=>Nat.beq d s
 |_,_=>false
def XZ(xs bs:Nat->Bool):Op->Bool
 |.store _ _ _=>true
 |.mapUpdate _ _ _ _=>true
 |.alloc _=>true
 |.box _ _=>true
 |.makeMap _ _=>true
 |.panic _=>true
 |.call { callee:=.builtin .append,args:=⟨.tmp s::_⟩,argTypes:=_ }=> !bs s
 |.call { callee:=.builtin .append,args:=_,argTypes:=_ }=>true
 |.call { callee:=.value (.func f),args:=_,argTypes:=_ }=>xs f
 |_=>false
def Wa(mu:List Nat):Option Nat->Bool
 |some d=>wO mu d
 |none=>false
def zo(xs bs:Nat->Bool)(mu:List Nat):List Oper->List Oper × List Oper
 | [] =>([],[])
 |o::r=>match Wa mu o.dst || XZ xs bs o.op with
  |true=>([],o::r)
  |false=>match zo xs bs mu r with
   | (a,b)=>(o::a,b)
def XQ{T:Nat->Type}(O:TS T)(s:Nat):Bool:=match look O.t s with
 |some (.a (.own _ _))=>true
 |_=>false
def TS.alsT{T:Nat->Type}(O:TS T)(m:List (Nat × Nat)):TS T:={ n:=O.n,t:=O.t,h:=O.h,e:=(m.filter fun p=>XQ O p.2).map (fun p=>(p.1,Root.s p.2))++O.e }
def TS.withB{T:Nat->Type}(O:TS T)(h:List (Nat × TB T)):TS T:={ n:=O.n,t:=O.t,h:=h,e:=O.e }
def PY(O:TS E.T)(t:TypeId)(k o n:Nat)(y:Operand):Option (List (TA E.T)):=
 match look O.h k,opT O y with
 |some (.cs cs),some u=>match u.cs1 with
  |some vs=>match Nat.beq vs.length n && Nat.ble (o+n) cs.length with
   |true=>some (spl cs o (wM ((look E.ct t).getD []) vs))
   |false=>none
  |none=>none
 |_,_=>none
def X9(ops body:List Oper)(om oa:Oper)(after:List Oper):Bool:=match om.op with
 |.store _ _ _=>y9 ops body om oa after
 |_=>false
def Mg(ops body:List Oper)(om oa:Oper)(after:List Oper)(O:TS E.T):Tree (OL E.T):=
 match om.op with
 |.store t x y=>match opT O x,look Y.sz t with
  |some (.a (.box kk _)),some (n,_)=>match y9 ops body om oa after && VU O.h kk with
   |true=>(we Y E G ops body (O.withB (eA kk O.h))).bind fun σ'=>match opT σ' x with
    |some (.a (.box k2 p))=>match Nat.beq k2 kk with
     |true=>match PY E (σ'.withB O.h) t kk p n y with
      |some cs=>mO Y E G ops (oa::after) (((σ'.withB O.h).setc kk cs).alsT (fg body))
      |none=>.fail
     |false=>.fail
    |_=>.fail
   |false=>.fail
  |_,_=>.fail
 |_=>.fail
def KH{T:Nat->Type}:TV T->Bool
 |.a (.d (.int _) _)=>true
 |.a (.d .byte _)=>true
 |.a (.d .bool _)=>true
 |.a (.d .str _)=>true
 |.a (.box _ _)=>true
 |.a (.mpr _)=>true
 |.a (.raw _)=>true
 |.a .tt=>true
 |.a .ff=>true
 |.a (.bsl _ _ _ _)=>true
 |.a (.vec _ _ _)=>true
 |.a (.pel _ _ _ _)=>true
 |.a (.vsl _ _ _ _)=>true
 |_=>false
def XU:Op->Bool
 |.move _=>true
 |.fieldAddr _ _ _=>true
 |.load _ _=>true
 |.binOp _ _ _ _ _=>true
 |.unOp _ _ _=>true
 |.index _ _ _=>true
 |.nilCheck _=>true
 |.slice _ _ _ _ _=>true
 |.convert _ _ _=>true
 |.call { callee:=.builtin .len,args:=_,argTypes:=_ }=>true
 |_=>false
def K3(xs bs:Nat->Bool)(mu nd:List Nat)(l:List Oper):List Oper->List Nat->List Bool
 | [],_=>[]
 |o::r,cd=>match XU o.op && !(Wa mu o.dst || XZ xs bs o.op) && o.guard.isNone && o.dst.isSome && !(dk l o).any (wO cd) && !Wa nd o.dst with
  |true=>true::K3 xs bs mu nd l r cd
  |false=>false::K3 xs bs mu nd l r (match o.dst with|some d=>d::cd|none=>cd)
def mNf(fl:List Bool)(i:Nat):Bool:=fl.getD i false
def tS:Nat->List Bool->List Nat
 |_,[] =>[]
 |k,true::r=>tS (k+1) r
 |k,false::r=>k::tS (k+1) r
def BI(s:Nat)(o:Oper):Bool:=match o.dst with
 |some d=>Nat.beq d s
 |none=>false
def wG(l:List Oper)(O:TS E.T):Nat->Operand->Option (Nat × Nat)
 |0,_=>none
 |n+1,.tmp s=>match l.find? (BI s) with
  |some o=>match o.op with
   |.move y=>wG l O n y
   |.nilCheck y=>wG l O n y
   |.fieldAddr t y i=>match look Y.ty t,wG l O n y with
    |some (.struct fs),some (k,p)=>match fs[i]? with
     |some f=>some (k,p+f.offset)
     |none=>none
    |_,_=>none
   |.load _ y=>match wG l O n y with
    |some (k,p)=>match look O.h k with
     |some (.cs cs)=>match cs[p]? with
      |some (.box j q)=>some (j,q)
      |_=>none
     |_=>none
    |none=>none
   |_=>none
  |none=>match look O.t s with
   |some (.a (.box k p))=>some (k,p)
   |_=>none
 |_,_=>none
def inH{T:Nat->Type}(ids:List Nat)(h:List (Nat × TB T)):List (Nat × TB T):=h.filter fun p=>jA ids p.1
def F9{T:Nat->Type}(ids:List Nat)(h:List (Nat × TB T)):List (Nat × TB T):=h.filter fun p=> !jA ids p.1
def Xm(l:List Oper)(O:TS E.T)(fl:List Bool):List Nat:=l.zipIdx.filterMap fun q=>match mNf fl q.2,q.1.op with
 |true,.load _ y=>(wG Y E l O l.length y).map (·.1)
 |_,_=>none
def E8{T:Nat->Type}:List (Nat × TB T)->List Nat
 | [] =>[]
 | (k,.vec _ _ _)::r=>k::E8 r
 |_::r=>E8 r
def S1(l:List Oper)(O:TS E.T):List Nat:=l.filterMap fun o=>match o.op,o.dst with
 |.load t y,some d=>match look Y.ty t,wG Y E l O l.length y with
  |some (.struct _),some (k,_)=>match look O.h k with
   |some (.cs cs)=>match cs.all fun c=>KH (.a c:TV E.T) with
    |true=>none
    |false=>some d
   |_=>none
  |_,_=>none
 |_,_=>none
def Yr(l:List Oper)(O:TS E.T)(x:Operand):Option Nat:=match x with
 |.tmp s=>match l.find? (BI s) with
  |some o=>match o.op with
   |.load _ y=>(wG Y E l O l.length y).map (·.1)
   |_=>none
  |none=>none
 |_=>none
def Y8(ids:List Nat):Option Nat->Bool
 |some k=>jA ids k
 |none=>false
def Y9{T:Nat->Type}(h:List (Nat × TB T))(k:Nat):Bool:=match look h k with
 |some (.cs cs)=>cs.any fun c=>match c with
  |.vec _ _ _=>true
  |_=>false
 |_=>false
def Hx(l:List Oper)(O:TS E.T)(ids:List Nat)(i:Nat):Bool:=match l[i]? with
 |some o=>match o.op with
  |.store _ x _=>match wG Y E l O l.length x with
   |some q=>jA ids q.1
   |none=> !(E8 O.h).isEmpty
  |.call { callee:=.builtin .append,args:=xs,argTypes:=_ }=>xs.toList.any fun x=>Y8 ids (Yr Y E l O x)
  |.call { callee:=.value _,args:=xs,argTypes:=_ }=>xs.toList.any fun x=>match wG Y E l O l.length x with
   |some q=>jA ids q.1 || Y9 O.h q.1
   |none=>false
  |_=>false
 |none=>false
def WE(l:List Oper):Nat->List Nat->List Nat
 |0,S=>S
 |i+1,S=>WE l i (match wO S i,l[i]? with
  |true,some o=>cq o++S
  |_,_=>S)
def mBf(l:List Oper)(cs2:List Nat)(i:Nat):Bool:=match cs2 with
 | [] =>true
 |c::_=>wO (WE l (c+1) [c]) i
def XJ(l:List Oper)(O:TS E.T)(fl:List Bool)(cs2:List Nat):Bool:=l.zipIdx.all fun q=>match mNf fl q.2,q.1.op with
 |true,.load _ y=>(wG Y E l O l.length y).isNone || mBf l cs2 q.2
 |_,_=>true
def YZ(l:List Oper)(O:TS E.T)(fl:List Bool)(mB:Nat->Bool):List (Nat × Nat × Nat):=l.zipIdx.filterMap fun q=>match mNf fl q.2 && mB q.2,q.1.op,q.1.dst with
 |true,.load _ y,some d=>match wG Y E l O l.length y with
  |some (k,p)=>match look O.h k with
   |some (.cs cs)=>match cs[p]? with
    |some c=>match KH (.a c:TV E.T) with
     |true=>none
     |false=>some (d,k,p)
    |none=>none
   |_=>none
  |none=>none
 |_,_,_=>none
def HA(O:TS E.T)(op:Op)(kk p:Nat):Option (TA E.T):=match op with
 |.load t x=>match opT O x,look Y.ty t,look O.h kk with
  |some (.a (.box k2 p2)),some dsc,some (.cs cs)=>match Nat.beq k2 kk && Nat.beq p2 p && kH dsc with
   |true=>cs[p]?
   |false=>none
  |_,_,_=>none
 |_=>none
def mvN(l:List Oper)(fl:List Bool)(O:TS E.T)(op:Op):Option (TV E.T):=match op with
 |.move (.tmp s)=>match l.zipIdx.all fun q=> !mNf fl q.2 || !(BI s q.1) with
  |true=>opT O (.tmp s)
  |false=>none
 |_=>none
def Dx{T:Nat->Type}(mB:Nat->Bool)(i:Nat)(O:TS T):TS T:=match mB i with
 |true=>O
 |false=>O.withB []
def evN(l:List Oper)(fl:List Bool)(mB:Nat->Bool)(ld:List (Nat × Nat × Nat)):Nat->List Oper->TS E.T->Tree (TS E.T)
 |_,[],O=>.leaf O
 |k,o::rest,O=>match mNf fl k with
  |false=>evN l fl mB ld (k+1) rest O
  |true=>match o.dst,o.guard with
   |some d,none=>match Nat.ble (d+1) O.n with
    |true=>match tg ld d with
     |some (_,kk,p)=>match mB k,HA Y E O o.op kk p with
      |true,some c=>evN l fl mB ld (k+1) rest (O.put d (.a c.rd))
      |_,_=>.fail
     |none=>match mvN E l fl O o.op with
      |some u=>evN l fl mB ld (k+1) rest (O.put d u.rd)
      |none=>match evP Y E G (Dx mB k O) o.op o.type with
       |.one u=>match KH u with
        |true=>evN l fl mB ld (k+1) rest (O.put d u)
        |false=>.fail
       |.opt z u=>.bnd z fun x=>match KH (u x) with
        |true=>evN l fl mB ld (k+1) rest (O.put d (u x))
        |false=>.fail
       |.bad=>.fail
    |false=>.fail
   |_,_=>.fail
def evE(all:Bool)(o:Oper)(O:TS E.T):Tree (OL E.T):=
 match o.guard with
 |some _=>.fail
 |none=>match o.op with
  |.call { callee:=.value (.func f),args:=xs,argTypes:=ats }=>match D0 G.x f,o.dst with
   |true,some d=>match Nat.ble (d+1) O.n,vT O xs.toList with
    |true,some us=>IN O d (Eo G.x f (eO E [] us) O.h)
    |_,_=>.fail
   |false,some d=>match Nat.ble (d+1) O.n with
    |true=>(nR Y E G O d o.op o.type).bind fun σ'=>.leaf (.st σ')
    |false=>.fail
   |_,_=>.fail
  |op=>match all,o.dst with
   |true,_=>match Rj G.mu O o with
    |false=>(wK Y E G o O).bind fun σ'=>.leaf (.st σ')
    |true=>.fail
   |false,some d=>match Nat.ble (d+1) O.n with
    |true=>(nR Y E G O d op o.type).bind fun σ'=>.leaf (.st σ')
    |false=>.fail
   |false,none=>.fail
def Uc(all:Bool)(n:Nat)(l:List Oper):List Nat->TS E.T->Tree (OL E.T)
 | [],O=>.leaf (.st O)
 |c::cs,O=>match Nat.beq O.n n,l[c]? with
  |true,some o=>(evE Y E G all o O).bind (yW (Uc all n l cs))
  |_,_=>.fail
def TS.alsA{T:Nat->Type}(O:TS T)(m:List (Nat × Nat)):TS T:={ n:=O.n,t:=O.t,h:=O.h,e:=m.map (fun p=>(p.1,Root.s p.2))++O.e }
def TS.alcT{T:Nat->Type}(O:TS T)(ld:List (Nat × Nat × Nat)):TS T:={ n:=O.n,t:=O.t,h:=O.h,e:=ld.map (fun p=>(p.1,Root.c p.2.1 p.2.2))++O.e }
def TS.ownE{T:Nat->Type}(O:TS T):TS T:={ n:=O.n,t:=O.t,h:=O.h,e:=O.e.filter fun p=>(O.ownAt p.2).isSome }
def Q2(l:List Oper)(fl:List Bool)(ld:List (Nat × Nat × Nat)):Bool:=decide (ld.map (·.1)).Nodup && ld.all fun p=>l.zipIdx.any fun q=>mNf fl q.2 && BI p.1 q.1
def zm{T:Nat->Type}(h:List (Nat × TB T))(ids:List Nat):Bool:=ids.all fun k=>(look h k).isSome
def SV{L:Type}:List (Tree L)->Tree L
 | [] =>.fail
 | [t] =>t
 |t::r=>.nl ([] :List Nat) t (SV r)
def evA(o:Oper)(O:TS E.T):Tree (OL E.T):=
 match o.guard with
 |some _=>.fail
 |none=>match o.op with
  |.call { callee:=.value (.func f),args:=xs,argTypes:=ats }=>match D0 G.x f,o.dst with
   |true,some d=>match Nat.ble (d+1) O.n,vT O xs.toList with
    |true,some us=>vq O d (Eo G.x f (eO E [] us) O.h)
    |_,_=>.fail
   |_,_=>(wK Y E G o O).bind fun σ'=>.leaf (.st σ')
  |_=>(wK Y E G o O).bind fun σ'=>.leaf (.st σ')
def ss(l:List Oper):Nat->List Nat->List (List Nat)
 |0,done=>match sy l done with
  | [] =>[[]]
  |_=>[[l.length]]
 |n+1,done=>match sy l done with
  | [] =>[[]]
  |is=>is.flatMap fun i=>(ss l n (i::done)).map (i:: ·)
def rS(n0:Nat)(l:List Oper):List Nat->TS E.T->Tree (OL E.T)
 | [],O=>.leaf (.st O)
 |i::w,O=>match Nat.beq O.n n0,l[i]? with
  |true,some o=>(evA Y E G o O).bind (yW (rS n0 l w))
  |_,_=>.fail
def Kz(ops:List Oper)(O:TS E.T):Tree (OL E.T):=
 match Nat.ble ops.length 10 with
 |true=>SV ((ss ops ops.length []).map fun w=>rS Y E G O.n ops w O)
 |false=>.fail
def Fz(l:List Oper)(fl:List Bool)(done:List Nat):List Nat:=(List.range l.length).filter fun i=> !mNf fl i && (!zl done i && match l[i]? with
 |some o=>(cq o).all fun d=>mNf fl d || zl done d
 |none=>false)
def sH(l:List Oper)(fl:List Bool):Nat->List Nat->List (List Nat)
 |0,done=>match(List.range l.length).all fun i=>mNf fl i || zl done i with
  |true=>[[]]
  |false=>[[l.length]]
 |f+1,done=>match Fz l fl done with
  | [] =>[[l.length]]
  |is=>is.flatMap fun i=>(sH l fl f (i::done)).map (i:: ·)
def W0(ops:List Oper)(O:TS E.T)(fl:List Bool):Tree (OL E.T):=
 match Mh ops (mNf fl) with
 |true=>(evN Y E G ops fl (fun _=>false) [] 0 ops (O.withB [])).bind fun σN=>SV ((sH ops fl (tS 0 fl).length []).map fun w=>rS Y E G O.n ops w ((σN.withB O.h).alsA (kh ops (mNf fl) 0 ops)))
 |false=>.fail
def Y6(ops:List Oper):List Nat:=ops.filterMap fun o=>match o.op,o.dst with
 |.load _ _,some d=>some d
 |_,_=>none
def VB(ops:List Oper)(O:TS E.T):Tree (OL E.T):=
 match Nat.ble ops.length 10 with
 |true=>Kz Y E G ops O
 |false=>W0 Y E G ops O (K3 (D0 G.x) (bs0 ops) G.mu (S1 Y E ops O++Y6 ops) ops ops [])
def IQ(n:Nat)(l:List Oper):List Nat->TS E.T->Tree (OL E.T)
 | [],O=>.leaf (.st O)
 |c::cs,O=>match Nat.beq O.n n,l[c]? with
  |true,some o=>(evA Y E G o O).bind (yW (IQ n l cs))
  |_,_=>.fail
def MD(ops:List Oper)(O:TS E.T)(fl:List Bool)(ids cs1 cs2:List Nat)(ld:List (Nat × Nat × Nat)):Tree (OL E.T):=
 match XJ Y E ops O fl cs2 && (WX ops (mNf fl) (cs1++cs2) && zm O.h ids && Q2 ops fl ld) with
 |true=>(evN Y E G ops fl (mBf ops cs2) ld 0 ops (O.withB (inH ids O.h))).bind fun σN=>
  (Uc Y E G false O.n ops cs1 ((σN.withB (F9 ids O.h)).alsA (kh ops (mNf fl) 0 ops))).bind (yW fun σ1=>
   match zm O.h (σ1.h.map (·.1)) && (σ1.h.all fun p=> !jA ids p.1) && (nvH σ1.h && nvH (F9 ids O.h)) with
   |true=>IQ Y E G O.n ops cs2 ((σ1.withB (σ1.h++inH ids O.h)).alcT ld).ownE
   |false=>.fail)
 |false=>VB Y E G ops O
def XG(ops:List Oper)(O:TS E.T)(fl:List Bool)(ids ch:List Nat):Tree (OL E.T):=
 MD Y E G ops O fl ids (ch.takeWhile fun i=> !Hx Y E ops O ids i) (ch.dropWhile fun i=> !Hx Y E ops O ids i) (YZ Y E ops O fl (mBf ops (ch.dropWhile fun i=> !Hx Y E ops O ids i)))
def Sy(ops:List Oper)(O:TS E.T):Tree (OL E.T):=
 match O.e with
 | [] =>XG Y E G ops O (K3 (D0 G.x) (bs0 ops) G.mu (S1 Y E ops O) ops ops []) (Xm Y E ops O (K3 (D0 G.x) (bs0 ops) G.mu (S1 Y E ops O) ops ops [])++E8 O.h) (tS 0 (K3 (D0 G.x) (bs0 ops) G.mu (S1 Y E ops O) ops ops []))
 |_=>.fail
def XH(ops:List Oper)(om:Oper)(O:TS E.T):Bool:=match om.op with
 |.store _ x _=>(wG Y E ops O ops.length x).isNone && !(E8 O.h).isEmpty
 |_=>false
def evR(ops:List Oper)(draw:Bool)(O:TS E.T):Tree (OL E.T):=
 match draw with
 |false=>mO Y E G ops ops O
 |true=>match zo (D0 G.x) (bs0 ops) G.mu ops,O.e with
  | (_,[]),[] =>match Me ops with
    |true=>(we Y E G ops ops O).bind fun σ'=>.leaf (.st σ')
    |false=>.fail
  | (body,om::after),[] =>match Iv ops body om after with
    |true=>(we Y E G ops body O).bind fun σ'=>mO Y E G ops (om::after) (σ'.alsT (fg body))
    |false=>match after with
     |oa::after=>match X9 ops body om oa after && !XH Y E ops om O with
      |true=>Mg Y E G ops body om oa after O
      |false=>Sy Y E G ops O
     | [] =>Sy Y E G ops O
  |_,_=>.fail
end
section
variable {P:Program} {Y:Tys P} {E:Env} {G:Gam E} {I:Rn} {O:TS E.T} {Q:Exit->AS->Prop} {ks:List It} {l:List Oper} {k:Nat} {o:Oper} {rest:List Oper}
def nV{d:Nat}{b:Bool}{x:TA E.T}(hx:x.to E.toEnc I=.v (.bool b))(hl:look O.t d=some (.a (.d .bool b))):oF (O.to E.toEnc I) ((O.know d x).to E.toEnc I):=fun F X tm hs=>by
 refine hs.le2 rfl (fun t u' hu=>⟨u',?_,.refl _⟩) (fun q cs' hq=>⟨cs',hq,LeL.refl _⟩) (fun p hp=>hp);have e:((O.know d x).to E.toEnc I).t=(d,x.to E.toEnc I)::tTo E.toEnc I O.t:=rfl;rw[e,ae] at hu;split at hu
 ·rename_i e2;subst e2;simp only[TS.to,cg,hl];rw[hx] at hu;cases hu;rfl
 ·exact hu
def A2(h:sk l O o=.yes):cb l (O.to E.toEnc I) o=some true:=by
 unfold sk at h;unfold cb;split at h
 ·rename_i hg;rw[hg]
 ·rename_i j want hg;rw[hg];split at h
  ·rename_i d hd;simp only[hd];split at h
   ·rename_i hn;have hlt:=bJ hn;rw[ZI (show d < (O.to E.toEnc I).n from hlt)];split at h
    ·rename_i hl;simp only[TS.to,cg,hl];cases want<;> first|rfl|cases h
    ·rename_i hl;simp only[TS.to,cg,hl];cases want<;> first|rfl|cases h
    ·cases h
    ·cases h
    ·cases h
   ·cases h
  ·cases h
def Fm(h:sk l O o=.no):cb l (O.to E.toEnc I) o=some false:=by
 unfold sk at h;unfold cb;split at h
 ·cases h
 ·rename_i j want hg;rw[hg];split at h
  ·rename_i d hd;simp only[hd];split at h
   ·rename_i hn;have hlt:=bJ hn;rw[ZI (show d < (O.to E.toEnc I).n from hlt)];split at h
    ·rename_i hl;simp only[TS.to,cg,hl];cases want<;> first|rfl|cases h
    ·rename_i hl;simp only[TS.to,cg,hl];cases want<;> first|rfl|cases h
    ·cases h
    ·cases h
    ·cases h
   ·cases h
  ·cases h
def AG(h:sk l O o=.nor):fH l (O.to E.toEnc I) o=true:=by
 unfold sk at h;unfold fH;split at h
 ·cases h
 ·rename_i j want hg;rw[hg];split at h
  ·rename_i d hd;simp only[hd];split at h
   ·rename_i hn;have hlt:=bJ hn;split at h
    ·cases want<;> cases h
    ·cases want<;> cases h
    ·cases h
    ·rename_i xs hl;simp only[TS.to,cg,hl,Option.map_some,TV.to,TA.to];exact Z0 hlt
    ·cases h
   ·cases h
  ·cases h
def rM{b want:Bool}{d:Nat}(h:sk l O o=.sym b want d):look O.t d=some (.a (.d .bool b))/\∀ (c:Bool) (x:TA E.T),(∀I,x.to E.toEnc I=.v (.bool c))->cb l ((O.know d x).to E.toEnc I) o=some (c==want):=by
 unfold sk at h;unfold cb;split at h
 ·cases h
 ·rename_i j want' hg;rw[hg];split at h
  ·rename_i d' hd;split at h
   ·rename_i hn;have hlt:=bJ hn;split at h
    ·cases want'<;> cases h
    ·cases want'<;> cases h
    ·rename_i b' hl;cases h;refine⟨hl,fun c x hx=> ?_⟩;simp only[hd];rw[ZI (show d < ((O.know d x).to E.toEnc I).n from hlt)];have e:look ((O.know d x).to E.toEnc I).t d=some (.v (.bool c)):=by show look ((d,x.to E.toEnc I)::tTo E.toEnc I O.t) d=_;rw[iM,hx]
     rw[e]
    ·cases h
    ·cases h
   ·cases h
  ·cases h
def zL(hi:Inj I O.h)(ho:l[k]? =some o)(hw:cb l (O.to E.toEnc I) o=some false)(h:(ln E O o).holds (On P E Q I (.o l (k+1) rest::ks))):br P Q (.o l k (o::rest)::ks) (O.to E.toEnc I):=by
 unfold ln at h;split at h
 ·rename_i d hd;split at h
  ·rename_i hn;refine Ds ho hw hd hn ?_;have:=h I hi (Agr.refl I);rw[cI] at this;exact this
  ·cases h
 ·cases h
def Qs(hi:Inj I O.h)(ho:l[k]? =some o)(hw:fH l (O.to E.toEnc I) o=true)(h:(ln E O o).holds (On P E Q I (.o l (k+1) rest::ks))):br P Q (.o l k (o::rest)::ks) (O.to E.toEnc I):=by
 unfold ln at h;split at h
 ·rename_i d hd;split at h
  ·rename_i hn;refine Df ho hw hd hn ?_;have:=h I hi (Agr.refl I);rw[cI] at this;exact this
  ·cases h
 ·cases h
def HB(P:Program)(Q:Exit->AS->Prop)(ks:List It)(v:Value):Prop:=∀n,Stk P Q ks (.panic [{ v:=v,recovered:=false }]) ⟨n,[],[],[]⟩
def HB.toK{v:Value}{O:AS}(h:HB P Q ks v):K4 P Q ks v O:=⟨[],[],fun _ _ h=>(by simp[aP] at h),fun _ _ h=>(by simp[aP] at h),h _⟩
def OnX(P:Program)(E:Env)(Q:Exit->AS->Prop)(I:Rn)(its ks:List It):OL E.T->Prop
 |.st O=>On P E Q I its O
 |.pan v=>HB P Q ks v
def wg{T:Nat->Type}{h:List (Nat × TB T)}:∀ {ids:List Nat},bx h ids=true->∀i∈ids,∃b,look h i=some b
 | [],_,i,hi=>by cases hi
 |j::r,hg,i,hi=>by
  simp only[bx] at hg;split at hg
  ·rename_i b hb hm;rcases ZY.1 hi with rfl|hi
   ·exact⟨b,hb⟩
   ·exact wg hg i hi
  ·cases hg
def nK(hi:Inj I O.h)(ids:List Nat):∀k cs,look (hTo E.toEnc I (dv O.h ids)) k=some cs->look (O.to E.toEnc I).h k=some cs:=fun k cs hk=>by obtain⟨i,b,h1,h2,h3,h4⟩:=iJ (hi.sub fun p hp=>let ⟨q,q1,q2,q3⟩:=l8 p hp;⟨q,q1,q2,q3 I⟩) hk;rw[<- h1,<- h3];exact dz E.toEnc hi (mV h2) h4
def qC(hi:Inj I O.h)(ids:List Nat):∀k cs,look (hTo E.toEnc I (dropHH ids O.h)) k=some cs->look (O.to E.toEnc I).h k=some cs/\look (hTo E.toEnc I (dv O.h ids)) k=none:=fun k cs hk=>by
 obtain⟨i,b,h1,h2,h3,h6⟩:=iJ (hi.sub fun p hp=>⟨p,ge p hp,rfl,rfl⟩) hk;obtain⟨h4,h5⟩:=js h2;refine⟨by rw[<- h1,<- h3];exact dz E.toEnc hi h4 h6,?_⟩;cases hn:look (hTo E.toEnc I (dv O.h ids)) k with
 |none=>rfl
 |some cs'=>obtain⟨j,b',m1,m2,m3,m6⟩:=iJ (hi.sub fun p hp=>let ⟨q,q1,q2,q3⟩:=l8 p hp;⟨q,q1,q2,q3 I⟩) hn;obtain⟨m4,m5⟩:=kT m2;have:=(hi _ (db h4) _ (db m4)).1 h6 m6 (h1.trans m1.symm);simp only at this;subst this;exact absurd m5 h5
def kK:∀ (n:Nat) (O:AS),dV (List.replicate n none) O=O
 |0,_=>rfl
 |n+1,O=>kK n O
def C8{T:Nat->Type}{h:List (Nat × TB T)}:∀ {ids:List Nat},nvH (dv h ids)=true->∀i∈ids,∀b,look h i=some b->b.nv=true
 | [],_,i,hi,_,_=>by cases hi
 |k::ks,hn,i,hi,b,hb=>by
  simp only[dv] at hn;cases hl:look h k with
  |none=>
   rw[hl] at hn;rcases ZY.1 hi with rfl|hi
   ·rw[hl] at hb;cases hb
   ·exact C8 hn i hi b hb
  |some b'=>
   rw[hl] at hn;simp only[nvH,List.all_cons,Bool.and_eq_true] at hn;rcases ZY.1 hi with rfl|hi
   ·rw[hl] at hb;cases hb;exact hn.1
   ·exact C8 hn.2 i hi b hb
def Fx{ids:List Nat}{h':List (Nat × TB E.T)}(hi:Inj I O.h)(hg:bx O.h ids=true)(hk:nvH (dv O.h ids)=true)(hv:nvH h'=true)(hm:h'.map (·.1)=ids):Inj I (O.give ids h').h:=hi.sub fun p hp=>by
 rcases aaf.1 hp with hp|hp
 ·have:p.1∈ids:=hm ▸ aaQ hp;obtain⟨b,hb⟩:=wg hg _ this;exact⟨_,db hb,rfl,by rw[DV hv hp,zN (C8 hk _ this b hb)]⟩
 ·exact⟨p,ge p hp,rfl,rfl⟩
def I6(ids:List Nat)(h':List (Nat × TB E.T)):(O.give ids h').to E.toEnc I=eK (O.to E.toEnc I) [] (hTo E.toEnc I (dropHH ids O.h)) (hTo E.toEnc I h'):=by
 unfold eK TS.give TS.to;simp only[dV,AS.dropC]
 congr 1
 ·exact sS _ _ _ _
 ·exact(gZ O.e).symm
def ir{O:AS}{n:Nat}{Hr H':List (Nat × List AV)}:eK O (List.replicate n none) Hr H'=eK O [] Hr H':=by unfold eK;rw[kK];rfl
def iN:∀n,oY (List.replicate n none)=true
 |0=>rfl
 |n+1=>iN n
def lV:∀n,og (List.replicate n none)=true
 |0=>rfl
 |n+1=>lV n
def oe{O:AS}:∀ {xs:List Operand} {us0 us:List AV},tQ O xs=some us0->LeL us0 us->us.all (fun u=>(de (some u)).isNone)=true->PArgs O xs us (List.replicate us.length none)
 | [],us0,us,h,hl,hp=>by cases h;cases hl;exact .nil
 |x::xs,us0,us,h,hl,hp=>by
  simp only[tQ] at h;split at h
  ·rename_i u us1 h1 h2;cases h;cases hl with
   |cons hu hr=>simp only[List.all_cons,Bool.and_eq_true] at hp;exact .cons (.rd h1 hu (by simpa using hp.1)) (oe h2 hr hp.2)
  ·cases h
def I4{Z:Type}{d:Nat}{ids mvs:List Nat}{nw:Nat}{u:Z->TV E.T}{hh:Z->List (Nat × TB E.T)}{z:Z}{ρ':Rn}(hi:Inj I O.h)(hok:DY ids mvs nw d=true)(hq:sO (mvQ mvs nw d) (dropHH ids O.h)=true)(h1:∀i∈ids,i ∉ mvs->ρ'.k i=I.k i)(h4:Inj ρ' (hh z))(hP:(u z).ids (mvP ids nw)=true/\sO (mvP ids nw) (hh z)=true)(hdis:∀k cs,look (hTo E.toEnc ρ' (hh z)) k=some cs->look (hTo E.toEnc I (dropHH ids O.h)) k=none):
  Inj (mvR I ρ' mvs nw d) (O.giveM ids mvs nw d (px (nmN nw d) (hh z))).h/\oF ((eK (O.to E.toEnc I) [] (hTo E.toEnc I (dropHH ids O.h)) (hTo E.toEnc ρ' (hh z))).put d ((u z).to E.toEnc ρ')) (((O.giveM ids mvs nw d (px (nmN nw d) (hh z))).to E.toEnc (mvR I ρ' mvs nw d)).put d ((u z).to E.toEnc ρ')):=by
 have hname:=zt (I:=I) (ρ':=ρ') hok h1;have hinj:=RJ hok;have hrest:=Fj (I:=I) (ρ':=ρ') (mv:=mvs) (nw:=nw) (d:=d);have hI1:Inj (mvR I ρ' mvs nw d) (px (nmN nw d) (hh z)):=u4 hname hinj hP.2 h4;have hI2:Inj I (dropHH ids O.h):=hi.sub fun p hp=>⟨p,ge p hp,rfl,rfl⟩
 have e2:hTo E.toEnc (mvR I ρ' mvs nw d) (dropHH ids O.h)=hTo E.toEnc I (dropHH ids O.h):=Cu hrest hq;have e1:hTo E.toEnc (mvR I ρ' mvs nw d) (px (nmN nw d) (hh z))=hTo E.toEnc ρ' (hh z):=ut hname hP.2;have hin:Inj (mvR I ρ' mvs nw d) (O.giveM ids mvs nw d (px (nmN nw d) (hh z))).h:=by
  intro x hx1 y hy1;have hrb:∀q∈dropHH ids O.h,(mvR I ρ' mvs nw d) q.1=I q.1/\bi (mvR I ρ' mvs nw d) q.2=bi I q.2:=fun q hq1=>by have:=ZL.1 hq q hq1;simp only[Bool.and_eq_true] at this;exact⟨by unfold Rn.b;rw[hrest _ this.1],vF hrest this.2⟩
  have cross:∀x∈px (nmN nw d) (hh z),∀y∈dropHH ids O.h,(bi (mvR I ρ' mvs nw d) x.2=true->bi (mvR I ρ' mvs nw d) y.2=true->(mvR I ρ' mvs nw d) x.1≠(mvR I ρ' mvs nw d) y.1)/\x.1≠y.1:=fun x hx y hy=>by
   constructor
   ·intro l1 l2 e;have m1:∃cs,look (hTo E.toEnc ρ' (hh z)) ((mvR I ρ' mvs nw d) x.1)=some cs:=by rw[<- e1];exact pM (xg hx l1)
    obtain⟨cs,m1⟩:=m1;have m2:=hdis _ _ m1;rw[e,<- e2] at m2;obtain⟨cs2,m3⟩:=pM (xg (E:=E.toEnc) (I:=mvR I ρ' mvs nw d) hy l2);rw[m2] at m3;cases m3
   ·intro e;obtain⟨x0,k1,rfl⟩:=uu hx;have ix:=ZL.1 hP.2 x0 k1;have iy:=ZL.1 hq y hy;simp only[Bool.and_eq_true] at ix iy;have hyn:y.1 ∉ ids:=tF hy;have hfy:n5 d nw y.1=false:=by have:=iy.1;unfold mvQ at this;rw[ZT] at this;simpa using this.2
    simp only at e;cases hn:qX nw x0.1 with
    |true=>
     have hr:=nH.1 hn;have:nmN nw d x0.1=400000+16 * d+ (x0.1 - 300000):=by unfold nmN;rw[hn]
     have hf:n5 d nw y.1=true:=rf.2 (by rw[<- e,this];omega);rw[hfy] at hf;cases hf
    |false=>
     have:nmN nw d x0.1=x0.1:=by unfold nmN;rw[hn]
     have hid:x0.1∈ids:=by have:=ix.1;unfold mvP at this;rw[abS,hn] at this;exact eb.1 (this.resolve_right (by decide))
     rw[this] at e;exact hyn (e ▸ hid)
  rcases aaf.1 hx1 with hx1|hx1<;> rcases aaf.1 hy1 with hy1|hy1
  ·exact hI1 x hx1 y hy1
  ·obtain⟨c1,c2⟩:=cross x hx1 y hy1;exact⟨fun l1 l2 e=>absurd e (c1 l1 l2),fun e=>absurd e c2⟩
  ·obtain⟨c1,c2⟩:=cross y hy1 x hx1;exact⟨fun l1 l2 e=>absurd e.symm (c1 l2 l1),fun e=>absurd e.symm c2⟩
  ·obtain⟨a1,a2⟩:=hrb x hx1;obtain⟨b1,b2⟩:=hrb y hy1;rw[a1,a2,b1,b2];exact hI2 x hx1 y hy1
 refine⟨hin,fun F X tm hs=> ?_⟩;refine hs.le2 rfl (fun t u' hu=>⟨u',?_,.refl _⟩) (fun q cs' hq=>⟨cs',?_,LeL.refl _⟩) (fun p hp=> ?_)
 ·show look (((eK (O.to E.toEnc I) [] (hTo E.toEnc I (dropHH ids O.h)) (hTo E.toEnc ρ' (hh z))).put d ((u z).to E.toEnc ρ')).t) t=some u';simp only[AS.put,ae] at hu ⊢;split at hu
  ·rename_i e;rw[ZI e];exact hu
  ·rename_i e;rw[ZH e];have hu':look (tTo E.toEnc (mvR I ρ' mvs nw d) (wx (fun u=>u.ids (mvQ mvs nw d)) [] O.t)) t=some u':=hu;rw[cg] at hu';obtain⟨v,hv,rfl⟩:=Z4.1 hu';obtain⟨q1,q2,_⟩:=td hv;show look (tTo E.toEnc I O.t) t=_;rw[cg,q1,aa8,TV.ids_to hrest q2]
 ·show look ((hTo E.toEnc ρ' (hh z))++hTo E.toEnc I (dropHH ids O.h)) q=some cs';have hq':look (hTo E.toEnc (mvR I ρ' mvs nw d) (px (nmN nw d) (hh z)++dropHH ids O.h)) q=some cs':=hq;rw[sS,e1,e2] at hq';exact hq'
 ·obtain⟨hp1,hp2⟩:=Z2.1 hp;refine Z2.2 ⟨?_,hp2⟩;have hp1':p∈eTo (mvR I ρ' mvs nw d) (kn O.e):=hp1;obtain⟨q,hq1,rfl⟩:=ZW.1 hp1';have hq2:=(Z2.1 hq1).2;show _∈(O.to E.toEnc I).dropC.e;have e4:(O.to E.toEnc I).dropC.e=eTo I (kn O.e):=gZ O.e;rw[e4];refine ZW.2 ⟨q,hq1,?_⟩;obtain⟨a,b⟩:=q;cases b with
  |s t=>rfl
  |c k o=>cases hq2
def Eu{d:Nat}{f:FuncId}{us:List (TV E.T)}{x:XR E.T}(hi:Inj I O.h)(hx:x.ok P f us O.h)
  (run:∀ {post:AOut->List (Nat × List AV)->Prop} {ids:List Nat},bx O.h ids=true->aI P f (us.map (TV.to E.toEnc I)) (hTo E.toEnc I (dv O.h ids)) post->(∀out H',post out H'->(∀k cs,look H' k=some cs->look (hTo E.toEnc I (dropHH ids O.h)) k=none)->rF P Q ks l k rest d (eK (O.to E.toEnc I) [] (hTo E.toEnc I (dropHH ids O.h)) H') out)->br P Q (.o l k (o::rest)::ks) (O.to E.toEnc I))
  (h:(vq O d x).holds (OnX P E Q I (.o l (k+1) rest::ks) ks)):br P Q (.o l k (o::rest)::ks) (O.to E.toEnc I):=by
 have goOn:∀ {ids:List Nat} {h':List (Nat × TB E.T)} {u:TV E.T},bx O.h ids=true->nvH (dv O.h ids)=true->nvH h'=true->h'.map (·.1)=ids->On P E Q I (.o l (k+1) rest::ks) ((O.give ids h').put d u)->rF P Q ks l k rest d (eK (O.to E.toEnc I) [] (hTo E.toEnc I (dropHH ids O.h)) (hTo E.toEnc I h')) (.ret (u.to E.toEnc I)):=fun {ids h' u} hg hk hv hm hq=>by
  have:=hq I (Fx hi hg hk hv hm) (Agr.refl I);rw[cI,I6] at this;exact this
 cases x with
 |bad=>cases h
 |ret ov ids u hh=>
  unfold vq at h;simp only at h;split at h
  ·rename_i hg;rw[ZT] at hg;obtain⟨hg,hk⟩:=hg;obtain⟨z,hz,h⟩:=h;obtain⟨hm,hc⟩:=hx z hz;refine run hg (hc I hi) ?_;rintro out H' ⟨rfl,rfl⟩ _;simp only at h;split at h
   ·rename_i hv;exact goOn hg hk hv hm h
   ·cases h
  ·cases h
 |may ov ids u hh=>
  unfold vq at h;simp only at h;split at h
  ·rename_i hg;rw[ZT] at hg;obtain⟨hg,hk⟩:=hg;obtain⟨p,hp,h⟩:=h;obtain⟨hm,hc⟩:=hx p hp;refine run hg (hc I hi) ?_;intro out H' ho _;cases p with
   |ok z=>
    obtain⟨rfl,rfl⟩:=ho;have h1:=h.1 z rfl;simp only at h1;split at h1
    ·rename_i hv;exact goOn hg hk hv (hm z rfl) h1
    ·cases h1
   |pan v=>subst ho;exact HB.toK (h.2 v rfl)
  ·cases h
 |mv ov ids mvs nw u hh=>
  unfold vq at h;simp only at h;split at h
  ·rename_i hg;simp only[Bool.and_eq_true] at hg;obtain⟨⟨hg,hok⟩,hq⟩:=hg;obtain⟨p,hp,h⟩:=h;refine run hg (hx p hp I hi) ?_;intro out H' ho hdis;cases p with
   |pan v=>subst ho;exact HB.toK (h.2 v rfl)
   |ok z=>
    obtain⟨ρ',h1,rfl,rfl,h4⟩:=ho;have h5:=h.1 z rfl;simp only at h5;split at h5
    ·rename_i hP;rw[ZT] at hP;obtain⟨hin,hsub⟩:=I4 (z:=z) hi hok hq h1 h4 hP hdis;have h6:=h5 (mvR I ρ' mvs nw d) hin (Kh hok);rw[cI,TV.ren_to (zt (I:=I) (ρ':=ρ') hok h1) hP.1] at h6;exact GC (jd rfl hsub h6)
    ·cases h5
  ·cases h
def T8{u:TV E.T}{v:Value}(h:Vt E u=some v):Pt (u.to E.toEnc I)=some v:=by
 unfold Vt at h;split at h
 ·rename_i hu;rw[TV.ids_to (I:=Rn.zero) (ρ':=I) (fun i e=>by cases e) hu];exact h
 ·cases h
def Ht{O:AS}{op:BinOp}{neg:Bool}(hop:(op=.eql/\neg=false)\/(op=.neq/\neg=true)){d:Nat}{t ty yt e:TypeId}{x y:Operand}{pos:String}{af:Array Edge}{g:Option (Nat × Bool)}{C:Prop}(ht:P.underlying t=some (.slice e))(hx:∀F X (a:Act),SimE F X O a.tmps->∃ (ad:Option Addr) (n c:Nat),a.eval x=.slice ad n c/\(ad.isNone=true->C))(hy:opV O y=some (.v (.slice none 0 0)))(hd:Nat.ble (d+1) O.n=true){R:AS->Prop}(hR:∀b,(b=true->C)->R (O.put d (.v (.bool (b != neg))))):dM P ⟨some d,.binOp op t x y yt,ty,pos,af,g⟩ O R:=by
 intro F X a hs;have h2:=aZ (hs.r (.binOp op t x y yt)) (by simp[Op.operands]) hy;obtain⟨ad,n,c,e1,e2⟩:=hx F X a hs;have hrun:(execOp a.eval ⟨some d,.binOp op t x y yt,ty,pos,af,g⟩).run P X.w=.ok (.value (.bool (ad.isNone != neg))) X.w:=by
  simp only[execOp,e1,h2];refine bd ?_;have q:=Lib.run_eql_slice_nil X.w t e ad n c 0 0 ht;rcases hop with ⟨rfl,rfl⟩| ⟨rfl,rfl⟩
  ·simp[eqGuard,q,go_sem]
  ·have q':(Op.equal t (.slice ad n c) (.slice none 0 0)).run P X.w=.ok ad.isNone X.w:=by
    simp[Op.equal,Op.maxDepth,Lib.run_equalIn_slice_nil X.w 9999 t e ad n c 0 0 ht]
   simp[eqGuard,binOp,go_sem,q']
 unfold jz;rw[hrun];refine⟨X,_,rfl,hR ad.isNone e2,?_,Ext.refl F X⟩;exact hs.put_new (bJ hd) (New.refl X) hs.gb (.v _) (FreshOk.plain rfl)
def DC{O:AS}{op:BinOp}{neg:Bool}(hop:(op=.eql/\neg=false)\/(op=.neq/\neg=true)){d:Nat}{t ty yt e:TypeId}{x y:Operand}{pos:String}{af:Array Edge}{g:Option (Nat × Bool)}{ow:Bool}{sz:Nat}{L:List (List AV)}(ht:P.underlying t=some (.slice e))(hx:opV O x=some (.sl ow sz L))(hy:opV O y=some (.v (.slice none 0 0)))(hd:Nat.ble (d+1) O.n=true){R:AS->Prop}(hR:∀b,(b=true->L=[])->R (O.put d (.v (.bool (b != neg))))):dM P ⟨some d,.binOp op t x y yt,ty,pos,af,g⟩ O R:=by
 refine Ht hop ht (fun F X a hs=> ?_) hy hd hR;have h1:=cO (hs.r (.binOp op t x y yt)) (by simp[Op.operands]) hx;generalize a.eval x=v at h1;cases h1 with
 |nl _ _ ad c=>exact⟨ad,0,c,rfl,fun _=>rfl⟩
 |sl _ _ _ b off cap n c hg hn hc hs' hm hr=>exact⟨_,_,_,rfl,fun h=>by cases h⟩
def TL{y:Operand}{ty:Ty}{k off n:Nat}(hy:A9 (opT O y)=some (ty,k,off,n)):∀F X (a:Act),SimE F X (O.to E.toEnc I) a.tmps->∃ (ad:Option Addr) (m c:Nat),a.eval y=.slice ad m c/\(ad.isNone=true->n=0):=by
 intro F X a hs;have key:∀v,opV (O.to E.toEnc I) y=some (.v v)->a.eval y=v:=fun v h=>cE (cC hs h);unfold A9 at hy;split at hy
 ·rename_i t' k' off' n' hx;cases hy;have e:=key _ (aF (I:=I) hx);rw[e];unfold pc;split
  ·rename_i hc;rw[ZT] at hc;have:=ZK hc.2;exact⟨_,_,_,rfl,fun _=>by omega⟩
  ·exact⟨_,_,_,rfl,fun h=>by cases h⟩
 ·rename_i t' k' n' hx;cases hy;have e:=key _ (aF (I:=I) hx);rw[e];unfold vecV;split
  ·rename_i hc;rw[ZT] at hc;exact⟨_,_,_,rfl,fun _=>ZK hc.2⟩
  ·exact⟨_,_,_,rfl,fun h=>by cases h⟩
 ·cases hy
def HU{op:BinOp}{neg:Bool}(h:Vn op=some neg):(op=.eql/\neg=false)\/(op=.neq/\neg=true):=by cases op<;> cases h<;> simp
def Ts(b neg:Bool):(nilV b neg:TV E.T).to E.toEnc I=.v (.bool (b != neg)):=by cases b<;> cases neg<;> rfl
def HT(hi:Inj I O.h)(hG:GOk P Y E G)(ho:l[k]? =some o)(hw:cb l (O.to E.toEnc I) o=some true)(h:(evX Y E G o O).holds (OnX P E Q I (.o l (k+1) rest::ks) ks)):br P Q (.o l k (o::rest)::ks) (O.to E.toEnc I):=by
 have old:((wK Y E G o O).bind fun σ'=>Tree.leaf (OL.st σ')).holds (OnX P E Q I (.o l (k+1) rest::ks) ks)->br P Q (.o l k (o::rest)::ks) (O.to E.toEnc I):=fun h=>T6 (Y:=Y) hi hG ho hw (bM h);obtain⟨dst,op,ty,pos,af,g⟩:=o;unfold evX at h;simp only at h;split at h
 ·rename_i d;split at h
  ·rename_i hd;split at h
   ·rename_i f xs ats;split at h
    ·split at h
     ·rename_i us hx;refine Eu hi (rq hG.x f _ O.h) (fun {post ids} hg hc hR=> ?_) h;have hpa:=oe (je (I:=I) hx) (iq [] us (gJ _ _)) (fI _ _);refine LC rfl hc ho hw hpa (iN _) (fun kk oo hm=>absurd (List.eq_of_mem_replicate hm) (by simp)) (nK hi ids) (fun kk cs hk=>by rw[kK];exact qC hi ids kk cs hk) hd ?_;intro out H' hp hdis;rw[ir]
      exact hR out H' hp hdis
     ·cases h
    ·exact old h
   ·rename_i s xs ats;split at h
    ·rename_i f caps us hs hx;split at h
     ·rename_i hcap;refine Eu hi (rq hG.x f _ O.h) (fun {post ids} hg hc hR=> ?_) h;have hpa:=oe (je (I:=I) hx) (iq [] us (gJ _ _)) (fI _ _);have hcaps:(caps.map (TV.a)).map (TV.to E.toEnc I)=caps.map (TA.to E.toEnc I):=by simp only[List.map_map];rfl
      rw[aah,hcaps] at hc;refine yG rfl (by simp only[TS.to,cg,hs];rfl) hc ho hw hpa ?_ (iN _) (lV _) (nK hi ids) (fun kk cs hk=>qC hi ids kk cs hk) hd ?_
      ·rw[ZL];intro u hu;obtain⟨x,hx1,rfl⟩:=ZW.1 hu;exact Option.isNone_iff_eq_none.2 (TA.plain_to _ _ (ZL.1 hcap x hx1))
      ·intro out H' hp hdis;rw[ir];exact hR out H' hp hdis
     ·cases h
    ·rename_i f is us hs hx;refine Eu hi (rq hG.x f _ O.h) (fun {post ids} hg hc hR=> ?_) h;have hpa:=oe (je (I:=I) hx) (iq [] us (gJ _ _)) (fI _ _);have hcaps:(is.map fun i=>(TV.a (.box i 0):TV E.T)).map (TV.to E.toEnc I)=is.map fun i=>AV.v (.pointer (some ⟨I i,0,none⟩)):=by simp only[List.map_map];rfl
     rw[aah,hcaps] at hc;refine yG rfl (by simp only[TS.to,cg,hs];rfl) hc ho hw hpa ?_ (iN _) (lV _) (nK hi ids) (fun kk cs hk=>qC hi ids kk cs hk) hd ?_
     ·rw[ZL];intro u hu;obtain⟨x,hx1,rfl⟩:=ZW.1 hu;rfl
     ·intro out H' hp hdis;rw[ir];exact hR out H' hp hdis
    ·cases h
   ·rename_i op t x y yt;split at h
    ·rename_i ty' l e hl hy ht;obtain⟨ow,hx⟩:=pK (I:=I) hl;refine l7 ho hw (DC (.inl ⟨rfl,rfl⟩) (Y.tyOk _ _ ht) hx (aF (I:=I) hy) hd fun b hb=> ?_);cases b with
     |true=>have:=h.1 (by simpa using hb rfl) I hi (Agr.refl I);rw[cI] at this;exact this
     |false=>have:=h.2 I hi (Agr.refl I);rw[cI] at this;exact this
    ·rename_i ty' l e hl hy ht;obtain⟨ow,hx⟩:=pK (I:=I) hl;refine l7 ho hw (DC (.inr ⟨rfl,rfl⟩) (Y.tyOk _ _ ht) hx (aF (I:=I) hy) hd fun b hb=> ?_);cases b with
     |true=>have:=h.1 (by simpa using hb rfl) I hi (Agr.refl I);rw[cI] at this;exact this
     |false=>have:=h.2 I hi (Agr.refl I);rw[cI] at this;exact this
    ·split at h
     ·rename_i ty' k' off n e neg hv hy ht hn;split at h
      ·rename_i l hl;refine l7 ho hw (Ht (C:=n=0) (HU hn) (Y.tyOk _ _ ht) (TL hv) (aF (I:=I) hy) hd fun b hb=> ?_);rw[<- Ts (E:=E) (I:=I)];cases b with
       |true=>have:=h.1 (by rw[hb rfl,abI]) I hi (Agr.refl I);rw[cI] at this;exact this
       |false=>have:=h.2 I hi (Agr.refl I);rw[cI] at this;exact this
      ·cases h
     ·exact old h
   ·exact old h
  ·cases h
 ·split at h
  ·rename_i x;split at h
   ·rename_i u hx;split at h
    ·rename_i v hv;exact LU ho hw (aF (I:=I) hx) (T8 hv) (HB.toK h)
    ·cases h
   ·cases h
  ·exact old h
def OnX.agr{its ks:List It}{ρ':Rn}(ha:Agr I ρ'):∀ {x:OL E.T},OnX P E Q I its ks x->OnX P E Q ρ' its ks x
 |.st O,h=>fun ρ'' hi h'=>h ρ'' hi (ha.trans h')
 |.pan v,h=>h
def pZ(hG:GOk P Y E G)(l:List Oper):∀ (rest:List Oper) (k:Nat) (O:TS E.T) (I:Rn),(∀ (i:Nat) o,rest[i]? =some o->l[k+i]? =some o)->k+rest.length=l.length->Inj I O.h->(mO Y E G l rest O).holds (OnX P E Q I ks ks)->br P Q (.o l k rest::ks) (O.to E.toEnc I)
 | [],k,O,I,hl,hk,hi,h=>xY (by simpa using hk) (h I hi (Agr.refl I))
 |o::rest,k,O,I,hl,hk,hi,h=>by
  have ho:l[k]? =some o:=by simpa using hl 0 o rfl
  have hl':∀ (i:Nat) o',rest[i]? =some o'->l[k+1+i]? =some o':=fun i o' hq=>by have:=hl (i+1) o' (by simpa using hq);rw[show k+1+i=k+ (i+1) by omega];exact this
  have hk':k+1+rest.length=l.length:=by simp only[List.length_cons] at hk;omega
  have next:∀ {t:Tree (TS E.T)},(t.bind (mO Y E G l rest)).holds (OnX P E Q I ks ks)->t.holds (On P E Q I (.o l (k+1) rest::ks)):=fun {t} h=>(bM h).mono fun σ' hσ ρ' hi' ha=>pZ hG l rest (k+1) σ' ρ' hl' hk' hi' (hσ.mono fun x hx=>hx.agr ha)
  have nextX:∀ {t:Tree (OL E.T)},(t.bind (yW (mO Y E G l rest))).holds (OnX P E Q I ks ks)->t.holds (OnX P E Q I (.o l (k+1) rest::ks) ks):=fun {t} h=>
   (bM h).mono fun x hx=>by
    cases x with
    |st σ'=>exact fun ρ' hi' ha=>pZ hG l rest (k+1) σ' ρ' hl' hk' hi' (Tree.holds.mono (fun x hx=>OnX.agr ha hx) hx)
    |pan v=>exact hx
  simp only[mO] at h;split at h
  ·rename_i hw;exact HT (Y:=Y) hi hG ho (A2 hw) (nextX h)
  ·rename_i hw;exact zL hi ho (Fm hw) (next h)
  ·rename_i hw;exact Qs hi ho (AG hw) (next h)
  ·rename_i b d hw;obtain⟨h1,h2⟩:=rM (I:=I) hw;cases hb:b with
   |true=>refine jd rfl (nV (x:=.tt) (b:=b) (by rw[hb];rfl) h1) ?_;exact HT (Y:=Y) (O:=O.know d .tt) hi hG ho (h2 true .tt fun _=>rfl) (nextX (h.1 hb))
   |false=>refine jd rfl (nV (x:=.ff) (b:=b) (by rw[hb];rfl) h1) ?_;exact zL (O:=O.know d .ff) hi ho (h2 false .ff fun _=>rfl) (next (h.2 hb))
  ·rename_i b d hw;obtain⟨h1,h2⟩:=rM (I:=I) hw;cases hb:b with
   |true=>refine jd rfl (nV (x:=.tt) (b:=b) (by rw[hb];rfl) h1) ?_;exact zL (O:=O.know d .tt) hi ho (h2 true .tt fun _=>rfl) (next (h.1 hb))
   |false=>refine jd rfl (nV (x:=.ff) (b:=b) (by rw[hb];rfl) h1) ?_;exact HT (Y:=Y) (O:=O.know d .ff) hi hG ho (h2 false .ff fun _=>rfl) (nextX (h.2 hb))
  ·cases h
def gE(O σ':AS):Prop:=O.n=σ'.n/\O.h=σ'.h/\O.e=σ'.e/\∀i,look O.t i=look σ'.t i
def gE.opv{O σ':AS}{u:AV}(h:gE O σ')(ho:OpV P o σ' u):OpV P o O u:=fun F X a hs=>ho F X a ⟨hs.gb,hs.fb,fun t u hm hu=>hs.slot t u hm (by rw[h.2.2.2];exact hu),fun k cs hk=>hs.box k cs (by rw[h.2.1];exact hk)⟩
theorem gE.put{O σ':AS}(h:gE O σ')(d:Nat)(u:AV):gE (O.put d u) (σ'.put d u):=by obtain⟨h1,h2,h3,h4⟩:=h;refine⟨h1,h2,by simp only[AS.put,h3],fun i=> ?_⟩;simp only[AS.put,ae];rw[h4]
theorem gE.q{K:AS->Prop}(hK:∀O σ',gE O σ'->K σ'->K O)(l:List Oper):∀ (rest:List Oper) (O σ':AS),gE O σ'->m8 P l K rest σ'->m8 P l K rest O
 | [],O,σ',h,hq=>hK O σ' h hq
 |o::rest,O,σ',h,hq=>by
  obtain⟨d,u,h1,h2,h3,h4⟩:=hq;refine⟨d,u,h1,by rw[h.1];exact h2,?_,gE.q hK l rest _ _ (h.put d u) h4⟩;have hw2:=(kB (l:=l) (o:=o) h.1 fun j want d hg hd=>h.2.2.2 d).2;have hw:cb l O o=cb l σ' o:=sr h.1 fun j want d hg hd=>h.2.2.2 d;rcases h3 with ⟨k1,k2⟩|h3
  ·exact .inl ⟨by rw[hw];exact k1,h.opv k2⟩
  ·refine .inr ⟨?_,h3.2⟩;rcases h3.1 with h5|h5
   ·exact .inl (by rw[hw];exact h5)
   ·exact .inr (by rw[hw2];exact h5)
def gE.know{d:Nat}{b:Bool}{x:TA E.T}(hx:x.to E.toEnc I=.v (.bool b))(hl:look O.t d=some (.a (.d .bool b))):gE (O.to E.toEnc I) ((O.know d x).to E.toEnc I):=by
 refine⟨rfl,rfl,rfl,fun i=> ?_⟩;show look (tTo E.toEnc I O.t) i=look ((d,x.to E.toEnc I)::tTo E.toEnc I O.t) i;rw[ae];split
 ·rename_i e;subst e;rw[cg,hl,hx];rfl
 ·rfl
abbrev OnQ(P:Program)(E:Env)(I:Rn)(K:AS->Prop)(l:List Oper)(rest:List Oper)(h:List (Nat × TB E.T))(σ':TS E.T):Prop:=σ'.h=h->m8 P l K rest (σ'.to E.toEnc I)
def Hz{K:AS->Prop}(hi:Inj I O.h)(hG:GOk P Y E G)(hw:cb l (O.to E.toEnc I) o=some true)(h:(evQ Y E G o O).holds (OnQ P E I K l rest O.h)):m8 P l K (o::rest) (O.to E.toEnc I):=by
 obtain⟨dst,op,ty,pos,af,g⟩:=o;unfold evQ at h;simp only at h
 have pick:∀ {d:Nat} {u:TV E.T},dst=some d->Nat.ble (d+1) O.n=true->OpV P ⟨dst,op,ty,pos,af,g⟩ (O.to E.toEnc I) (u.to E.toEnc I).rd->OnQ P E I K l rest O.h (O.put d u.rd)->m8 P l K (⟨dst,op,ty,pos,af,g⟩::rest) (O.to E.toEnc I):=by intro d u hdst hd hv hq;refine Ly hw hdst hd hv ?_;have:=hq rfl;rw[cI,TV.rd_to] at this;exact this
 split at h
 ·rename_i d;split at h
  ·rename_i hd;split at h
   ·rename_i c x y;split at h
    ·rename_i hc;split at h
     ·rename_i u hu;exact pick rfl hd (rh (b:=true) (aF hc) rfl (aF hu)) h
     ·cases h
    ·rename_i hc;split at h
     ·rename_i u hu;exact pick rfl hd (rN (b:=false) (aF hc) rfl (aF hu)) h
     ·cases h
    ·rename_i b hc;split at h
     ·rename_i u v hu hv;cases hb:b with
      |true=>exact pick rfl hd (rh (b:=b) (aF hc) hb (aF hu)) (h.1 hb)
      |false=>exact pick rfl hd (rN (b:=b) (aF hc) hb (aF hv)) (h.2 hb)
     ·cases h
    ·cases h
   ·rename_i t;split at h
    ·rename_i e ty' h0 het;split at h
     ·rename_i sz by_ hz;split at h
      ·rename_i hs;have hs':=jL hs;subst hs';refine Ly hw rfl hd (zw (T:=Y) h0 hz) ?_;have:=h rfl;rw[cI] at this;exact this
      ·cases h
     ·cases h
    ·cases h
   ·rename_i x y t u;split at h
    ·rename_i ty' L e du hx h0 hu;split at h
     ·rename_i sz by_ m hz hm;split at h
      ·rename_i hc;simp only[Bool.and_eq_true] at hc;obtain⟨⟨hnz,hb⟩,hs⟩:=hc;have hs':=jL hs;subst hs';obtain⟨v,S,k1,k2,k3⟩:=uk (I:=I) hm;have hnz':du=.string\/∃e',du=.slice e':=by cases du<;> first|exact .inl rfl|exact .inr ⟨_,rfl⟩|cases hnz
       by_cases hm0:m=[]
       ·have hq:=h.1 hm0;refine Ly hw rfl hd (zk (T:=Y) (L:=L.map (cells E.toEnc ty')) (aF (I:=I) hx) h0 hu hnz' hz k1 (by rw[k2,hm0];rfl) k3) ?_;have:=hq rfl;rw[cI] at this;exact this
       ·obtain⟨r',hr,hq⟩:=h.2;obtain⟨h1,h2⟩:=n4 hr;refine Ly hw rfl hd (Az (T:=Y) (L:=L.map (cells E.toEnc ty')) (m:=m.map (cells E.toEnc ty')) (aF (I:=I) hx) h0 hu hnz' hz hb k1 k2 k3 (by simpa using h1) (by simpa using hm0)) ?_;have:=hq rfl;rw[cI,h2] at this
        have e2:(TV.a (TA.own ty' (L++m)):TV E.T).to E.toEnc I=.sl true (csz E.toEnc ty') (L.map (cells E.toEnc ty')++m.map (cells E.toEnc ty')):=by show AV.sl true _ (List.map _ (L++m))=_;rw[aah]
        rw[e2] at this;exact this
      ·cases h
     ·cases h
    ·cases h
   ·have hok:=HY (Y:=Y) (O:=O) (d:=some d) (ty:=ty) (pos:=pos) (af:=af) (g:=g) hi hG op;unfold nR at h;cases hp:evP Y E G O op ty with
    |one u=>rw[hp] at h hok;refine Ly hw rfl hd hok ?_;rw[<- cI];exact h rfl
    |opt q u=>rw[hp] at h hok;obtain⟨z,hz,h⟩:=h;refine Ly hw rfl hd (hok z hz) ?_;rw[<- cI];exact h rfl
    |bad=>rw[hp] at h;cases h
  ·cases h
 ·cases h
def xT{K:AS->Prop}(hw:cb l (O.to E.toEnc I) o=some false)(h:(ln E O o).holds (OnQ P E I K l rest O.h)):m8 P l K (o::rest) (O.to E.toEnc I):=by
 unfold ln at h;split at h
 ·rename_i d hd;split at h
  ·rename_i hn;refine Iq hw hd hn ?_;have:=h rfl;rw[cI] at this;exact this
  ·cases h
 ·cases h
def Lr{K:AS->Prop}(hw:fH l (O.to E.toEnc I) o=true)(h:(ln E O o).holds (OnQ P E I K l rest O.h)):m8 P l K (o::rest) (O.to E.toEnc I):=by
 unfold ln at h;split at h
 ·rename_i d hd;split at h
  ·rename_i hn;refine Gv hw hd hn ?_;have:=h rfl;rw[cI] at this;exact this
  ·cases h
 ·cases h
def xr{K:AS->Prop}(hK:∀O σ',gE O σ'->K σ'->K O)(hG:GOk P Y E G)(l:List Oper)(H:List (Nat × TB E.T))(hi:Inj I H):∀ (rest:List Oper) (O:TS E.T),O.h=H->(we Y E G l rest O).holds (fun σ'=>σ'.h=H->K (σ'.to E.toEnc I))->m8 P l K rest (O.to E.toEnc I)
 | [],O,hh,h=>h hh
 |o::rest,O,hh,h=>by
  have next:∀ {t:Tree (TS E.T)},(t.bind (we Y E G l rest)).holds (fun σ'=>σ'.h=H->K (σ'.to E.toEnc I))->t.holds (OnQ P E I K l rest O.h):=fun {t} h=>(bM h).mono fun σ' hσ (hh':σ'.h=O.h)=>xr hK hG l H hi rest σ' (hh'.trans hh) hσ
  have hi':Inj I O.h:=hh ▸ hi;simp only[we] at h;split at h
  ·rename_i hw;exact Hz (Y:=Y) hi' hG (A2 hw) (next h)
  ·rename_i hw;exact xT (Fm hw) (next h)
  ·rename_i hw;exact Lr (AG hw) (next h)
  ·rename_i b d hw;obtain⟨h1,h2⟩:=rM (I:=I) hw;cases hb:b with
   |true=>refine gE.q hK l _ _ _ (gE.know (x:=.tt) (b:=b) (by rw[hb];rfl) h1) ?_;exact Hz (Y:=Y) (O:=O.know d .tt) hi' hG (h2 true .tt fun _=>rfl) (next (h.1 hb))
   |false=>refine gE.q hK l _ _ _ (gE.know (x:=.ff) (b:=b) (by rw[hb];rfl) h1) ?_;exact xT (O:=O.know d .ff) (h2 false .ff fun _=>rfl) (next (h.2 hb))
  ·rename_i b d hw;obtain⟨h1,h2⟩:=rM (I:=I) hw;cases hb:b with
   |true=>refine gE.q hK l _ _ _ (gE.know (x:=.tt) (b:=b) (by rw[hb];rfl) h1) ?_;exact xT (O:=O.know d .tt) (h2 true .tt fun _=>rfl) (next (h.1 hb))
   |false=>refine gE.q hK l _ _ _ (gE.know (x:=.ff) (b:=b) (by rw[hb];rfl) h1) ?_;exact Hz (Y:=Y) (O:=O.know d .ff) hi' hG (h2 false .ff fun _=>rfl) (next (h.2 hb))
  ·cases h
def vC{O σ':AS}(h:gE O σ'):oF O σ':=fun F X tm hs=>hs.le2 h.1.symm (fun t u' hu=>⟨u',by rw[h.2.2.2];exact hu,.refl _⟩) (fun q cs' hq=>⟨cs',by rw[h.2.1];exact hq,LeL.refl _⟩) (fun p hp=>by rw[h.2.2.1];exact hp)
def vO{xs bs:Nat->Bool}{mu:List Nat}:∀ {l a b:List Oper},zo xs bs mu l=(a,b)->l=a++b
 | [],_,_,h=>by cases h;rfl
 |o::r,a,b,h=>by
  simp only[zo] at h;split at h
  ·cases h;rfl
  ·cases hs:zo xs bs mu r with
   |mk a' b'=>rw[hs] at h;cases h;rw[vO hs];rfl
theorem gE.als{O σ':AS}(h:gE O σ')(m:List (Nat × Nat)):gE (O.als m) (σ'.als m):=⟨h.1,h.2.1,by simp only[AS.als,h.2.2.1],h.2.2.2⟩
def Hj{m:List (Nat × Nat)}:oF ((O.to E.toEnc I).als m) ((O.alsT m).to E.toEnc I):=fun F X tm hs=>by
 refine hs.le2 rfl (fun t u' hu=>⟨u',hu,.refl _⟩) (fun q cs' hq=>⟨cs',hq,LeL.refl _⟩) (fun p hp=> ?_);have e:((O.alsT m).to E.toEnc I).e=eTo I ((m.filter fun p=>XQ O p.2).map (fun p=>(p.1,Root.s p.2))++O.e):=rfl;rw[e] at hp;simp only[eTo,List.map_append,List.map_map] at hp;simp only[AS.als,TS.to,eTo];rcases aaf.1 hp with hp|hp
 ·obtain⟨q,hq,rfl⟩:=ZW.1 hp;exact aar _ (ZW.2 ⟨q,(Z2.1 hq).1,rfl⟩)
 ·exact List.mem_append_right _ hp
def Ho{kk:Nat}:∀ {h:List (Nat × TB E.T)},(∀p∈h,bi I p.2=true->I p.1=I kk->p.1=kk)->hTo E.toEnc I (eA kk h)=eA (I kk) (hTo E.toEnc I h)
 | [],_=>rfl
 |p::r,hi=>by
  have ih:=Ho (kk:=kk) (h:=r) fun q hq=>hi q (ZM _ hq);obtain⟨k,b⟩:=p;have e1:eA kk ((k,b)::r)=if k=kk then eA kk r else(k,b)::eA kk r:=rfl
  cases hl:bi I b with
  |false=>
   rw[fo _ _ hl,<- ih,e1];split
   ·rfl
   ·rw[fo _ _ hl]
  |true=>
   rw[dS _ _ hl,e1];show _=if I k=I kk then eA (I kk) (hTo E.toEnc I r) else(I k,b.to E.toEnc I)::eA (I kk) (hTo E.toEnc I r)
   by_cases e:k=kk
   ·rw[ZI e,ZI (by rw[e]),ih]
   ·rw[ZH e,ZH (fun e2=>e (hi (k,b) ZP hl e2)),dS _ _ hl,<- ih]
def rz{α:Type}{kk:Nat}{p:Nat × α}:∀ {h:List (Nat × α)},p∈eA kk h->p∈h
 | [],h=>by cases h
 |q::r,h=>by
  simp only[eA] at h;split at h
  ·exact ZM _ (rz h)
  ·rcases ZY.1 h with rfl|h
   ·exact ZP
   ·exact ZM _ (rz h)
def Ce{O σ':AS}{x:Operand}(h:∀t,Operand.tmp t=x->look O.t t=look σ'.t t):opV O x=opV σ' x:=by
 cases x with
 |tmp t=>exact h t rfl
 |const v=>rfl
 |func f=>rfl
 |global g=>rfl
def H9{σ1 σ2:AS}(h1:gE σ1 σ2)(H:List (Nat × List AV))(kk:Nat)(cs:List AV):gE ((σ1.withH H).setc kk cs) ((σ2.withH H).setc kk cs):=
 ⟨h1.1,rfl,by simp only[AS.setc,AS.dropC,AS.withH,h1.2.2.1],h1.2.2.2⟩
def MN{id:Nat}{ops:List Oper}{body after:List Oper}{om oa:Oper}(hm:P.follows .mixedOrders=true)(hG:GOk P Y E G)(hi:Inj I O.h)(he:O.e=[])(hl:ops=body++om::oa::after)(h:(Mg Y E G ops body om oa after O).holds (OnX P E Q I ks ks)):br P Q (.c (.region id ops.toArray true)::ks) (O.to E.toEnc I):=by
 obtain⟨dst,op,ty,pos,af,g⟩:=om;unfold Mg at h;simp only at h;split at h
 ·rename_i t x y;split at h
  ·rename_i kk p0 n by_ hx hz;split at h
   ·rename_i hB;simp only[Bool.and_eq_true] at hB;obtain⟨hB,hK0⟩:=hB;have hdst:dst=none:=by simp only[y9,Bool.and_eq_true] at hB;have:=hB.1.1.2.2;simpa using this
    subst hdst;obtain⟨b0,hb0,hnv⟩:=KZ hK0;have hn0:hTo E.toEnc I (eA kk O.h)=eA (I kk) (hTo E.toEnc I O.h):=Ho fun p hp hl e=>(hi p hp (kk,b0) (db hb0)).1 hl (zN hnv) e
    have hn1:(O.to E.toEnc I).withH (eA (I kk) (O.to E.toEnc I).h)=(O.withB (eA kk O.h)).to E.toEnc I:=by show AS.mk _ _ _ _=AS.mk _ _ _ _;rw[show(O.withB (eA kk O.h)).h=eA kk O.h from rfl,hn0];rfl
    refine Mb (k':=I kk) hm hl hB (by simp only[TS.to,he];rfl) ?_;rw[hn1]
    refine xr (Y:=Y) (K:=fun σ'=>∃cs':List AV,(∀σ1:AS,σ1.n=(O.to E.toEnc I).n->σ1.e=[] ->σ1.h=(O.to E.toEnc I).h->(∀t0,Operand.tmp t0∈(Oper.mk none (.store t x y) ty pos af g).op.operands.toList->look σ1.t t0=look σ'.t t0)->zC P ⟨none,.store t x y,ty,pos,af,g⟩ σ1 (σ1.setc (I kk) cs'))/\br P Q (.o ops (body.length+1) (oa::after)::ks) (((σ'.withH (O.to E.toEnc I).h).setc (I kk) cs').als (fg body))) (fun σ1 σ2 h1 ⟨cs',q1,q2⟩=>⟨cs',fun τ e1 e2 e3 e4=>q1 τ e1 e2 e3 fun t0 ht=>(e4 t0 ht).trans (h1.2.2.2 t0),jd rfl (vC (gE.als (H9 h1 _ _ _) _)) q2⟩) hG ops (eA kk O.h) (fun p hp q hq=>hi p (rz hp) q (rz hq)) body (O.withB (eA kk O.h)) rfl ?_
    refine(bM h).mono fun σ' hσ (hh:σ'.h=eA kk O.h)=> ?_;split at hσ
    ·rename_i k2 p hx2;split at hσ
     ·rename_i hk2;have hk2:=jL hk2;subst hk2;split at hσ
      ·rename_i cs hst;unfold PY at hst;split at hst
       ·rename_i cs0 u hb hy;split at hst
        ·rename_i vs hvs;split at hst
         ·rename_i hc;cases hst;simp only[Bool.and_eq_true] at hc;obtain⟨c1,c2,c3,c4⟩:=yh (I:=I) hvs;have hb':look O.h k2=some (.cs cs0):=hb;have hy':opT σ' y=some u:=hy;refine⟨cF (cs0.map (TA.to E.toEnc I)) p (u.to E.toEnc I).rd.cells,fun τ e1 e2 e3 e4=> ?_,?_⟩
          ·refine iv (P:=P) (T:=Y) (ty:=ty) (pos:=pos) (af:=af) (g:=g) ?_ (by rw[e3];exact kM hi hb') ?_ c1 hz (by rw[c2,Z3];exact hc.1) c3 c4 (by simpa using hc.2) (s0 cs0)
           ·exact(Ce fun t0 ht=>e4 t0 (by rw[<- ht];simp[Op.operands])).trans (aF (I:=I) hx2)
           ·exact(Ce fun t0 ht=>e4 t0 (by rw[<- ht];simp[Op.operands])).trans (aF (I:=I) hy')
          ·have hle:=w7 (E:=E) (I:=I) ((look E.ct t).getD []) vs;refine jd rfl ?_ (jd rfl (Hj (O:=(σ'.withB O.h).setc k2 (spl cs0 p (wM ((look E.ct t).getD []) vs))) (m:=fg body)) (pZ (Y:=Y) hG ops (oa::after) (body.length+1) _ I (fun i o ho=> ?_) ?_ ?_ hσ))
           ·intro F X tm hs;refine hs.le2 rfl (fun t u' hu=>⟨u',hu,.refl _⟩) (fun q cs' hq=> ?_) (fun pp hp=> ?_)
            ·have e:((((σ'.withB O.h).setc k2 (spl cs0 p (wM ((look E.ct t).getD []) vs))).to E.toEnc I).als (fg body)).h=(I k2,(spl cs0 p (wM ((look E.ct t).getD []) vs)).map (TA.to E.toEnc I))::hTo E.toEnc I O.h:=rfl
             rw[e,ae] at hq;have e2:((((σ'.to E.toEnc I).withH (O.to E.toEnc I).h).setc (I k2) (cF (cs0.map (TA.to E.toEnc I)) p (u.to E.toEnc I).rd.cells)).als (fg body)).h=(I k2,cF (cs0.map (TA.to E.toEnc I)) p (u.to E.toEnc I).rd.cells)::hTo E.toEnc I O.h:=rfl;rw[e2,ae];split at hq
             ·rename_i e3;rw[ZI e3];cases hq;refine⟨_,rfl,?_⟩;rw[rC,c2];unfold cF;rw[hle.length];exact((LeL.refl _).append hle).append (LeL.refl _)
             ·rename_i e3;rw[ZH e3];exact⟨cs',hq,LeL.refl _⟩
            ·simp only[AS.als] at hp ⊢;rw[xd] at hp;exact hp
           ·rw[hl,ZJ (by omega),show body.length+1+i - body.length=i+1 by omega];simpa using ho
           ·rw[hl];simp only[List.length_append,List.length_cons];omega
           ·exact ud (O:=σ'.withB O.h) hi hb _
         ·cases hst
        ·cases hst
       ·cases hst
      ·cases hσ
     ·cases hσ
    ·cases hσ
   ·cases h
  ·cases h
 ·cases h
def Jl{u:TV E.T}(h:KH u=true):∃x,u.to E.toEnc I=.v x:=by
 unfold KH at h;split at h<;> first
  | (exact⟨_,rfl⟩)
  | (cases h;done)
  | (obtain⟨a,m,c,e⟩:=TA.vec_form E.toEnc I _ _ _;exact⟨_,e⟩)
  | (obtain⟨a,m,c,e⟩:=TA.vsl_form E.toEnc I _ _ _ _;exact⟨_,e⟩)
def stA{T:Nat->Type}(I:Rn)(H:List (Nat × TB T))(ids:List Nat)(b:Nat):Bool:=ids.any fun k=>match look H k with
 |some x=>bi I x && Nat.beq (I k) b
 |none=>false
def IB{ids:List Nat}{H:List (Nat × TB E.T)}(hi:Inj I H)(hids:zm H ids=true){p:Nat × TB E.T}(hp:p∈H)(hl:bi I p.2=true):jA ids p.1=stA I H ids (I p.1):=by
 rw[Bool.eq_iff_iff];unfold stA;rw[eb,List.any_eq_true];constructor
 ·intro h;refine⟨p.1,h,?_⟩;have:=ZL.1 hids p.1 h;obtain⟨b,hb⟩:=aaT.1 this;have h2:=(hi (p.1,b) (db hb) p hp).2 rfl;simp only at h2;rw[hb];simp only[h2,hl,Bool.true_and];exact aaL _
 ·rintro⟨k,hk,e⟩;have:=ZL.1 hids k hk;obtain⟨b,hb⟩:=aaT.1 this;rw[hb] at e;simp only[Bool.and_eq_true] at e;have:=(hi (k,b) (db hb) p hp).1 e.1 hl (ZK e.2);simp only at this;rw[<- this];exact hk
def zT{f:Nat × TB E.T->Bool}{g:Nat × List AV->Bool}{H:List (Nat × TB E.T)}(h:∀p∈H,bi I p.2=true->f p=g (I p.1,p.2.to E.toEnc I)):hTo E.toEnc I (H.filter f)=(hTo E.toEnc I H).filter g:=by
 unfold hTo;rw[List.filter_map,List.filter_filter,List.filter_filter]
 congr 1
 refine abA fun p hp=> ?_;cases hl:bi I p.2 with
 |false=>simp
 |true=>simp only[Function.comp,Bool.true_and,Bool.and_true];exact h p hp hl
def L1{ids:List Nat}{H:List (Nat × TB E.T)}(hi:Inj I H)(hids:zm H ids=true):hTo E.toEnc I (inH ids H)=(hTo E.toEnc I H).filter fun p=>stA I H ids p.1:=zT fun p hp hl=>IB hi hids hp hl
def UB{ids:List Nat}{H:List (Nat × TB E.T)}(hi:Inj I H)(hids:zm H ids=true):hTo E.toEnc I (F9 ids H)=(hTo E.toEnc I H).filter fun p=> !stA I H ids p.1:=zT fun p hp hl=>by rw[IB hi hids hp hl]
def JO{T:Nat->Type}{ids:List Nat}{h:List (Nat × TB T)}:∀p∈inH ids h,p∈h:=fun p hp=>(Z2.1 hp).1
def ML{T:Nat->Type}{ids:List Nat}{h:List (Nat × TB T)}:∀p∈F9 ids h,p∈h:=fun p hp=>(Z2.1 hp).1
def Inj.of_mem{T:Nat->Type}{I:Rn}{h h':List (Nat × TB T)}(hi:Inj I h)(hs:∀p∈h',p∈h):Inj I h':=hi.sub fun p hp=>⟨p,hs p hp,rfl,rfl⟩
def ldR(I:Rn)(ld:List (Nat × Nat × Nat)):List (Nat × Nat × Nat):=ld.map fun p=>(p.1,I p.2.1,p.2.2)
def Nc(I:Rn)(ld:List (Nat × Nat × Nat))(d:Nat):tg (ldR I ld) d=(tg ld d).map fun p=>(p.1,I p.2.1,p.2.2):=by unfold tg ldR;rw[List.find?_map];rfl
def I5{mB:Nat->Bool}{k:Nat}:(Dx mB k O).to E.toEnc I=bst mB k (O.to E.toEnc I):=by unfold Dx bst;cases mB k<;> rfl
def OE{mB:Nat->Bool}{k:Nat}(hi:Inj I O.h):Inj I (Dx mB k O).h:=by
 unfold Dx;cases mB k
 ·exact fun p hp=>by cases hp
 ·exact hi
theorem B5{s:Nat}{o:Oper}:BI s o=true ↔ o.dst=some s:=by
 unfold BI;split
 ·rename_i d h;rw[h];simp[Nat.beq_eq]
 ·rename_i h;rw[h];simp
def Ph{fl:List Bool}{op:Op}{u:TV E.T}(h:mvN E l fl O op=some u):∃s,op=.move (.tmp s)/\opT O (.tmp s)=some u/\∀ (q:Nat) o',l[q]? =some o'->mNf fl q=true->o'.dst≠some s:=by
 unfold mvN at h;split at h
 ·rename_i s;split at h
  ·rename_i ha;refine⟨s,rfl,h,fun q o' ho hm hd=> ?_⟩;have:=ZL.1 ha (o',q) (tC ho);simp only[hm,B5.2 hd] at this;cases this
  ·cases h
 ·cases h
def EJ{op:Op}{kk p:Nat}{c:TA E.T}(h:HA Y E O op kk p=some c):∃t x dsc cs,op=.load t x/\opT O x=some (.a (.box kk p))/\look Y.ty t=some dsc/\kH dsc=true/\look O.h kk=some (.cs cs)/\cs[p]? =some c:=by
 unfold HA at h;split at h
 ·rename_i t x;split at h
  ·rename_i k2 p2 dsc cs hx h0 hb;split at h
   ·rename_i hc;simp only[Bool.and_eq_true] at hc;have e1:=ZK hc.1.1;have e2:=ZK hc.1.2;subst e1 e2;exact⟨t,x,dsc,cs,rfl,hx,h0,hc.2,hb,h⟩
   ·cases h
  ·cases h
 ·cases h
def DF{K:AS->Prop}{fl:List Bool}{mB:Nat->Bool}{ld:List (Nat × Nat × Nat)}{H:List (Nat × TB E.T)}(hG:GOk P Y E G)(hi:Inj I H):∀ (rest:List Oper) (k:Nat) (O:TS E.T),O.h=H->(evN Y E G l fl mB ld k rest O).holds (fun σ'=>K (σ'.to E.toEnc I))->ub P l (mNf fl) mB (ldR I ld) K k rest (O.to E.toEnc I)
 | [],k,O,hh,h=>h
 |o::rest,k,O,hh,h=>by
  have hi':Inj I O.h:=hh ▸ hi;unfold evN at h;unfold ub;cases hm:mNf fl k with
  |false=>rw[hm] at h;exact DF hG hi rest (k+1) O hh h
  |true=>
   rw[hm] at h;simp only at h;obtain⟨dst,op,ty,pos,af,g⟩:=o;simp only at h;split at h
   ·rename_i d;split at h
    ·rename_i hd
     have fin:∀ {u:TV E.T},OpV P ⟨some d,op,ty,pos,af,none⟩ (bst mB k (O.to E.toEnc I)) (u.to E.toEnc I)->Ut P l (mNf fl) mB (ldR I ld) k (O.to E.toEnc I) ⟨some d,op,ty,pos,af,none⟩ (u.to E.toEnc I)->(evN Y E G l fl mB ld (k+1) rest (O.put d u)).holds (fun σ'=>K (σ'.to E.toEnc I))->∃d' u',some d=some d'/\(none:Option (Nat × Bool))=none/\Nat.ble (d'+1) (O.to E.toEnc I).n=true/\OpV P ⟨some d,op,ty,pos,af,none⟩ (bst mB k (O.to E.toEnc I)) u'/\Ut P l (mNf fl) mB (ldR I ld) k (O.to E.toEnc I) ⟨some d,op,ty,pos,af,none⟩ u'/\ub P l (mNf fl) mB (ldR I ld) K (k+1) rest ((O.to E.toEnc I).put d' u'):=fun {u} h1 h2 h3=>by
      refine⟨d,u.to E.toEnc I,rfl,rfl,hd,h1,h2,?_⟩;have:=DF hG hi rest (k+1) (O.put d u) hh h3;rw[cI] at this;exact this
     split at h
     ·rename_i d' kk p hld;split at h
      ·rename_i c hmb hc;obtain⟨t,x,dsc,cs,rfl,hx,h0,h1,hb,hcp⟩:=EJ hc;have e:(TV.a c.rd:TV E.T).to E.toEnc I=(c.to E.toEnc I).rd:=TA.rd_to _ _ _;have hcs:(cs.map (TA.to E.toEnc I))[p]? =some (c.to E.toEnc I):=by simp[hcp]
       have hbk:bst mB k (O.to E.toEnc I)=O.to E.toEnc I:=by unfold bst;rw[hmb]
       refine fin (u:=.a c.rd) ?_ ⟨by rw[e];exact eq _,fun d2 hd2=> ?_⟩ h
       ·rw[e,hbk];exact lI (T:=Y) (aF (I:=I) hx) (kM hi' hb) hcs h0 h1 (TA.to_notMp _ _ _)
       ·cases hd2;rw[Nc,hld,e];refine⟨hmb,?_⟩;exact Lt (T:=Y) (aF (I:=I) hx) (kM hi' hb) hcs h0 h1 (s0 cs)
      ·cases h
     ·rename_i hld;have hldn:∀d2,some d=some d2->tg (ldR I ld) d2=none:=fun d2 e=>by cases e;rw[Nc,hld];rfl
      split at h
      ·rename_i u hu;obtain⟨s,rfl,hx,hs⟩:=Ph hu;refine fin (u:=u.rd) ?_ ⟨by rw[TV.rd_to];exact eq _,fun d2 hd2=> ?_⟩ h
       ·rw[TV.rd_to];refine kU (x:=.tmp s) ?_ (.inl rfl);have:=aF (I:=I) hx;show look (bst mB k (O.to E.toEnc I)).t s=_;have e:(bst mB k (O.to E.toEnc I)).t=(O.to E.toEnc I).t:=by unfold bst;cases mB k<;> rfl
        rw[e];exact this
       ·rw[hldn d2 hd2];exact .inr ⟨s,rfl,hs⟩
      ·have hok:=HY (Y:=Y) (O:=Dx mB k O) (d:=some d) (ty:=ty) (pos:=pos) (af:=af) (g:=none) (OE hi') hG op;cases hp:evP Y E G (Dx mB k O) op ty with
       |one u=>
        rw[hp] at h hok;simp only at h;split at h
        ·rename_i hdet;obtain⟨x,hx⟩:=Jl (I:=I) hdet;have hok':OpV P ⟨some d,op,ty,pos,af,none⟩ ((Dx mB k O).to E.toEnc I) (u.to E.toEnc I):=hok;rw[I5] at hok';exact fin hok' ⟨by rw[hx];rfl,fun d2 hd2=>by rw[hldn d2 hd2];exact .inl ⟨x,hx⟩⟩ h
        ·cases h
       |opt q u=>
        rw[hp] at h hok;obtain⟨z,hz,h⟩:=h;simp only at h;split at h
        ·rename_i hdet;obtain⟨x,hx⟩:=Jl (I:=I) hdet;have hok':OpV P ⟨some d,op,ty,pos,af,none⟩ ((Dx mB k O).to E.toEnc I) ((u z).to E.toEnc I):=hok z hz;rw[I5] at hok';exact fin hok' ⟨by rw[hx];rfl,fun d2 hd2=>by rw[hldn d2 hd2];exact .inl ⟨x,hx⟩⟩ h
        ·cases h
       |bad=>rw[hp] at h;cases h
    ·cases h
   ·cases h
def OnS(R:AS->Prop)(RP:Value->List (Nat × List AV)->Prop)(I:Rn):OL E.T->Prop
 |.st σ'=>Inj I σ'.h->R (σ'.to E.toEnc I)
 |.pan v=>RP v []
def vw{R:AS->Prop}{RP:Value->List (Nat × List AV)->Prop}{d:Nat}{f:FuncId}{us:List (TV E.T)}{x:XR E.T}(hi:Inj I O.h)(hx:x.ok P f us O.h)
  (run:∀ {post:AOut->List (Nat × List AV)->Prop} {ids:List Nat},aI P f (us.map (TV.to E.toEnc I)) (hTo E.toEnc I (dv O.h ids)) post->(∀u H',post (.ret u) H'->R ((eK (O.to E.toEnc I) [] (hTo E.toEnc I (dropHH ids O.h)) H').put d u))->(∀v H',post (.pan v) H'->RP v [])->tL P o (O.to E.toEnc I) R RP)
  (h:(IN O d x).holds (OnS R RP I)):tL P o (O.to E.toEnc I) R RP:=by
 have goOn:∀ {ids:List Nat} {h':List (Nat × TB E.T)} {u:TV E.T},bx O.h ids=true->nvH (dv O.h ids)=true->nvH h'=true->h'.map (·.1)=ids->OnS R RP I (.st ((O.give ids h').put d u))->R ((eK (O.to E.toEnc I) [] (hTo E.toEnc I (dropHH ids O.h)) (hTo E.toEnc I h')).put d (u.to E.toEnc I)):=fun {ids h' u} hg hk hv hm hq=>by
  have:=hq (Fx hi hg hk hv hm);rw[cI,I6] at this;exact this
 cases x with
 |bad=>cases h
 |mv ov ids mvs nw u hh=>cases h
 |ret ov ids u hh=>
  unfold IN vq at h;simp only at h;split at h
  ·rename_i hg;rw[ZT] at hg;obtain⟨hg,hk⟩:=hg;obtain⟨z,hz,h⟩:=h;obtain⟨hm,hc⟩:=hx z hz;simp only at h;refine run (hc I hi) ?_ ?_
   ·rintro u' H' ⟨e,rfl⟩;cases e;split at h
    ·rename_i hv;exact goOn hg hk hv hm h
    ·cases h
   ·rintro v H' ⟨e,_⟩;cases e
  ·cases h
 |may ov ids u hh=>
  unfold IN vq at h;simp only at h;split at h
  ·rename_i hg;rw[ZT] at hg;obtain⟨hg,hk⟩:=hg;obtain⟨p,hp,h⟩:=h;obtain⟨hm,hc⟩:=hx p hp;cases p with
   |ok z=>
    refine run (hc I hi) ?_ ?_
    ·rintro u' H' ⟨e,rfl⟩;cases e;have h1:=h.1 z rfl;simp only at h1;split at h1
     ·rename_i hv;exact goOn hg hk hv (hm z rfl) h1
     ·cases h1
    ·rintro v H' ⟨e,_⟩;cases e
   |pan v=>
    refine run (hc I hi) ?_ ?_
    ·intro u' H' e;cases e
    ·intro v' H' e;cases e;exact h.2 v rfl
  ·cases h
def Xn{R:AS->Prop}{RP:Value->List (Nat × List AV)->Prop}{all:Bool}(hi:Inj I O.h)(hG:GOk P Y E G)(hR:all=true->Low R)(h:(evE Y E G all o O).holds (OnS R RP I)):tL P o (O.to E.toEnc I) R RP:=by
 have pure:∀ {d:Nat},o.dst=some d->Nat.ble (d+1) O.n=true->((nR Y E G O d o.op o.type).bind fun σ'=>Tree.leaf (OL.st σ')).holds (OnS R RP I)->tL P o (O.to E.toEnc I) R RP:=fun {d} h1 h2 h3=>by refine zj (ko (Y:=Y) (R:=R) (A:=fun ρ'=>ρ'=I) hi hG rfl h1 h2 ?_);refine(bM h3).mono fun σ' hσ ρ' hi' e=> ?_;subst e;exact hσ hi'
 unfold evE at h;split at h
 ·cases h
 ·rename_i hg;split at h
  ·rename_i f xs ats hop;split at h
   ·rename_i d hf hdst;split at h
    ·rename_i us hd hx;obtain⟨dst,op,ty,pos,af,g⟩:=o;simp only at hop hdst hg;subst hop hdst hg;refine vw hi (rq hG.x f _ O.h) (fun {post ids} hc hr hp=> ?_) h;have hpa:=oe (je (I:=I) hx) (iq [] us (gJ _ _)) (fI _ _)
     refine KQ hc hpa (iN _) (fun kk oo hm=>absurd (List.eq_of_mem_replicate hm) (by simp)) (nK hi ids) (fun kk cs hk=>by rw[kK];exact qC hi ids kk cs hk) hd ?_ ?_ ?_
     ·intro u H' hp';rw[ir];exact hr u H' hp'
     ·intro v H' hp';exact⟨[],fun k cs hk=>by simp[aP] at hk,hp v H' hp'⟩
     ·intro H';rw[ir];rfl
    ·cases h
   ·rename_i d hf hdst;split at h
    ·rename_i hd;exact pure hdst hd h
    ·cases h
   ·cases h
  ·split at h
   ·split at h
    ·rename_i hc;refine zj (zR (Y:=Y) (R:=R) (A:=fun ρ'=>ρ'=I) hi hG (hR rfl) rfl (fun e=>by rw[hc] at e;cases e) ?_);refine(bM h).mono fun σ' hσ ρ' hi' e=> ?_;subst e;exact hσ hi'
    ·cases h
   ·rename_i d hdst;split at h
    ·rename_i hd;exact pure hdst hd h
    ·cases h
   ·cases h
def vM{n:Nat}{RP:Value->List (Nat × List AV)->Prop}{K:AS->Prop}(hK:Low K):∀l:List Oper,Low (pj P n RP K l)
 | [] =>hK
 |o::rest=>fun O σ' hn hs h=>by refine⟨hn.trans h.1,fun F X a hsim=> ?_⟩;rw[hn];exact h.2 F X a (hs _ _ _ hsim)
def IP{K:AS->Prop}{RP:Value->List (Nat × List AV)->Prop}{all:Bool}{n:Nat}(hG:GOk P Y E G)(hK:all=true->Low K):∀ (cs:List Nat) (O:TS E.T),Inj I O.h->(Uc Y E G all n l cs O).holds (OnS K RP I)->pj P n RP K (cs.filterMap fun i=>l[i]?) (O.to E.toEnc I)
 | [],O,hi,h=>h hi
 |c::cs,O,hi,h=>by
  unfold Uc at h;split at h
  ·rename_i o hn ho;rw[abo,ho];refine⟨ZK hn,Xn (Y:=Y) hi hG (fun e=>vM (hK e) _) ?_⟩;refine(bM h).mono fun x hx=> ?_;cases x with
   |st σ'=>exact fun hi'=>IP hG hK cs σ' hi' hx
   |pan v=>exact hx
  ·cases h
def J5(m:List (Nat × Nat)):(O.alsA m).to E.toEnc I=(O.to E.toEnc I).als m:=by
 have e:eTo I (m.map (fun p=>(p.1,Root.s p.2))++O.e)=m.map (fun p=>(p.1,Root.s p.2))++eTo I O.e:=by unfold eTo;rw[aah,aaY];rfl
 show AS.mk _ _ _ _=AS.mk _ _ _ _
 congr 1
def RS(ld:List (Nat × Nat × Nat)):(O.alcT ld).to E.toEnc I=(O.to E.toEnc I).alc (ldR I ld):=by
 have e:eTo I (ld.map (fun p=>(p.1,Root.c p.2.1 p.2.2))++O.e)=(ldR I ld).map (fun p=>(p.1,Root.c p.2.1 p.2.2))++eTo I O.e:=by unfold eTo ldR;rw[aah,aaY,aaY];rfl
 show AS.mk _ _ _ _=AS.mk _ _ _ _
 congr 1
def N4:oF (O.to E.toEnc I) (O.ownE.to E.toEnc I):=fun F X tm hs=>by refine hs.le2 rfl (fun t u' hu=>⟨u',hu,.refl _⟩) (fun q cs' hq=>⟨cs',hq,LeL.refl _⟩) (fun p hp=> ?_);simp only[TS.to,TS.ownE,eTo,List.mem_map] at hp ⊢;obtain⟨q,hq,rfl⟩:=hp;exact⟨q,(Z2.1 hq).1,rfl⟩
def OO{fl:List Bool}{ld:List (Nat × Nat × Nat)}(h:Q2 l fl ld=true):((ldR I ld).map (·.1)).Nodup/\∀p∈ldR I ld,∃ (q:Nat) (o:Oper),l[q]? =some o/\mNf fl q=true/\o.dst=some p.1:=by
 unfold Q2 at h;rw[ZT] at h;have e:(ldR I ld).map (·.1)=ld.map (·.1):=by unfold ldR;rw[List.map_map];rfl
 refine⟨by rw[e];exact aaV h.1,fun p hp=> ?_⟩;obtain⟨p0,hp0,rfl⟩:=ZW.1 hp;have:=ZL.1 h.2 p0 hp0;obtain⟨q,hq,hc⟩:=List.any_eq_true.1 this;rw[ZT] at hc;have hq':l[q.2]? =some q.1:=by have:=List.mem_zipIdx_iff_getElem?.1 hq;simpa using this
 exact⟨q.2,q.1,hq',hc.1,B5.1 hc.2⟩
def E2{l:List Nat}{i:Nat}(h:wO l i=true):i∈l:=by
 induction l with
 |nil=>cases h
 |cons a r ih=>
  simp only[wO] at h;first
   | (split at h
      ·rename_i e;rw[ZK e];exact ZP
      ·exact ZM _ (ih h))
   | (simp only [Bool.or_eq_true] at h
      rcases h with h|h
      ·have:=ZK h;subst this;exact ZP
      ·exact ZM _ (ih h))
def sL{L:Type}{K:L->Prop}:∀ {ts:List (Tree L)},(SV ts).holds K->∀t∈ts,t.holds K
 | [],h,t,ht=>by cases ht
 | [t],h,t',ht=>by rw[aaJ] at ht;subst ht;exact h
 |t::t2::r,h,t',ht=>by
  rcases ZY.1 ht with rfl|ht
  ·exact h.1 rfl
  ·exact sL (ts:=t2::r) h.2 t' ht
def OnA(R:AS->Prop)(RP:Value->List (Nat × List AV)->Prop)(I:Rn):OL E.T->Prop
 |.st σ'=>∀ρ',Inj ρ' σ'.h->Agr I ρ'->R (σ'.to E.toEnc ρ')
 |.pan v=>RP v []
def OnA.toS{R:AS->Prop}{RP:Value->List (Nat × List AV)->Prop}{x:OL E.T}(h:OnA R RP I x):OnS R RP I x:=by
 cases x with
 |st σ'=>exact fun hi=>h I hi (Agr.refl I)
 |pan v=>exact h
def Ld{R:AS->Prop}{RP:Value->List (Nat × List AV)->Prop}{d:Nat}{f:FuncId}{us:List (TV E.T)}{x:XR E.T}(hi:Inj I O.h)(hR:Low R)(hx:x.ok P f us O.h)
  (run:∀ {post:AOut->List (Nat × List AV)->Prop} {ids:List Nat},aI P f (us.map (TV.to E.toEnc I)) (hTo E.toEnc I (dv O.h ids)) post->(∀u H',post (.ret u) H'->(∀k cs,look H' k=some cs->look (hTo E.toEnc I (dropHH ids O.h)) k=none)->R ((eK (O.to E.toEnc I) [] (hTo E.toEnc I (dropHH ids O.h)) H').put d u))->(∀v H',post (.pan v) H'->RP v [])->tL P o (O.to E.toEnc I) R RP)
  (h:(vq O d x).holds (OnA R RP I)):tL P o (O.to E.toEnc I) R RP:=by
 cases x with
 |bad=>cases h
 |ret ov ids u hh=>exact vw hi hx (fun hc h1 h2=>run hc (fun u H' hp _=>h1 u H' hp) h2) (h.mono fun x hx=>hx.toS)
 |may ov ids u hh=>exact vw hi hx (fun hc h1 h2=>run hc (fun u H' hp _=>h1 u H' hp) h2) (h.mono fun x hx=>hx.toS)
 |mv ov ids mvs nw u hh=>
  unfold vq at h;simp only at h;split at h
  ·rename_i hg;simp only[Bool.and_eq_true] at hg;obtain⟨⟨hg,hok⟩,hq⟩:=hg;obtain⟨p,hp,h⟩:=h;cases p with
   |pan v=>refine run (hx _ hp I hi) (fun u' H' e=>by cases e) fun v' H' e=> ?_;cases e;exact h.2 v rfl
   |ok z=>
    refine run (hx _ hp I hi) (fun u' H' e hdis=> ?_) fun v' H' e=> ?_
    ·obtain⟨ρ',h1,e2,rfl,h4⟩:=e;cases e2;have h5:=h.1 z rfl;simp only at h5;split at h5
     ·rename_i hP;rw[ZT] at hP;obtain⟨hin,hsub⟩:=I4 (z:=z) hi hok hq h1 h4 hP hdis;have h6:=h5 (mvR I ρ' mvs nw d) hin (Kh hok);rw[cI,TV.ren_to (zt (I:=I) (ρ':=ρ') hok h1) hP.1] at h6;exact hR.low h6 hsub rfl
     ·cases h5
    ·obtain⟨ρ',h1,e2,_⟩:=e;cases e2
  ·cases h
def HF{R:AS->Prop}{RP:Value->List (Nat × List AV)->Prop}(hi:Inj I O.h)(hG:GOk P Y E G)(hR:Low R)(h:(evA Y E G o O).holds (OnA R RP I)):o.guard=none/\tL P o (O.to E.toEnc I) R RP:=by
 have old:((wK Y E G o O).bind fun σ'=>Tree.leaf (OL.st σ')).holds (OnA R RP I)->tL P o (O.to E.toEnc I) R RP:=fun h=>zj (zR (Y:=Y) (R:=R) (A:=Agr I) hi hG hR (Agr.refl I) (fun _ d b hn=>Agr.updB hn) ((bM h).mono fun σ' hσ=>hσ));unfold evA at h;split at h
 ·cases h
 ·rename_i hg;refine⟨hg,?_⟩;split at h
  ·rename_i f xs ats hop;split at h
   ·rename_i d hf hdst;split at h
    ·rename_i us hd hx;obtain⟨dst,op,ty,pos,af,g⟩:=o;simp only at hop hdst hg;subst hop hdst hg;refine Ld hi hR (rq hG.x f _ O.h) (fun {post ids} hc hr hp=> ?_) h;have hpa:=oe (je (I:=I) hx) (iq [] us (gJ _ _)) (fI _ _)
     refine y7 hc hpa (iN _) (fun kk oo hm=>absurd (List.eq_of_mem_replicate hm) (by simp)) (nK hi ids) (fun kk cs hk=>by rw[kK];exact qC hi ids kk cs hk) hd ?_ ?_ ?_
     ·intro u H' hp' hdis;rw[ir];exact hr u H' hp' hdis
     ·intro v H' hp';exact⟨[],fun k cs hk=>by simp[aP] at hk,hp v H' hp'⟩
     ·intro H';rw[ir];rfl
    ·cases h
   ·exact old h
  ·exact old h
def NS{n0:Nat}(hK:Low (fun τ=>br P Q ks τ)):∀ (n:Nat) (done:List Nat),Low (HX P Q ks l n0 n done)
 |0,done=>fun O σ' hn hs h=>⟨h.1,hK O σ' hn hs h.2⟩
 |n+1,done=>fun O σ' hn hs h=>⟨fun e=>hK O σ' hn hs (h.1 e),fun i hi o ho=>by obtain⟨h1,h2,h3⟩:=h.2 i hi o ho;refine⟨hn.trans h1,h2,fun F X a hsim=> ?_⟩;rw[hn];exact h3 F X a (hs _ _ _ hsim)⟩
def yJ(l:List Oper):∀ (n:Nat) (done:List Nat),ss l n done≠[]
 |0,done=>by unfold ss;split<;> simp
 |n+1,done=>by
  unfold ss;split
  ·simp
  ·rename_i h;intro e;cases hr:sy l done with
   |nil=>exact h hr
   |cons i r=>rw[hr,List.flatMap_cons] at e;have:=(List.append_eq_nil_iff.1 e).1;exact yJ l n _ (abv.1 this)
def jr{L:Type}{A B:L->Prop}:∀ {t:Tree L},t.holds A->t.holds B->t.holds fun x=>A x/\B x
 |.leaf x,h,k=>⟨h,k⟩
 |.cond b s t,h,k=>⟨fun e=>jr (h.1 e) (k.1 e),fun e=>jr (h.2 e) (k.2 e)⟩
 |.bnd o f,⟨z,h1,h2⟩,⟨y,k1,k2⟩=>by rw[h1] at k1;cases k1;exact⟨z,h1,jr h2 k2⟩
 |.sm x f p,h,k=>⟨fun z e=>jr (h.1 z e) (k.1 z e),fun v e=>jr (h.2 v e) (k.2 v e)⟩
 |.nl l s t,h,k=>⟨fun e=>jr (h.1 e) (k.1 e),jr h.2 k.2⟩
 |.fail,h,k=>h
def tG{L A:Type}{K:A->L->Prop}{t:Tree L}:∀ {w:List A},w≠[] ->(∀a∈w,t.holds (K a))->t.holds fun x=>∀a∈w,K a x
 | [],h,_=>absurd rfl h
 | [a],_,h=>(h a ZP).mono fun x hx b hb=>by rw[aaJ] at hb;subst hb;exact hx
 |a::b::r,_,h=>(jr (h a ZP) (tG (w:=b::r) (by simp) fun c hc=>h c (ZM _ hc))).mono fun x hx c hc=>by
  rcases ZY.1 hc with rfl|hc
  ·exact hx.1
  ·exact hx.2 c hc
def Jt{n0:Nat}(hG:GOk P Y E G)(hK:Low (fun τ=>br P Q ks τ))(l:List Oper):∀ (n:Nat) (done:List Nat) (O:TS E.T) (I:Rn),Inj I O.h->(∀w∈ss l n done,(rS Y E G n0 l w O).holds (OnX P E Q I ks ks))->HX P Q ks l n0 n done (O.to E.toEnc I)
 |0,done,O,I,hi,h=>by
  unfold ss at h;split at h
  ·rename_i e;exact⟨e,h [] ZP I hi (Agr.refl I)⟩
  ·have:=h _ ZP;unfold rS at this;split at this
   ·rename_i e1 e2;simp at e2
   ·cases this
 |n+1,done,O,I,hi,h=>by
  unfold ss at h;split at h
  ·rename_i e;exact⟨fun _=>h [] ZP I hi (Agr.refl I),fun i hi'=>by rw[e] at hi';cases hi'⟩
  ·rename_i e;refine⟨fun e'=>absurd e' (by simpa using e),fun i hi' o ho=> ?_⟩;have hw:∀w∈ss l n (i::done),(rS Y E G n0 l (i::w) O).holds (OnX P E Q I ks ks):=fun w hw=>h (i::w) (List.mem_flatMap.2 ⟨i,hi',aaQ hw⟩);obtain⟨w0,hw0⟩:=List.exists_mem_of_ne_nil _ (yJ l n (i::done));have hn:Nat.beq O.n n0=true:=by
    have:=hw w0 hw0;unfold rS at this;split at this
    ·assumption
    ·cases this
   have hb:∀w∈ss l n (i::done),(evA Y E G o O).holds fun x=>(yW (rS Y E G n0 l w) x).holds (OnX P E Q I ks ks):=fun w hw'=>by have:=hw w hw';unfold rS at this;rw[hn,ho] at this;exact bM this
   have:=HF (Y:=Y) (R:=HX P Q ks l n0 n (i::done)) (RP:=fun v H2=>Stk P Q ks (.panic [{ v:=v,recovered:=false }]) ⟨n0,[],H2,[]⟩) hi hG (NS hK n _) ((tG (yJ l n (i::done)) hb).mono fun x hx=>by
    cases x with
    |st σ'=>exact fun ρ' hi2 ha=>Jt hG hK l n (i::done) σ' ρ' hi2 fun w hw'=>Tree.holds.mono (fun y hy=>OnX.agr ha hy) (hx w hw')
    |pan v=>exact hx w0 hw0 _)
   exact⟨ZK hn,this.1,this.2⟩
def IA{id:Nat}{ops:List Oper}(hm:P.follows .mixedOrders=true)(hG:GOk P Y E G)(hi:Inj I O.h)(h:(Kz Y E G ops O).holds (OnX P E Q I ks ks)):br P Q (.c (.region id ops.toArray true)::ks) (O.to E.toEnc I):=by
 unfold Kz at h;split at h
 ·refine Dt ?_;refine Xi hm ?_;refine Jt (Y:=Y) hG (ql rfl) ops ops.length [] O I hi fun w hw=>(sL h _ (aaQ hw)).mono fun x hx=> ?_;cases x with
  |st σ'=>exact fun ρ' hi' ha=>xY rfl (hx ρ' hi' ha)
  |pan v=>exact hx
 ·cases h
def JF{p:Nat->Prop}(hp:∀ (q:Nat) oq,l[q]? =some oq->p q->∀d∈cq oq,p d):∀ (n:Nat) (S:List Nat),(∀j∈S,p j)->∀j∈WE l n S,p j
 |0,S,h=>h
 |n+1,S,h=>JF hp n _ (by
  split
  ·rename_i o h1 h2;intro j hj;rcases aaf.1 hj with hj|hj
   ·exact hp n o h2 (h n (E2 h1)) j hj
   ·exact h j hj
  ·exact h)
def GY{K:AS->Prop}{RP:Value->List (Nat × List AV)->Prop}{n:Nat}(hG:GOk P Y E G)(hK:Low K):∀ (cs:List Nat) (O:TS E.T) (I:Rn),Inj I O.h->(IQ Y E G n l cs O).holds (OnA K RP I)->pj P n RP K (cs.filterMap fun i=>l[i]?) (O.to E.toEnc I)
 | [],O,I,hi,h=>h I hi (Agr.refl I)
 |c::cs,O,I,hi,h=>by
  unfold IQ at h;split at h
  ·rename_i o hn ho;rw[abo,ho];refine⟨ZK hn,(HF (Y:=Y) hi hG (vM hK _) ?_).2⟩;refine(bM h).mono fun x hx=> ?_;cases x with
   |st σ'=>
    intro ρ' hi' ha;refine GY hG hK cs σ' ρ' hi' (Tree.holds.mono (fun y hy=> ?_) hx);cases y with
    |st τ=>exact fun ρ'' hi'' ha'=>hy ρ'' hi'' (ha.trans ha')
    |pan v=>exact hy
   |pan v=>exact hx
  ·cases h
def G9{fl:List Bool}{done:List Nat}{i:Nat}:i∈Fz l fl done ↔ i < l.length/\mNf fl i=false/\i ∉ done/\∃o,l[i]? =some o/\∀d∈cq o,mNf fl d=false->d∈done:=by
 unfold Fz;rw[Z2,aaF];constructor
 ·rintro⟨h1,h2⟩;simp only[Bool.and_eq_true,Bool.not_eq_true'] at h2;obtain⟨h2,h3,h4⟩:=h2;refine⟨h1,h2,(fun hc=>by rw[iC.2 hc] at h3;cases h3),l[i],ZE h1,fun d hd hm=> ?_⟩;rw[ZE h1] at h4;have:=ZL.1 h4 d hd;rw[hm,abq] at this;exact iC.1 this
 ·rintro⟨h1,h2,h3,o,h4,h5⟩;refine⟨h1,?_⟩;have h6:zl done i=false:=by
   cases e:zl done i with
   |false=>rfl
   |true=>exact absurd (iC.1 e) h3
  rw[h2,h6,h4];simp only[Bool.not_false,Bool.true_and];refine ZL.2 fun d hd=> ?_;cases hm:mNf fl d with
  |true=>rfl
  |false=>rw[abq];exact iC.2 (h5 d hd hm)
def MS{n:Nat}{RP:Value->List (Nat × List AV)->Prop}{K:AS->Prop}{mN:Nat->Bool}(hK:Low K):∀ (f:Nat) (done:List Nat),Low (L8 P n RP K l mN f done)
 |0,done=>fun O σ' hn hs h=>⟨h.1,hK O σ' hn hs h.2⟩
 |f+1,done=>fun O σ' hn hs h=>⟨hn.trans h.1,fun e=>hK O σ' hn hs (h.2.1 e),fun c o h1 h2 h3 h4 F X a hsim=>by rw[hn];exact h.2.2 c o h1 h2 h3 h4 F X a (hs _ _ _ hsim)⟩
def uR(l:List Oper)(fl:List Bool):∀ (n:Nat) (done:List Nat),sH l fl n done≠[]
 |0,done=>by unfold sH;split<;> simp
 |n+1,done=>by
  unfold sH;split
  ·simp
  ·rename_i h;intro e;cases hr:Fz l fl done with
   |nil=>exact h hr
   |cons i r=>rw[hr,List.flatMap_cons] at e;exact uR l fl n _ (abv.1 (List.append_eq_nil_iff.1 e).1)
def EC{K:AS->Prop}{RP:Value->List (Nat × List AV)->Prop}{fl:List Bool}{n:Nat}(hG:GOk P Y E G)(hK:Low K):∀ (f:Nat) (done:List Nat) (O:TS E.T) (I:Rn),Inj I O.h->(∀w∈sH l fl f done,(rS Y E G n l w O).holds (OnA K RP I))->L8 P n RP K l (mNf fl) f done (O.to E.toEnc I)
 |0,done,O,I,hi,h=>by
  unfold sH at h;split at h
  ·rename_i ha;refine⟨fun i hil hm=> ?_,h [] ZP I hi (Agr.refl I)⟩;have:=ZL.1 ha i (aaF.2 hil);rw[hm,abq] at this;exact iC.1 this
  ·have:=h _ ZP;unfold rS at this;split at this
   ·rename_i e1 e2;simp at e2
   ·cases this
 |f+1,done,O,I,hi,h=>by
  unfold sH at h;split at h
  ·have:=h _ ZP;unfold rS at this;split at this
   ·rename_i e1 e2;simp at e2
   ·cases this
  ·rename_i hx;have hw:∀i∈Fz l fl done,∀w∈sH l fl f (i::done),(rS Y E G n l (i::w) O).holds (OnA K RP I):=fun i hi' w hw=>h (i::w) (List.mem_flatMap.2 ⟨i,hi',aaQ hw⟩);have hn:∀i∈Fz l fl done,Nat.beq O.n n=true:=fun i hi'=>by
    obtain⟨w0,hw0⟩:=List.exists_mem_of_ne_nil _ (uR l fl f (i::done));have:=hw i hi' w0 hw0;unfold rS at this;split at this
    ·assumption
    ·cases this
   cases hy:Fz l fl done with
   |nil=>exact absurd hy (by simpa using hx)
   |cons i0 r0=>
   have hi0:i0∈Fz l fl done:=hy ▸ ZP;refine⟨ZK (hn i0 hi0),fun hall=> ?_,fun c o hcd hm ho hd=> ?_⟩
   ·have:=G9.1 hi0;exact absurd (hall i0 this.1 this.2.1) this.2.2.1
   ·have hc:=G9.2 ⟨(ZD.1 ho).1,hm,hcd,o,ho,hd⟩;obtain⟨w0,hw0⟩:=List.exists_mem_of_ne_nil _ (uR l fl f (c::done));have hb:∀w∈sH l fl f (c::done),(evA Y E G o O).holds fun x=>(yW (rS Y E G n l w) x).holds (OnA K RP I):=fun w hw'=>by have:=hw c hc w hw';unfold rS at this;rw[hn c hc,ho] at this;exact bM this
    exact(HF (Y:=Y) hi hG (MS hK _ _) ((tG (uR l fl f (c::done)) hb).mono fun x hx=>by
     cases x with
     |st σ'=>exact fun ρ' hi2 ha=>EC hG hK f (c::done) σ' ρ' hi2 fun w hw'=>Tree.holds.mono (fun y hy=>by
         cases y with
         |st τ=>exact fun ρ'' hi3 ha'=>hy ρ'' hi3 (ha.trans ha')
         |pan v=>exact hy) (hx w hw')
     |pan v=>exact hx w0 hw0)).2
def RU{id:Nat}{ops:List Oper}{fl:List Bool}(hm:P.follows .mixedOrders=true)(hG:GOk P Y E G)(hi:Inj I O.h)(he:O.e=[])(h:(W0 Y E G ops O fl).holds (OnX P E Q I ks ks)):br P Q (.c (.region id ops.toArray true)::ks) (O.to E.toEnc I):=by
 unfold W0 at h;split at h
 ·rename_i hB;have f1:((O.to E.toEnc I).h.filter fun p=>(fun _:Nat=>false) p.1)=[] :=aaZ.2 fun _ _=>Bool.false_ne_true;have f2:((O.to E.toEnc I).h.filter fun p=> !(fun _:Nat=>false) p.1)=(O.to E.toEnc I).h:=List.filter_eq_self.2 fun _ _=>rfl;refine Dt ?_
  refine K0 (st:=fun _=>false) (mN:=mNf fl) (fuel:=(tS 0 fl).length) hm (Qo hB) (by simp only[TS.to,he];rfl) ?_;rw[f1,f2];have e1:(O.to E.toEnc I).withH [] =(O.withB []).to E.toEnc I:=rfl;rw[e1];refine DF (Y:=Y) (ld:=[]) hG (fun p hp=>by cases hp) ops 0 _ rfl ?_;refine(bM h).mono fun σN hN=> ?_
  have e2:((σN.to E.toEnc I).withH (O.to E.toEnc I).h).als (kh ops (mNf fl) 0 ops)=((σN.withB O.h).alsA (kh ops (mNf fl) 0 ops)).to E.toEnc I:=by rw[J5];rfl
  rw[e2];have e3:(fun σ2:AS=>br P Q (.o [] 0 [] ::ks) (σ2.withH (σ2.h++ [])))=fun σ2=>br P Q (.o [] 0 [] ::ks) σ2:=funext fun σ2=>by rw[aax];rfl
  rw[e3];refine EC (Y:=Y) hG (ql rfl) _ _ _ I hi fun w hw=>(sL hN _ (aaQ hw)).mono fun x hx=> ?_;cases x with
  |pan v=>exact⟨[],fun k cs hk=>by simp[aP] at hk,hx _⟩
  |st σ'=>exact fun ρ' hi' ha=>xY rfl (hx ρ' hi' ha)
 ·cases h
def S9{id:Nat}{ops:List Oper}(hm:P.follows .mixedOrders=true)(hG:GOk P Y E G)(hi:Inj I O.h)(he:O.e=[])(h:(VB Y E G ops O).holds (OnX P E Q I ks ks)):br P Q (.c (.region id ops.toArray true)::ks) (O.to E.toEnc I):=by
 unfold VB at h;split at h
 ·exact IA (Y:=Y) hm hG hi h
 ·exact RU (Y:=Y) hm hG hi he h
def Pz{id:Nat}{ops:List Oper}{fl:List Bool}{ids cs1 cs2:List Nat}{ld:List (Nat × Nat × Nat)}(hm:P.follows .mixedOrders=true)(hG:GOk P Y E G)(hi:Inj I O.h)(he:O.e=[])(h:(MD Y E G ops O fl ids cs1 cs2 ld).holds (OnX P E Q I ks ks)):br P Q (.c (.region id ops.toArray true)::ks) (O.to E.toEnc I):=by
 unfold MD at h;split at h
 ·rename_i hB;simp only[Bool.and_eq_true] at hB;obtain⟨_,⟨hB,hids⟩,hld⟩:=hB;obtain⟨hld1,hld2⟩:=OO (I:=I) hld;refine Dt ?_;refine Mt (st:=stA I O.h ids) (mN:=mNf fl) (mB:=mBf ops cs2) (ld:=ldR I ld) (cs1:=cs1) (cs2:=cs2) hm (SA hB) (fun i c o hmi hmb hc ho=> ?_) (by simp only[TS.to,he];rfl) hld1 hld2 ?_
  ·unfold mBf at hmb;cases cs2 with
   |nil=>cases hc
   |cons c' r=>simp only[List.head?_cons,Option.some.injEq] at hc;subst hc;exact fun p hp hc=>JF hp (c'+1) [c'] (fun j hj=>by rw[aaJ] at hj;subst hj;exact hc) i (E2 hmb)
  ·have e1:(O.to E.toEnc I).withH ((O.to E.toEnc I).h.filter fun p=>stA I O.h ids p.1)=(O.withB (inH ids O.h)).to E.toEnc I:=by
    show AS.mk _ _ _ _=AS.mk _ _ _ _;rw[show(O.withB (inH ids O.h)).h=inH ids O.h from rfl,L1 hi hids];rfl
   rw[e1];refine DF (Y:=Y) hG (hi.of_mem JO) ops 0 _ rfl ?_;refine(bM h).mono fun σN hN=> ?_;have e2:((σN.to E.toEnc I).withH ((O.to E.toEnc I).h.filter fun p=> !stA I O.h ids p.1)).als (kh ops (mNf fl) 0 ops)=((σN.withB (F9 ids O.h)).alsA (kh ops (mNf fl) 0 ops)).to E.toEnc I:=by
    rw[J5]
    congr 1
    show AS.mk _ _ _ _=AS.mk _ _ _ _;rw[show(σN.withB (F9 ids O.h)).h=F9 ids O.h from rfl,UB hi hids];rfl
   rw[e2];refine IP (Y:=Y) (all:=false) hG (fun e=>by cases e) cs1 _ (hi.of_mem ML) ?_;refine(bM hN).mono fun x hx=> ?_;cases x with
   |pan v=>exact⟨[],fun k cs hk=>by simp[aP] at hk,hx _⟩
   |st σ1=>
    intro hi1;simp only[yW] at hx;split at hx
    ·rename_i hs;simp only[Bool.and_eq_true] at hs;have hin:Inj I (σ1.h++inH ids O.h):=hi.sub fun p hp=>by
      rcases aaf.1 hp with hp|hp
      ·have:=ZL.1 hs.1.1 p.1 (aaQ hp);obtain⟨b,hb⟩:=aaT.1 this;have hno:=ZL.1 hs.1.2 p hp;have hou:(p.1,b)∈F9 ids O.h:=Z2.2 ⟨db hb,hno⟩;exact⟨(p.1,b),db hb,rfl,by rw[DV hs.2.1 hp];exact DV hs.2.2 hou I⟩
      ·exact⟨p,JO p hp,rfl,rfl⟩
     have e3:((σ1.to E.toEnc I).withH ((σ1.to E.toEnc I).h++ (O.to E.toEnc I).h.filter fun p=>stA I O.h ids p.1)).alc (ldR I ld)=((σ1.withB (σ1.h++inH ids O.h)).alcT ld).to E.toEnc I:=by
      rw[RS]
      congr 1
      show AS.mk _ _ _ _=AS.mk _ _ _ _;have:hTo E.toEnc I (σ1.h++inH ids O.h)=hTo E.toEnc I σ1.h++hTo E.toEnc I (inH ids O.h):=sS _ _ _ _;rw[show(σ1.withB (σ1.h++inH ids O.h)).h=σ1.h++inH ids O.h from rfl,this,L1 hi hids];rfl
     rw[e3];refine(vM (ql rfl) _).low ?_ N4 rfl;refine GY (Y:=Y) hG (ql rfl) cs2 _ I hin ?_;refine hx.mono fun y hy=> ?_;cases y with
     |pan v=>exact hy _
     |st σ3=>exact fun ρ3 hi3 ha3=>xY rfl (hy ρ3 hi3 ha3)
    ·cases hx
 ·exact S9 (Y:=Y) hm hG hi he h
def IC{id:Nat}{ops:List Oper}(hm:P.follows .mixedOrders=true)(hG:GOk P Y E G)(hi:Inj I O.h)(h:(Sy Y E G ops O).holds (OnX P E Q I ks ks)):br P Q (.c (.region id ops.toArray true)::ks) (O.to E.toEnc I):=by
 unfold Sy at h;split at h
 ·rename_i he;exact Pz (Y:=Y) hm hG hi he h
 ·cases h
def WM{id:Nat}{ops:Array Oper}{draw:Bool}(hm:P.follows .mixedOrders=true)(hG:GOk P Y E G)(hi:Inj I O.h)(h:(evR Y E G ops.toList draw O).holds (OnX P E Q I ks ks)):br P Q (.c (.region id ops draw)::ks) (O.to E.toEnc I):=by
 have hops:ops=ops.toList.toArray:=by simp
 unfold evR at h;split at h
 ·rw[hops];refine ot ?_;exact pZ (Y:=Y) hG ops.toList ops.toList 0 O I (fun i o ho=>by simpa using ho) (by simp) hi h
 ·split at h
  ·rename_i he;split at h
   ·rename_i hB;rw[hops];refine Dt ?_;refine T1 hm hB (by simp only[TS.to,he];rfl) ?_;refine xr (Y:=Y) (K:=fun σ'=>br P Q (.o [] 0 [] ::ks) σ') (fun σ1 σ2 h1 h2=>jd rfl (vC h1) h2) hG ops.toList O.h hi ops.toList O rfl ?_;exact(bM h).mono fun σ' hσ (hh:σ'.h=O.h)=>xY rfl (hσ I (hh ▸ hi) (Agr.refl I))
   ·cases h
  ·rename_i body om after hsp he;split at h
   ·rename_i hB
    have hl:=vO hsp;rw[hops];refine Mf hm hl hB (by simp only[TS.to,he];rfl) ?_;refine xr (Y:=Y) (K:=fun σ'=>br P Q (.o ops.toList body.length (om::after)::ks) (σ'.als (fg body))) (fun σ1 σ2 h1 h2=>jd rfl (vC (h1.als _)) h2) hG ops.toList O.h hi body O rfl ?_;refine(bM h).mono fun σ' hσ (hh:σ'.h=O.h)=> ?_;refine jd rfl Hj ?_
    refine pZ (Y:=Y) hG ops.toList (om::after) body.length (σ'.alsT (fg body)) I (fun i o ho=> ?_) ?_ (hh ▸ hi) hσ
    ·rw[hl,ZJ (by omega)];simpa using ho
    ·rw[hl];simp
   ·split at h
    ·split at h
     ·rw[hops];exact MN (Y:=Y) hm hG hi he (vO hsp) h
     ·rw[hops];exact IC (Y:=Y) hm hG hi h
    ·rw[hops];exact IC (Y:=Y) hm hG hi h
  ·cases h
end
def pY(X:GW)(k:Nat)(cs:List AV):Prop:=X.g k=some cs.length/\∃ (arr:Array Value) (e:TypeId) (fr:Nat × Nat),X.w.heap[k]? =some (.cells arr e fr)/\arr.size=cs.length/\∀ (o:Nat) u x,cs[o]? =some u->arr[o]? =some x->Rel X u x
def AS.unbox(O:AS)(k:Nat):AS:={ n:=O.n,t:=O.t,h:=O.h.filter fun p=> !(p.1==k),e:=[] }
def SimE.freeze{F:Nat->Prop}{X:GW}{O:AS}{tm:Array Value}{k:Nat}{cs:List AV}(h:SimE F X O tm)(hb:look O.h k=some cs)(hm:fU cs=false):
  ∃X':GW,X'.w=X.w/\SimE F X' (O.unbox k) tm/\pY X' k cs/\Ext F X X':=by
 obtain⟨b1,b2,arr,el,fr,b3,b4,b5,b6⟩:=(h.box k cs hb).cells hm;have hkl:k < X.w.heap.size:=(ZU.1 b3).1;have hpres:nj X ⟨X.w,fun b=>if b=k then some cs.length else X.g b⟩:=fun b m hbm=>by
  have hbk:b≠k:=fun e=>by rw[e,b1] at hbm;cases hbm
  exact⟨m,ZN _,by show(if b=k then _ else _)=_;rw[ZH hbk];exact hbm,fun _ _=>rfl⟩
 have hown:∀ {sz':Nat} {l':List (List AV)} {x:Value},gH F X sz' l' x->gH F ⟨X.w,fun b=>if b=k then some cs.length else X.g b⟩ sz' l' x:=fun {sz' l' x} ho=>by
  rcases ho with h1| ⟨b,cap,cs',e',fr',h1,h2,h3,h4,h5,h6⟩
  ·exact .inl h1
  ·have hbk:b≠k:=fun e=>by rw[e,b1] at h2;cases h2
   exact .inr ⟨b,cap,cs',e',fr',h1,by show(if b=k then _ else _)=_;rw[ZH hbk];exact h2,h3,h4,h5,h6⟩
 have owns:∀r sz' l',(O.unbox k).own r=some (sz',l')->O.own r=some (sz',l'):=fun r sz' l' ho=>by
  cases r with
  |s t=>exact ho
  |c k' o=>
   simp only[AS.unbox,AS.own] at ho;cases hq:look (O.h.filter fun p=> !(p.1==k)) k' with
   |none=>rw[hq] at ho;cases ho
   |some cs'=>obtain⟨q1,q2⟩:=jH hq;rw[hq] at ho;simp only[AS.own,q2];exact ho
 refine⟨⟨X.w,fun b=>if b=k then some cs.length else X.g b⟩,rfl,⟨⟨h.size,fun b m hbm=> ?_,h.fb,fun t u hu=>(h.slot t u hu).mono hpres,fun k' cs' hk'=> ?_,fun x r hx=>by simp[AS.unbox,aP] at hx,fun r sz' l' ho=> ?_,fun r r' s1 l1 s2 l2 a n1 c1 a' n2 c2 hne ho ho' hr hr'=> ?_⟩,fun p hp=>by cases hp⟩,⟨by show(if k=k then _ else _)=_;rw[ZI rfl],arr,el,fr,b3,b4,fun o u x hu hx=>(b6 o u x hu hx).mono hpres⟩,rfl,rfl,rfl,ZN _,fun b hF=>⟨rfl,?_⟩,hpres⟩
 ·simp only at hbm;split at hbm
  ·rename_i e;rw[e];exact hkl
  ·exact h.gb b m hbm
 ·obtain⟨q1,q2⟩:=jH hk';exact(h.box k' cs' q2).keep ⟨rfl,by show(if k'=k then _ else _)=_;rw[ZH q1],(h.box k' cs' q2).nF⟩ hpres
 ·obtain⟨x,k1,k2⟩:=h.own r sz' l' (owns r sz' l' ho);exact⟨x,k1,hown k2⟩
 ·exact h.disj r r' s1 l1 s2 l2 a n1 c1 a' n2 c2 hne (owns _ _ _ ho) (owns _ _ _ ho') hr hr'
 ·show(if b=k then _ else _)=_;rw[ZH (fun e=>b2 (by rw[<- e];exact hF))]
def pY.sl{X:GW}{k:Nat}{cs:List AV}(h:pY X k cs){sz:Nat}{L:List (List AV)}{sp:List AV}{c:Nat}(hcs:cs=L.flatten++sp)(hsz:∀r∈L,r.length=sz)(hc:L.length<=c):Rel X (.sl false sz L) (.slice (some ⟨k,0,none⟩) L.length c):=by
 obtain⟨h1,arr,e,fr,h2,h3,h4⟩:=h;have hcell:∀ (i j:Nat) (r:List AV) (u:AV),L[i]? =some r->r[j]? =some u->∃x,arr[i * sz+j]? =some x/\Rel X u x:=fun i j r u hi hj=>by
  have k1:=yN hsz hi hj;have k2:cs[i * sz+j]? =some u:=by rw[hcs,ZO (ZD.1 k1).1];exact k1
  have k3:i * sz+j < arr.size:=by rw[h3];exact(ZD.1 k2).1
  exact⟨arr[i * sz+j],ZV k3,h4 _ _ _ k2 (ZV k3)⟩
 refine .sl false sz L k 0 c cs.length (fun i j=>arr.getD (i * sz+j) undef) h1 (by rw[hcs,ZR,tK hsz];omega) hc (fun i r hi=>hsz r (ZQ hi)) (fun i j r u hi hj=> ?_) (fun i j r u hi hj=> ?_)
 ·obtain⟨x,k1,k2⟩:=hcell i j r u hi hj;show X.w.cell? ⟨k,0+i * sz+j,none⟩=_;simp only[World.cell?,h2,Nat.zero_add,Array.getD_eq_getD_getElem?,k1];rfl
 ·obtain⟨x,k1,k2⟩:=hcell i j r u hi hj;rw[aam,k1];exact k2
def pY.el{X:GW}{k:Nat}{cs:List AV}(h:pY X k cs):Rel X (.el cs) (.pointer (some ⟨k,0,none⟩)):=by
 obtain⟨h1,arr,e,fr,h2,h3,h4⟩:=h;have hcell:∀ (j:Nat) (u:AV),cs[j]? =some u->∃x,arr[j]? =some x/\Rel X u x:=fun j u hj=>by
  have k3:j < arr.size:=by rw[h3];exact(ZD.1 hj).1
  exact⟨arr[j],ZV k3,h4 _ _ _ hj (ZV k3)⟩
 refine .el cs k 0 cs.length (fun j=>arr.getD j undef) h1 (by omega) (fun j u hj=> ?_) (fun j u hj=> ?_)
 ·obtain⟨x,k1,k2⟩:=hcell j u hj;simp only[World.cell?,h2,Nat.zero_add,Array.getD_eq_getD_getElem?,k1];rfl
 ·obtain⟨x,k1,k2⟩:=hcell j u hj;rw[aam,k1];exact k2
def m9{α:Type}(n:Nat)(l:List α):Option (List α):=if n=l.length then some l else none
def B3{α:Type}{n:Nat}{l r:List α}(h:m9 n l=some r):r=l/\n=l.length:=by
 unfold m9 at h;split at h
 ·rename_i e;cases h;exact⟨rfl,e⟩
 ·cases h
def wJ{α:Type}(n c:Nat)(l:List α):Option (List α):=if n=l.length/\n<=c then some l else none
inductive Cl where
 |v (t:Ty)
 |b (n:Nat)
 |a (n:Nat)
inductive Pl where
 |s (s:Nat)
 |c (k o:Nat)
inductive Gh where
 |nl (p:Pl) (i:Nat) (t:Ty)
 |cl (i:Nat) (c:Cl) (p:Pl)
def Te(E:Env)(i:Nat)(c:Cl)(b:TB E.T)(x:TA E.T):Tree (TA E.T):=
 match c,b,x with
 |.v t,.vec i' t' l,.vec t2 i2 n=>match Nat.beq i' i && Nat.beq i2 i,j9 (.sl t') (.sl t) l,decide (t2=t) with
  |true,some l',true=>.bnd (m9 n l') fun r=>.leaf (.d (.sl t) r)
  |_,_,_=>.fail
 |.b n,.cs l,.box i2 0=>match Nat.beq i2 i,E.pk n (l.map TA.rd) with
  |true,some (z,[])=>.leaf (.d (.ptr (.nam n)) (some z))
  |_,_=>.fail
 |.a n,.row .bool l,.box i2 0=>match Nat.beq i2 i with
  |true=>.bnd (m9 n l) fun r=>.leaf (.d (.ptr (.bits n)) (some r))
  |false=>.fail
 |.v .bool,.row .bool l,.bsl i2 0 n c=>match Nat.beq i2 i with
  |true=>.bnd (wJ n c l) fun r=>.leaf (.d (.sl .bool) r)
  |false=>.fail
 |_,_,_=>.fail
def ghT(E:Env)(g:Gh)(O:TS E.T):Tree (TS E.T):=
 match g with
 |.nl (.s s) i t=>match look O.t s,O.noId i && !big i with
  |some (.a (.raw (.slice none 0 0))),true=>.leaf { n:=O.n,t:=(s,.a (.vec t i 0))::O.t,h:=(i,.vec i t [])::O.h,e:=[] }
  |_,_=>.fail
 |.nl (.c k o) i t=>match look O.h k,O.noId i && !big i && !Nat.beq k i with
  |some (.cs cs),true=>match cs[o]? with
   |some (.raw (.slice none 0 0))=>.leaf { n:=O.n,t:=O.t,h:=(i,.vec i t [])::(k,.cs (cs.set o (.vec t i 0)))::O.h,e:=[] }
   |_=>.fail
  |_,_=>.fail
 |.cl i c (.s s)=>match look O.h i,look O.t s with
  |some b,some (.a x)=>(Te E i c b x).bind fun y=>.leaf { n:=O.n,t:=(s,.a y)::O.t,h:=dropHH [i] O.h,e:=[] }
  |_,_=>.fail
 |.cl i c (.c k o)=>match look O.h i,look O.h k,Nat.beq k i with
  |some b,some (.cs cs),false=>match cs[o]?,cs.all TA.plain with
   |some x,true=>(Te E i c b x).bind fun y=>.leaf { n:=O.n,t:=O.t,h:=(k,.cs (cs.set o y))::dropHH [i] O.h,e:=[] }
   |_,_=>.fail
  |_,_,_=>.fail
def SW(E:Env):List Gh->TS E.T->Tree (TS E.T)
 | [],O=>.leaf O
 |g::r,O=>(ghT E g O).bind (SW E r)
section
variable {E:Env} {I:Rn}
def Rel.el_le{X:GW}{cs cs':List AV}{v:Value}(h:Rel X (.el cs) v)(hl:LeL cs cs'):Rel X (.el cs') v:=by
 cases h with
 |el _ b off n c hg hn hm hr=>
  refine .el cs' b off n c hg (by rw[<- hl.length];exact hn) (fun j u hj=> ?_) (fun j u hj=> ?_)
  ·obtain⟨u0,k1,k2⟩:=hl.get j u hj;exact hm j u0 k1
  ·obtain⟨u0,k1,k2⟩:=hl.get j u hj;exact k2.rel (hr j u0 k1)
def SR(l:List Bool){X:GW}{i n c:Nat}(hn:n=l.length)(hc:n<=c)(hf:pY X i (l.map (one E.toEnc .bool))):Rel X (.sl false 1 (l.map fun b=>[AV.v (.bool b)])) (.slice (some ⟨i,0,none⟩) n c):=by
 have e7:l.map (one E.toEnc .bool)=(l.map fun b=>[AV.v (.bool b)]).flatten++ [] :=by
  rw[aax];clear hf hn
  induction l with
  |nil=>rfl
  |cons a r ih=>exact aas (AV.v (.bool a):: ·) ih
 have:=hf.sl (sz:=1) (L:=l.map fun b=>[AV.v (.bool b)]) (sp:=[]) (c:=c) e7 (fun q hq=>by obtain⟨z,_,rfl⟩:=ZW.1 hq;rfl) (by rw[Z3];omega);rw[Z3,<- hn] at this;exact this
def Nx{i:Nat}{c:Cl}{b:TB E.T}{x:TA E.T}{K:TA E.T->Prop}(h:(Te E i c b x).holds K):
  ∃y,K y/\y.plain=true/\∀I:Rn,fU (b.to E.toEnc I)=false/\∀X v,Rel X (x.to E.toEnc I) v->(bi I b=true->pY X (I i) (b.to E.toEnc I))->Rel X (y.to E.toEnc I) v:=by
 unfold Te at h;split at h
 ·rename_i t i' t' l t2 i2 n;split at h
  ·rename_i l' h1 h2 h3
   rw[ZT] at h1;have e1:=ZK h1.1;have e2:=ZK h1.2;have e3:=aaV h3;obtain⟨e4,rfl⟩:=ev h2;cases e4;subst e1;subst e2;subst e3;obtain⟨r,hr,hk⟩:=h;obtain⟨e5,hn⟩:=B3 hr;subst e5;refine⟨_,hk,rfl,fun I=>⟨fN jx,fun X v hv hf=> ?_⟩⟩;have e6:=cE hv;subst e6;show Rel X (.sl false (csz E.toEnc t2) (List.map (cells E.toEnc t2) r)) _;unfold vecV
   split
   ·rename_i hc;rw[ZT] at hc;have n0:=ZK hc.2;have:r=[] :=aal.1 (hn.symm.trans n0);subst this;exact .nl _ _ _ _
   ·rename_i hc;have hlive:bi I (TB.vec i2 t2 r:TB E.T)=true:=by
     simp only[bi];cases hq:(I.k i2).nil && r.isEmpty with
     |false=>rfl
     |true=>rw[ZT] at hq;exfalso;apply hc;rw[hq.1];have:r=[] :=List.isEmpty_iff.1 hq.2;rw[hn,this];rfl
    have:=(hf hlive).sl (sz:=csz E.toEnc t2) (L:=List.map (cells E.toEnc t2) r) (sp:=(I.k i2).sp.map AV.v) (c:=n+ (I.k i2).sp.length / csz E.toEnc t2) rfl (fun q hq=>by obtain⟨z,_,rfl⟩:=ZW.1 hq;exact eH _ _ _) (by rw[Z3,hn];exact abf _ _);rw[Z3,<- hn] at this;exact this
  ·cases h
 ·rename_i n l i2;split at h
  ·rename_i z h1 h2;have e1:=ZK h1;subst e1;refine⟨_,h,rfl,fun I=>⟨fN fun u hu=> ?_,fun X v hv hf=> ?_⟩⟩
   ·obtain⟨a,_,rfl⟩:=ZW.1 hu;exact TA.to_notMp _ _ _
   ·have e6:=cE hv;subst e6;have hp:=E.pk_to n _ z [] I h2;simp only[List.map_nil,List.append_nil] at hp;have h3:=(hf rfl).el;refine Rel.el_le (h3.el_le ?_) hp;have:=ju (E:=E) (I:=I) (l.map TA.rd);refine(ju (E:=E) (I:=I) l).trans ?_;rw[aaY] at this;exact this
  ·cases h
 ·rename_i n l i2;split at h
  ·rename_i h1;have e1:=ZK h1;subst e1;obtain⟨r,hr,hk⟩:=h;obtain⟨e5,hn⟩:=B3 hr;subst e5;refine⟨_,hk,rfl,fun I=> ?_⟩;have hfl:=jv (E:=E) (I:=I) (ty:=.bool) rfl r;refine⟨fN fun u hu=> ?_,fun X v hv hf=> ?_⟩
   ·rw[hfl] at hu;obtain⟨a,_,rfl⟩:=ZW.1 hu;exact n6 _ _
   ·have e6:=cE hv;subst e6;have h3:=(hf rfl).el;have e7:(TB.row .bool r:TB E.T).to E.toEnc I=cells E.toEnc (.bits n) r:=by
     rw[hfl];show _=(List.range n).map fun i=>AV.v (.bool (List.getD r i false));apply List.ext_getElem
     ·simp;exact hn.symm
     ·intro j k1 k2;simp only[List.getElem_map,List.getElem_range];have:j < List.length r:=by simpa using k1
      have e8:∀ (q:List Bool) (hj:j < q.length),AV.v (.bool q[j])=AV.v (.bool (q.getD j false)):=fun q hj=>by rw[Z5,ZE hj];rfl
      exact e8 r this
    rw[e7] at h3;exact h3
  ·cases h
 ·rename_i l i2 n c;split at h
  ·rename_i h1;have e1:=ZK h1;subst e1;obtain⟨r,hr,hk⟩:=h;unfold wJ at hr;split at hr
   ·rename_i hn;cases hr;refine⟨_,hk,rfl,fun I=> ?_⟩;have hfl:=jv (E:=E) (I:=I) (ty:=.bool) rfl l;refine⟨fN fun u hu=> ?_,fun X v hv hf=> ?_⟩
    ·rw[hfl] at hu;obtain⟨a,_,rfl⟩:=ZW.1 hu;exact n6 _ _
    ·have e6:=cE hv;subst e6;have h3:=hf rfl;rw[hfl] at h3;exact SR l hn.1 hn.2 h3
   ·cases hr
  ·cases h
 ·cases h
def mj{α:Type}{k j:Nat}:∀ {l:List (Nat × α)},j≠k->look (l.filter fun p=> !(p.1==k)) j=look l j
 | [],_=>rfl
 | (a,b)::r,h=>by
   rw[abc];by_cases e:a=k
   ·rw[ZH (by simp[e]),mj h,ae,ZH (fun e2=>h (e2.trans e))]
   ·rw[ZI (by simpa using e),ae,ae,mj h]
def lY{T:Nat->Type}{i j:Nat}(h:j≠i):∀ {l:List (Nat × TB T)},look (dropHH [i] l) j=look l j
 | [] =>rfl
 | (a,b)::r=>by
   simp only[dropHH];cases hm:jA [i] a with
   |true=>
    have:a=i:=by simpa using eb.1 hm
    rw[ae,ZH (fun e=>h (e.trans this))];exact lY h
   |false=>rw[ae,ae,lY h]
def Nn{O:TS E.T}{i:Nat}{b:TB E.T}(hi:Inj I O.h)(hb:look O.h i=some b)(hm:fU (b.to E.toEnc I)=false):
  Inj I (dropHH [i] O.h)/\∀F X tm,SimE F X (O.to E.toEnc I) tm->∃X':GW,X'.w=X.w/\SimE F X' ((⟨O.n,O.t,dropHH [i] O.h,[]⟩:TS E.T).to E.toEnc I) tm/\(bi I b=true->pY X' (I i) (b.to E.toEnc I))/\Ext F X X':=by
 have hi':Inj I (dropHH [i] O.h):=hi.sub fun p hp=>⟨p,ge p hp,rfl,rfl⟩
 refine⟨hi',fun F X tm hs=> ?_⟩;cases hl:bi I b with
 |true=>
  obtain⟨X',h1,h2,h3,h4⟩:=hs.freeze (dz E.toEnc hi hb hl) hm;refine⟨X',h1,h2.le3 rfl (fun t u hu=>⟨u,hu,.inl (.refl _)⟩) (fun k cs' hk=>⟨cs',?_,LeL.refl _⟩) (fun p hp=>by cases hp),fun _=>h3,h4⟩;obtain⟨j,b',k1,k2,k3,k4⟩:=iJ hi' hk;obtain⟨k5,k6⟩:=js k2;subst k1;subst k3;show look ((hTo E.toEnc I O.h).filter _) _=_;rw[mj]
  ·exact dz E.toEnc hi k5 k4
  ·intro e;have:=(hi _ (db k5) _ (db hb)).1 k4 hl e;exact k6 (by simp only at this;rw[this];exact List.mem_singleton_self _)
 |false=>refine⟨X,rfl,hs.le3 rfl (fun t u hu=>⟨u,hu,.inl (.refl _)⟩) (fun k cs' hk=>⟨cs',?_,LeL.refl _⟩) (fun p hp=>by cases hp),(fun e=>by cases e),Ext.refl F X⟩;obtain⟨j,b',k1,k2,k3,k4⟩:=iJ hi' hk;obtain⟨k5,k6⟩:=js k2;subst k1;subst k3;exact dz E.toEnc hi k5 k4
def We{l:List (TA E.T)}(h:l.all TA.plain=true):io (l.map (TA.to E.toEnc I)):=fun u hu=>by obtain⟨a,ha,rfl⟩:=ZW.1 hu;exact TA.plain_to _ _ (ZL.1 h a ha)
def ef.set{F:Nat->Prop}{X:GW}{k o:Nat}{cs:List AV}{x y:AV}(h:ef F X k cs)(hx:cs[o]? =some x)(hr:∀v,Rel X x v->Rel X y v):ef F X k (cs.set o y):=by
 obtain⟨b1,b2,arr,e,fr,b3,b4,b5,b6⟩:=h;refine⟨b1,b2,arr,e,fr,b3,by rw[aaA];exact b4,b5,fun j u v hu hv=> ?_⟩;rw[List.getElem?_set] at hu;split at hu
 ·rename_i e;subst e;split at hu
  ·cases hu;exact hr v (b6 o x v hx hv)
  ·cases hu
 ·exact b6 j u v hu hv
def GhOk(O τ:TS E.T):Prop:=∀I,Inj I O.h->∃ρ',Agr I ρ'/\Inj ρ' τ.h/\∀F X tm,SimE F X (O.to E.toEnc I) tm->∃X':GW,X'.w=X.w/\SimE F X' (τ.to E.toEnc ρ') tm/\Ext F X X'
theorem GhOk.refl(O:TS E.T):GhOk O O:=fun I hi=>⟨I,Agr.refl I,hi,fun F X tm hs=>⟨X,rfl,hs,Ext.refl F X⟩⟩
def GhOk.trans{O τ υ:TS E.T}(h:GhOk O τ)(k:GhOk τ υ):GhOk O υ:=fun I hi=>by obtain⟨ρ1,a1,i1,s1⟩:=h I hi;obtain⟨ρ2,a2,i2,s2⟩:=k ρ1 i1;refine⟨ρ2,a1.trans a2,i2,fun F X tm hs=> ?_⟩;obtain⟨X1,w1,q1,e1⟩:=s1 F X tm hs;obtain⟨X2,w2,q2,e2⟩:=s2 F X1 tm q1;exact⟨X2,w2.trans w1,q2,e1.trans e2⟩
def Mu{i:Nat}{x:Bk}(h:(!big i)=true):Agr I (dG I i x):=fun j hj=>by unfold dG;simp only;rw[ZH (fun e=>by rw[e] at hj;rw[hj] at h;cases h)]
def BZ{i:Nat}{t:Ty}{h:List (Nat × TB E.T)}:hTo E.toEnc (dG I i ⟨0,true,[]⟩) ((i,.vec i t [])::h)=hTo E.toEnc (dG I i ⟨0,true,[]⟩) h:=fo E.toEnc h (by simp[bi,dG])
def WL{g:Gh}{O:TS E.T}{K:TS E.T->Prop}(h:(ghT E g O).holds K):∃τ,K τ/\GhOk O τ:=by
 unfold ghT at h;split at h
 ·rename_i s i t;split at h
  ·rename_i hl hc;rw[ZT] at hc;refine⟨_,h,fun I hi=>⟨dG I i ⟨0,true,[]⟩,Mu hc.2,ik hi hc.1 fun e=> ?_,fun F X tm hs=>⟨X,rfl,?_,Ext.refl F X⟩⟩⟩
   ·simp[bi,dG] at e
   ·rw[<- TS.updB_to (y:=⟨0,true,[]⟩) hc.1] at hs;refine hs.le3 rfl (fun t' u hu=> ?_) (fun k cs' hk=>⟨cs',by rw[<- hk];exact(aas (fun l=>look l k) BZ).symm,LeL.refl _⟩) (fun p hp=>by cases hp);simp only[TS.to,cg,ae] at hu ⊢;split at hu
    ·rename_i e;subst e;cases hu;refine⟨_,by rw[hl];rfl,.inl ?_⟩;show Le1 (.v (.slice none 0 0)) (.v (vecV _ _ _));simp[vecV,dG,nS];exact .refl _
    ·exact⟨u,hu,.inl (.refl _)⟩
  ·cases h
 ·rename_i k o i t;split at h
  ·rename_i cs hl hc;rw[ZT,ZT] at hc;split at h
   ·rename_i ho;have hki:k≠i:=fun e=>by rw[e] at hc;simp at hc
    refine⟨_,h,fun I hi=> ?_⟩;have hn:(⟨O.n,O.t,(k,.cs (cs.set o (.raw (.slice none 0 0))))::O.h,O.e⟩:TS E.T).noId i=true:=by
     have h0:=hc.1.1;unfold TS.noId at h0 ⊢;simp only[Bool.and_eq_true] at h0 ⊢;refine⟨⟨h0.1.1,?_⟩,h0.2⟩;have:=ZL.1 h0.1.2 _ (db hl);simp only[List.all_cons,Bool.and_eq_true] at this ⊢;refine⟨⟨this.1,?_⟩,h0.1.2⟩;have e:cs.set o (.raw (.slice none 0 0))=cs:=by
      apply aa9;intro j;rw[List.getElem?_set];split
      ·rename_i e;subst e;split
       ·exact ho.symm
       ·rename_i hlt;rw[abi (by omega)]
      ·rfl
     rw[e];exact this.2
    have hi1:Inj I ((k,.cs (cs.set o (.raw (.slice none 0 0))))::O.h):=j5 hi hl rfl;have hi2:=ik (b:=.vec i t []) (x:=⟨0,true,[]⟩) (O:=⟨O.n,O.t,(k,.cs (cs.set o (.raw (.slice none 0 0))))::O.h,O.e⟩) hi1 hn (fun e=>by simp[bi,dG] at e);refine⟨dG I i ⟨0,true,[]⟩,Mu hc.1.2,hi2.sub fun p hp=> ?_,fun F X tm hs=>⟨X,rfl,?_,Ext.refl F X⟩⟩
    ·rcases ZY.1 hp with rfl|hp
     ·exact⟨_,ZP,rfl,rfl⟩
     ·rcases ZY.1 hp with rfl|hp
      ·exact⟨_,ZM _ ZP,rfl,rfl⟩
      ·exact⟨p,ZM _ (ZM _ hp),rfl,rfl⟩
    ·rw[<- TS.updB_to (y:=⟨0,true,[]⟩) hc.1.1] at hs;refine hs.le3 rfl (fun t' u hu=>⟨u,hu,.inl (.refl _)⟩) (fun k' cs' hk=>⟨cs',?_,LeL.refl _⟩) (fun p hp=>by cases hp);have hk':look (hTo E.toEnc (dG I i ⟨0,true,[]⟩) ((k,.cs (cs.set o (.vec t i 0)))::O.h)) k'=some cs':=by rw[<- hk];exact(aas (fun l=>look l k') BZ).symm
     rw[dS _ _ rfl,ae] at hk';split at hk'
     ·rename_i e;subst e;cases hk';have hi3:Inj (dG I i ⟨0,true,[]⟩) O.h:=hi2.sub fun p hp=>⟨p,ZM _ (ZM _ hp),rfl,rfl⟩
      have:=dz E.toEnc hi3 hl rfl;refine this.trans (aas some ?_);show cs.map _=(cs.set o (.vec t i 0)).map _;apply aa9;intro j;rw[aao,aao,List.getElem?_set];split
      ·rename_i e;subst e;have hlt:=(ZD.1 ho).1;rw[ho,ZI hlt];simp[TA.to,vecV,dG,nS]
      ·rfl
     ·exact hk'
   ·cases h
  ·cases h
 ·rename_i i c s;split at h
  ·rename_i b x hb hx;obtain⟨y,hk,hy,hcl⟩:=Nx (bM h);refine⟨_,hk,fun I hi=> ?_⟩;obtain⟨hm,hr⟩:=hcl I;obtain⟨hi',h1⟩:=Nn hi hb hm;refine⟨I,Agr.refl I,hi',fun F X tm hs=> ?_⟩;obtain⟨X',h2,h3,h4,h5⟩:=h1 F X tm hs;refine⟨X',h2,h3.retell rfl (fun t u hu=> ?_) (fun k cs' hk=>.inl ⟨cs',hk,LeL.refl _⟩) (fun p hp=>by cases hp),h5⟩
   simp only[TS.to,cg,ae] at hu ⊢;split at hu
   ·rename_i e;subst e;cases hu;right;refine⟨hr X' _ (h3.slot t _ ?_) h4,TA.plain_to _ _ hy⟩;simp only[TS.to,cg,hx];rfl
   ·exact .inl ⟨u,hu,.inl (.refl _)⟩
  ·cases h
 ·rename_i i c k o;split at h
  ·rename_i b cs hb hcs hne;have hki:k≠i:=fun e=>by rw[e,aaL] at hne;cases hne
   split at h
   ·rename_i x hx hp;obtain⟨y,hk,hy,hcl⟩:=Nx (bM h);refine⟨_,hk,fun I hi=> ?_⟩;obtain⟨hm,hr⟩:=hcl I;obtain⟨hi',h1⟩:=Nn hi hb hm;have hlk:look (dropHH [i] O.h) k=some (.cs cs):=by rw[lY hki];exact hcs
    refine⟨I,Agr.refl I,j5 hi' hlk rfl,fun F X tm hs=> ?_⟩;obtain⟨X',h2,h3,h4,h5⟩:=h1 F X tm hs;refine⟨X',h2,h3.retell rfl (fun t u hu=>.inl ⟨u,hu,.inl (.refl _)⟩) (fun k' cs' hk'=> ?_) (fun p hp=>by cases hp),h5⟩;simp only[TS.to] at hk';rw[dS _ _ rfl,ae] at hk';split at hk'
    ·rename_i e;subst e;cases hk';right;have hbx:=h3.box (I k) (cs.map (TA.to E.toEnc I)) (dz E.toEnc hi' hlk rfl);have hnm:fU (cs.map (TA.to E.toEnc I))=false:=fN fun u hu=>by obtain⟨a,_,rfl⟩:=ZW.1 hu;exact TA.to_notMp _ _ _
     have e2:(TB.cs (cs.set o y):TB E.T).to E.toEnc I=(cs.map (TA.to E.toEnc I)).set o (y.to E.toEnc I):=by show(cs.set o y).map _=_;rw[abF]
     rw[e2];refine⟨((hbx.cells hnm).set (by rw[aao,hx];rfl) fun v hv=>hr X' v hv h4).box,?_⟩;rw[<- abF];refine We (ZL.2 fun a ha=> ?_);rcases List.mem_or_eq_of_mem_set ha with h6|h6
     ·exact ZL.1 hp a h6
     ·rw[h6];exact hy
    ·exact .inl ⟨cs',hk',LeL.refl _⟩
   ·cases h
  ·cases h
def Ki:∀ {gs:List Gh} {O:TS E.T} {K:TS E.T->Prop},(SW E gs O).holds K->∃τ,K τ/\GhOk O τ
 | [],O,K,h=>⟨O,h,GhOk.refl O⟩
 |g::r,O,K,h=>by obtain⟨τ,h1,h2⟩:=WL (bM h);obtain⟨υ,h3,h4⟩:=Ki h1;exact⟨υ,h3,h2.trans h4⟩
end
def ip:List Nat->Bool
 | [] =>true
 |a::r=> !jA r a && ip r
def yV:∀ {l:List Nat},ip l=true->l.Nodup
 | [],_=>List.nodup_nil
 |a::r,h=>by simp only[ip,Bool.and_eq_true,Bool.not_eq_true'] at h;exact abG.2 ⟨fun hm=>(by rw[eb.2 hm] at h;cases h.1),yV h.2⟩
def jS:List (Nat × Nat)->Nat->Option Nat
 | [],_=>none
 | (a,b)::r,i=>match Nat.beq i a with
   |true=>some b
   |false=>jS r i
def wn(nm:List (Nat × Nat)):List (Nat × Nat):=nm.map fun p=>(p.2,p.1)
def sd(nm:List (Nat × Nat))(i:Nat):Nat:=(jS nm i).getD i
def inK(nm:List (Nat × Nat))(i:Nat):Bool:=(jS nm i).isSome
theorem kf:∀ {nm:List (Nat × Nat)} {i j:Nat},jS nm i=some j->(i,j)∈nm
 | [],_,_,h=>by cases h
 | (a,b)::r,i,j,h=>by
   simp only[jS] at h;cases e:Nat.beq i a with
   |true=>rw[e] at h;cases h;rw[ZK e];exact ZP
   |false=>rw[e] at h;exact ZM _ (kf h)
theorem jw:∀ {nm:List (Nat × Nat)} {i j:Nat},ip (nm.map (·.2))=true->(i,j)∈nm->jS (wn nm) j=some i
 | [],_,_,_,h=>by cases h
 | (a,b)::r,i,j,hn,h=>by
   simp only[List.map_cons,ip,Bool.and_eq_true,Bool.not_eq_true'] at hn;simp only[wn,List.map_cons,jS];rcases ZY.1 h with h2|h2
   ·cases h2;rw[aaL]
   ·have hne:Nat.beq j b=false:=by
     cases e:Nat.beq j b with
     |false=>rfl
     |true=>have:=ZK e;subst this;have:jA (r.map (·.2)) j=true:=eb.2 (ZW.2 ⟨(i,j),h2,rfl⟩);rw[this] at hn;cases hn.1
    rw[hne];exact jw hn.2 h2
def Zc{T:Nat->Type}(h:List (Nat × TB T))(i:Nat):Bool:=(look h i).isSome
def yr{T:Nat->Type}(h:List (Nat × TB T)):List (Nat × Nat)->List (Nat × Nat)
 | [] =>[]
 |p::r=>match Zc h p.1 with
  |true=>p::yr h r
  |false=>yr h r
def FG(nm:List (Nat × Nat))(j:Nat):Nat:=(jS (wn nm) j).getD j
def okP(nm:List (Nat × Nat))(i:Nat):Bool:=inK nm i || !jA (nm.map (·.2)) i
def okN(nm:List (Nat × Nat)):Bool:=ip (nm.map (·.2)) && nm.all fun p=> !big p.2
def FQ(I:Rn)(nm:List (Nat × Nat)):Rn:=⟨fun j=>match jS (wn nm) j with|some i=>I.k i|none=>I.k j⟩
theorem wj{nm:List (Nat × Nat)}{i:Nat}(h:jA (nm.map (·.2)) i=false):jS (wn nm) i=none:=by
 cases e:jS (wn nm) i with
 |none=>rfl
 |some j=>have:=kf e;obtain⟨p,hp,hq⟩:=ZW.1 this;cases hq;rw[eb.2 (ZW.2 ⟨p,hp,rfl⟩)] at h;cases h
def mU{I:Rn}{nm:List (Nat × Nat)}(h:okN nm=true):∀i,okP nm i=true->(FQ I nm).k (sd nm i)=I.k i:=fun i hi=>by
 unfold okN at h;rw[ZT] at h;unfold FQ sd;cases e:jS nm i with
 |some b=>simp only[Option.getD_some,jw h.1 (kf e)]
 |none=>unfold okP inK at hi;rw[e] at hi;simp only[Option.isSome_none,Bool.false_or,Bool.not_eq_true'] at hi;simp only[Option.getD_none,wj hi]
def GB{nm:List (Nat × Nat)}(h:okN nm=true):∀i j,okP nm i=true->okP nm j=true->sd nm i=sd nm j->i=j:=fun i j hi hj e=>by have h1:=mU (I:=⟨fun k=>⟨k,false,[]⟩⟩) h i hi;have h2:=mU (I:=⟨fun k=>⟨k,false,[]⟩⟩) h j hj;rw[e,h2] at h1;exact(aas Bk.b h1).symm
def EG{I:Rn}{nm:List (Nat × Nat)}(h:okN nm=true):Agr I (FQ I nm):=fun i hi=>by
 unfold okN at h;rw[ZT] at h;unfold FQ;simp only;rw[wj];cases hm:jA (nm.map (·.2)) i with
 |false=>rfl
 |true=>obtain⟨p,hp,e⟩:=ZW.1 (eb.1 hm);have:=ZL.1 h.2 p hp;rw[e,hi] at this;cases this
def TS.ren{T:Nat->Type}(m:Nat->Nat)(O:TS T):TS T:={ n:=O.n,t:=O.t.map fun p=>(p.1,p.2.ren m),h:=px m O.h,e:=[] }
def Vs{T:Nat->Type}(nm:List (Nat × Nat))(O:TS T):TS T:=match nm with
 | [] =>O
 |_=>match okN nm && (O.t.all fun q=>q.2.ids (okP nm)) && sO (okP nm) O.h with
  |true=>O.ren (sd nm)
  |false=>O
def va(E:Enc)(O σ':TS E.T):Prop:=∀I,Inj I O.h->∃ρ',Agr I ρ'/\Inj ρ' σ'.h/\oF (O.to E I) (σ'.to E ρ')
def va.of{E:Enc}{O σ':TS E.T}(h:zb E O σ'):va E O σ':=fun I hi=>⟨I,Agr.refl I,h I hi⟩
def va.trans{E:Enc}{O σ1 σ2:TS E.T}(h:va E O σ1)(k:va E σ1 σ2):va E O σ2:=fun I hi=>by obtain⟨ρ1,a1,i1,s1⟩:=h I hi;obtain⟨ρ2,a2,i2,s2⟩:=k ρ1 i1;exact⟨ρ2,a1.trans a2,i2,s1.trans s2⟩
def PQ{E:Env}(nm:List (Nat × Nat))(O:TS E.T):va E.toEnc O (Vs nm O):=by
 unfold Vs;split
 ·exact va.of (zb.refl O)
 ·split
  ·rename_i hc
   simp only[Bool.and_eq_true] at hc;obtain⟨⟨h1,h2⟩,h3⟩:=hc;intro I hi;refine⟨FQ I nm,EG h1,u4 (mU h1) (GB h1) h3 hi,fun F X tm hs=> ?_⟩;have et:tTo E.toEnc (FQ I nm) (O.t.map fun p=>(p.1,p.2.ren (sd nm)))=tTo E.toEnc I O.t:=by unfold tTo;rw[aaY];exact aai fun p hp=>by simp only[Function.comp];rw[TV.ren_to (mU h1) (ZL.1 h2 p hp)]
   have eh:hTo E.toEnc (FQ I nm) (px (sd nm) O.h)=hTo E.toEnc I O.h:=ut (mU h1) h3;refine hs.le3 rfl (fun t u hu=>⟨u,?_,.inl (.refl _)⟩) (fun k cs hk=>⟨cs,?_,LeL.refl _⟩) (fun p hp=>by cases hp)
   ·simp only[TS.to,TS.ren,et] at hu;exact hu
   ·simp only[TS.to,TS.ren,eh] at hk;exact hk
  ·exact va.of (zb.refl O)
def K6{T:Nat->Type}(nm:List (Nat × Nat))(u:TV T)(h:List (Nat × TB T)):TV T × List (Nat × TB T):=match nm with
 | [] =>(u,h)
 |_=>match okN nm && u.ids (okP nm) && sO (okP nm) h with
  |true=>(u.ren (sd nm),px (sd nm) h)
  |false=>(u,h)
def S6{E:Env}(nm:List (Nat × Nat)){u:TV E.T}{h:List (Nat × TB E.T)}{I:Rn}(hi:Inj I h):∃ρ',Agr I ρ'/\Inj ρ' (K6 nm u h).2/\(K6 nm u h).1.to E.toEnc ρ'=u.to E.toEnc I/\hTo E.toEnc ρ' (K6 nm u h).2=hTo E.toEnc I h:=by
 unfold K6;split
 ·exact⟨I,Agr.refl I,hi,rfl,rfl⟩
 ·split
  ·rename_i hc;simp only[Bool.and_eq_true] at hc;obtain⟨⟨h1,h2⟩,h3⟩:=hc;exact⟨FQ I nm,EG h1,u4 (mU h1) (GB h1) h3 hi,TV.ren_to (mU h1) h2,ut (mU h1) h3⟩
  ·exact⟨I,Agr.refl I,hi,rfl,rfl⟩
inductive It2 where
 |c (c:Code)
 |b (id:Nat)
 |l (c:Code)
 |r (id:Nat) (ops:Array Oper) (draw:Bool)
 |k (c:Code)
inductive RL (T:Nat->Type) where
 |ret (u:TV T) (h:List (Nat × TB T))
 |pan (v:Value)
inductive Lf (T:Nat->Type) where
 |go (ks:List It2) (O:TS T)
 |done (r:RL T)
def UQ:List Nat->Nat->Bool
 | [],_=>false
 |k::r,i=>match Nat.beq i k with|true=>true|false=>UQ r i
structure Kp where
 t:List (Nat × Bool)
 p:List (Nat × Nat)
 h:List (Nat × (Option Nat × List Nat))
 m:List (Nat × Nat)
structure Lvs where
 r:List (Nat × Kp)
 l:List (Nat × Kp)
 cut:List Nat
 p:List (Nat × Nat)
 own:Bool
 ph:List (Nat × (Option Nat × List Nat))
 kb:List Nat
 g:List (Nat × List Gh)
 m:List (Nat × Nat)
def J4(E:Env)(i:Nat)(u:TV E.T):TV E.T:=
 match u with
 |.ag l=>match E.pk i l with
  |some (z,[])=>.ag (E.unp i z)
  |_=>u
 |u=>u
def JN(E:Env)(ps:List (Nat × Nat)):List (Nat × TV E.T)->List (Nat × TV E.T)
 | [] =>[]
 | (k,u)::r=>(k,match look ps k with|some i=>J4 E i u|none=>u)::JN E ps r
def NB{T:Nat->Type}:TA T->TA T
 |.tt=>.d .bool true
 |.ff=>.d .bool false
 |x=>x
def Jp{T:Nat->Type}(ws:List Nat):Nat->List (TA T)->List (TA T)
 |_,[] =>[]
 |i,x::r=>(match UQ ws i with|true=>NB x.rd|false=>NB x)::Jp ws (i+1) r
def zS(E:Env)(m:Option Nat × List Nat)(b:TB E.T):TB E.T:=
 match b with
 |.cs l=>match m with
  | (some i,_)=>match E.pk i l with
    |some (z,[])=>.cs (E.unp i z)
    |_=>b
  | (none,ws)=>.cs (Jp ws 0 l)
 |b=>b
def AH(E:Env)(ms:List (Nat × (Option Nat × List Nat))):List (Nat × TB E.T)->List (Nat × TB E.T)
 | [] =>[]
 | (k,b)::r=>(k,match look ms k with|some m=>zS E m b|none=>b)::AH E ms r
def qs:Code->Nat
 |.region id _ _=>id
 |.seq a _=>qs a
 |.cond _ a _=>qs a
 |.block _ c=>qs c
 |.loop c=>qs c
 |_=>0
def EL:Code->Nat
 |.seq a _=>EL a
 |.cond _ a _=>EL a
 |.block _ c=>EL c
 |.loop c=>EL c+1
 |_=>0
def rH(c:Code):Nat:=qs c+1000 * EL c
def TS.pack(E:Env)(O:TS E.T)(k:Kp):TS E.T:={ n:=O.n,t:=JN E k.p O.t,h:=AH E k.h O.h,e:=O.e }
def o3(E:Env)(lv:List (Nat × Kp))(id:Nat)(O:TS E.T):TS E.T:=
 match look lv id with
 |some k=>(Vs (yr O.h k.m) (O.canon k.t (k.h.map fun p=>FG (yr O.h k.m) p.1))).pack E k
 |none=>O
def Yq(g:List (Nat × List Gh))(id:Nat):List Gh:=match look g id with
 |some l=>l
 |none=>[]
def tv(id:Nat):List It2->Option (List It2)
 | [] =>none
 |.c _::ks=>tv id ks
 |.l _::ks=>tv id ks
 |.b j::ks=>match Nat.beq id j with
  |true=>some ks
  |false=>tv id ks
 |_::_=>none
def Wp{T:Nat->Type}:TV T->Option (TC T)
 |.a x=>match nrm (.a x.rd) with
  |.a y=>some (.a y)
  |_=>none
 |.ag l=>some (.ag l)
 |_=>none
def EY{P:Program}{T:Nat->Type}(Y:Tys P)(O:TS T):ResultVar->Option (TC T)
 |.tmp s=>match look O.t s with
  |some u=>Wp u
  |none=>none
 |.cell s ty=>match look O.t s with
  |some (.a (.box k 0))=>match look O.h k,look Y.ty ty with
   |some (.cs cs),some (.struct _)=>match look Y.sz ty with
    |some (n,_)=>match Nat.beq n cs.length with
     |true=>some (.ag (cs.map TA.rd))
     |false=>none
    |none=>none
   |some (.cs [c]),some d=>match kH d with
    |true=>some (.a (NB c.rd))
    |false=>none
   |_,_=>none
  |_=>none
def YP{T:Nat->Type}:TC T->TV T
 |.a x=>.a x
 |.ag l=>.ag l
def V6{P:Program}{T:Nat->Type}(Y:Tys P)(own:Bool)(rs:List ResultVar)(O:TS T):Option (TV T):=
 match rs with
 | [.tmp t] =>match look O.t t with
   |some u=>some (wz (!own) u)
   |none=>none
 | [r] =>match EY Y O r with
   |some x=>some (YP x)
   |none=>none
 | [r,r'] =>match EY Y O r,EY Y O r' with
   |some x,some x'=>some (.tu [x,x'])
   |_,_=>none
 | [r,r',r''] =>match EY Y O r,EY Y O r',EY Y O r'' with
   |some x,some x',some x''=>some (.tu [x,x',x''])
   |_,_,_=>none
 | [] =>some (.tu [])
 |_=>none
section
variable {P:Program} (Y:Tys P) (E:Env) (G:Gam E) (lv:Lvs) (rs:List ResultVar)
def R4(O:TS E.T):Tree (Lf E.T):=match V6 Y lv.own rs (O.pack E ⟨[],lv.p,lv.ph,[]⟩) with
 |some u=>.leaf (.done (.ret (K6 (yr O.h lv.m) u (dv (O.pack E ⟨[],lv.p,lv.ph,[]⟩).h (lv.kb.map (FG (yr O.h lv.m))))).1 (K6 (yr O.h lv.m) u (dv (O.pack E ⟨[],lv.p,lv.ph,[]⟩).h (lv.kb.map (FG (yr O.h lv.m))))).2))
 |none=>.fail
def stp:List It2->TS E.T->Tree (Lf E.T)
 | [],O=>R4 Y E lv rs O
 |.b _::ks,O=>.leaf (.go ks O)
 |.l c::ks,O=>.leaf (.go (.k c::ks) (o3 E lv.l (rH c) O))
 |.k c::ks,O=>.leaf (.go (.c c::.l c::ks) O)
 |.r _ ops draw::ks,O=>(evR Y E G ops.toList draw O).bind fun
  |.st σ'=>.leaf (.go ks σ')
  |.pan v=>.leaf (.done (.pan v))
 |.c c::ks,O=>match c with
  |.skip=>.leaf (.go ks O)
  |.label _=>.leaf (.go ks O)
  |.seq a b=>.leaf (.go (.c a::.c b::ks) O)
  |.block id c=>.leaf (.go (.c c::.b id::ks) O)
  |.loop c=>.leaf (.go (.l c::ks) O)
  |.cond (.tmp t) a b=>match look O.t t with
   |some (.a .tt)=>.leaf (.go (.c a::ks) O)
   |some (.a .ff)=>.leaf (.go (.c b::ks) O)
   |some (.a (.d .bool v))=>.cond v (.leaf (.go (.c a::ks) (O.know t .tt))) (.leaf (.go (.c b::ks) (O.know t .ff)))
   |_=>.fail
  |.exit id=>match tv id ks with
   |some ks'=>.leaf (.go ks' O)
   |none=>.fail
  |.ret=>R4 Y E lv rs O
  |.region id ops draw=>(SW E (Yq lv.g id) (o3 E lv.r id O)).bind fun τ=>.leaf (.go (.r id ops draw::ks) τ)
  |_=>.fail
def YM:List Nat->Nat->Bool
 | [],_=>false
 |k::r,i=>match Nat.beq i k with|true=>true|false=>YM r i
def WI(cut:List Nat):List It2->Bool
 |.k _::_=>true
 |.r id _ _::_=>YM cut id
 |_=>false
def evM:Nat->Bool->List It2->TS E.T->Tree (Lf E.T)
 |0,_,ks,O=>.leaf (.go ks O)
 |m+1,fst,ks,O=>match fst,WI lv.cut ks with
  |false,true=>.leaf (.go ks O)
  |_,_=>(stp Y E G lv rs ks O).bind fun
   |.go ks' σ'=>evM m false ks' σ'
   |.done r=>.leaf (.done r)
def Gw{T:Nat->Type}(F:List It2->TS T->Prop)(K:RL T->Prop):Lf T->Prop
 |.go ks O=>F ks O
 |.done r=>K r
def Fin(K:RL E.T->Prop):Nat->List It2->TS E.T->Prop
 |0,_,_=>False
 |n+1,ks,O=>(stp Y E G lv rs ks O).holds (Gw (Fin K n) K)
def fL(K:RL E.T->Prop)(ks:List It2)(O:TS E.T):Prop:=∃n,Fin Y E G lv rs K n ks O
def WT(K:RL E.T->Prop):Lf E.T->Prop
 |.go ks O=>fL Y E G lv rs K ks O
 |.done r=>K r
end
section
variable {P:Program} {Y:Tys P} {E:Env} {G:Gam E} {lv:Lvs} {rs:List ResultVar} {K:RL E.T->Prop}
def jP{L:Type}{R:Nat->L->Prop}(hR:∀n m x,n<=m->R n x->R m x):∀ {t:Tree L},t.holds (fun x=>∃n,R n x)->∃n,t.holds (R n)
 |.leaf x,h=>h
 |.cond true s t,h=>by obtain⟨n,h⟩:=jP hR (h.1 rfl);exact⟨n,fun _=>h,fun e=>by cases e⟩
 |.cond false s t,h=>by obtain⟨n,h⟩:=jP hR (h.2 rfl);exact⟨n,(fun e=>by cases e),fun _=>h⟩
 |.bnd o k,⟨z,h1,h2⟩=>by obtain⟨n,h⟩:=jP hR h2;exact⟨n,z,h1,h⟩
 |.sm (.ok z) k p,h=>by obtain⟨n,h⟩:=jP hR (h.1 z rfl);exact⟨n,(fun z' e=>by cases e;exact h),fun v e=>by cases e⟩
 |.sm (.pan v) k p,h=>by obtain⟨n,h⟩:=jP hR (h.2 v rfl);exact⟨n,(fun z' e=>by cases e),fun v' e=>by cases e;exact h⟩
 |.nl [] s t,h=>by obtain⟨n,h1⟩:=jP hR (h.1 rfl);obtain⟨m,h2⟩:=jP hR h.2;exact⟨n+m,fun _=>h1.mono fun x=>hR _ _ x (by omega),h2.mono fun x=>hR _ _ x (by omega)⟩
 |.nl (_::_) s t,h=>by obtain⟨m,h2⟩:=jP hR h.2;exact⟨m,(fun e=>by cases e),h2⟩
 |.fail,h=>h.elim
def Ni:∀ (n:Nat) (ks:List It2) (O:TS E.T),Fin Y E G lv rs K n ks O->Fin Y E G lv rs K (n+1) ks O
 |0,_,_,h=>h.elim
 |n+1,ks,O,h=>Tree.holds.mono (fun x hx=>by
  cases x with
  |go ks' σ'=>exact Ni n ks' σ' hx
  |done r=>exact hx) h
def Q9{n m:Nat}(h:n<=m){ks:List It2}{O:TS E.T}(hf:Fin Y E G lv rs K n ks O):Fin Y E G lv rs K m ks O:=by
 induction h with
 |refl=>exact hf
 |step _ ih=>exact Ni _ _ _ ih
def K8{ks:List It2}{O:TS E.T}(h:(stp Y E G lv rs ks O).holds (WT Y E G lv rs K)):fL Y E G lv rs K ks O:=by
 have h':(stp Y E G lv rs ks O).holds (fun x=>∃n,Gw (Fin Y E G lv rs K n) K x):=h.mono fun x hx=>by
  cases x with
  |go ks' σ'=>exact hx
  |done r=>exact⟨0,hx⟩
 obtain⟨n,hn⟩:=jP (R:=fun n x=>Gw (Fin Y E G lv rs K n) K x) (fun n m x hnm hx=>by
  cases x with
  |go ks' σ'=>exact Q9 hnm hx
  |done r=>exact hx) h'
 exact⟨n+1,hn⟩
def Qx:∀ (m:Nat) (fst:Bool) (ks:List It2) (O:TS E.T),(evM Y E G lv rs m fst ks O).holds (WT Y E G lv rs K)->fL Y E G lv rs K ks O
 |0,_,ks,O,h=>h
 |m+1,fst,ks,O,h=>by
  simp only[evM] at h;split at h
  ·exact h
  ·refine K8 ((bM h).mono fun x hx=> ?_);cases x with
   |go ks' σ'=>exact Qx m false ks' σ' hx
   |done r=>exact hx
def QX(P:Program)(fn:Func)(post:AOut->List (Nat × List AV)->Prop):Exit->AS->Prop
 |.ret,O|.normal,O=>∀ (F:Nat->Prop) (X:GW) (tm:Array Value),SimE F X O tm->∃v u H',(results fn tm).run P X.w=.ok v X.w/\post (.ret u) H'/\SimE F X ⟨1,[(0,u)],H',[]⟩ #[v]
 |.panic chain,O=>∃v,chain=[⟨v,false,false⟩] /\post (.pan v) O.h
 |_,_=>False
def C6{P:Program}{fn:Func}{f:FuncId}{c:Code}{us:List AV}{H:List (Nat × List AV)}{post:AOut->List (Nat × List AV)->Prop}(hf:P.funcs[f]? =some fn)(hn:(fn.name== "runtime.NumGoroutine")=false)(hb:fn.body=some c)(hus:Nat.ble us.length fn.ntmps=true)
  (h:br P (QX P fn post) [.c c] ⟨fn.ntmps,slotsOf 0 us,H,[]⟩):aI P f us H post:=by
 refine⟨⟨fn,hf,hn,by rw[hb];rfl⟩,fun F X vs hs=>calls_of_wp hf hb ?_⟩;have hle:=ZS hus;have h2:=h F X { tmps:=vs++Array.replicate (fn.ntmps - vs.size) undef,defers:=[] } (hs.enter hle) [] rfl;refine wp_mono h2 fun e a' w' hp=> ?_;obtain⟨p1,X',σ',p2,p3,p4,p5⟩:=hp;subst p2
 have fin:QX P fn post .ret σ'->a'.defers=[] /\∃v,(results fn a'.tmps).run P X'.w=.ok v X'.w/\(∃ (X'':GW) (out:AOut) (H':List (Nat × List AV)),X''.w=X'.w/\post out H'/\pO F X'' (.returned v) out H'/\Ext F X X''):=by intro hq;obtain⟨v,u,H2,k1,k2,k3⟩:=hq F X' a'.tmps p4;exact⟨p1,v,k1,X',.ret u,H2,rfl,k2,⟨v,rfl,k3⟩,p5⟩
 cases e with
 |normal=>exact fin p3
 |ret=>exact fin p3
 |panic chain=>obtain⟨v,rfl,p3⟩:=p3;exact⟨p1,X',.pan v,σ'.h,rfl,p3,⟨rfl,p4.panEnd⟩,p5⟩
 |exit id=>exact p3.elim
 |goto l=>exact p3.elim
 |outgrown=>exact p3.elim
def cH(E:Env)(ρ0:Rn)(K:RL E.T->Prop):AOut->List (Nat × List AV)->Prop:=fun out H=>∃r I,K r/\Agr ρ0 I/\match r with
 |.ret u h=>out=.ret (u.to E.toEnc I)/\H=hTo E.toEnc I h/\Inj I h
 |.pan v=>out=.pan v/\H=[]
def tr(Y:Tys P)(E:Env)(G:Gam E)(lv:Lvs)(rs:List ResultVar)(K:RL E.T->Prop)(ρ0:Rn)(n:Nat):List It2->List It
 | [] =>[]
 |.c c::ks=>.c c::tr Y E G lv rs K ρ0 n ks
 |.b id::ks=>.b id::tr Y E G lv rs K ρ0 n ks
 |.l c::ks=>.l (fun σ'=>∃m τ I,m < n/\(Agr ρ0 I/\Inj I τ.h)/\oF σ' (τ.to E.toEnc I)/\Fin Y E G lv rs K m (.k c::ks) τ)::tr Y E G lv rs K ρ0 n ks
 |.r id ops draw::ks=>.c (.region id ops draw)::tr Y E G lv rs K ρ0 n ks
 |.k c::ks=>.c (.loop c)::tr Y E G lv rs K ρ0 n ks
inductive ItLe:List It->List It->Prop
 |nil:ItLe [] []
 |same (i:It) {ks ks':List It}:ItLe ks ks'->ItLe (i::ks) (i::ks')
 |l {ZB J:AS->Prop} {ks ks':List It}:(∀O,ZB O->J O)->ItLe ks ks'->ItLe (.l ZB::ks) (.l J::ks')
def wq{ρ0:Rn}{n m:Nat}(h:m<=n):∀ks,ItLe (tr Y E G lv rs K ρ0 m ks) (tr Y E G lv rs K ρ0 n ks)
 | [] =>.nil
 |.c c::ks=>.same _ (wq h ks)
 |.b id::ks=>.same _ (wq h ks)
 |.l c::ks=>.l (fun O ⟨q,τ,I,h1,h2⟩=>⟨q,τ,I,aaj h1 h,h2⟩) (wq h ks)
 |.r id ops draw::ks=>.same _ (wq h ks)
 |.k c::ks=>.same _ (wq h ks)
def Xb{Q:Exit->AS->Prop}:∀ {ks ks':List It},ItLe ks ks'->∀e O,Stk P Q ks e O->Stk P Q ks' e O:=by
 intro ks ks' h
 induction h with
 |nil=>exact fun _ _ h=>h
 |same i h ih=>
  intro e O hs;cases i with
  |c c=>
   cases e with
   |normal=>exact Awp.mono hs (fun e O=>ih e O)
   |_=>exact ih _ _ hs
  |b id=>
   cases e with
   |exit id'=>
    simp only[Stk] at hs ⊢;split
    ·rename_i e;rw[ZI e] at hs;exact ih _ _ hs
    ·rename_i e;rw[ZH e] at hs;exact ih _ _ hs
   |_=>exact ih _ _ hs
  |l ZB=>
   cases e with
   |normal=>exact hs
   |_=>exact ih _ _ hs
  |o l k r=>
   cases e with
   |normal=>exact fun F X a hsim D hd=>ij (fun e a w hp=>hp.mono fun e O=>ih e O) _ _ _ (hs F X a hsim D hd)
   |_=>exact ih _ _ hs
 |l hIJ h ih=>
  intro e O hs;cases e with
  |normal=>exact hIJ O hs
  |_=>exact ih _ _ hs
def Im{Q:Exit->AS->Prop}{ks ks':List It}{O:AS}(h:ItLe ks ks')(hr:br P Q ks O):br P Q ks' O:=Xb h _ _ hr
def rG{Q:Exit->AS->Prop}{ρ0:Rn}{n:Nat}:∀ (ks:List It2) {O:AS},Q .ret O->Stk P Q (tr Y E G lv rs K ρ0 n ks) .ret O
 | [],O,h=>h
 |.c c::ks,O,h=>rG ks h
 |.b id::ks,O,h=>rG ks h
 |.l c::ks,O,h=>rG ks h
 |.r id ops draw::ks,O,h=>rG ks h
 |.k c::ks,O,h=>rG ks h
def rB{Q:Exit->AS->Prop}{ρ0:Rn}{n:Nat}{v:Value}:∀ (ks:List It2),(∀n,Q (.panic [⟨v,false,false⟩]) ⟨n,[],[],[]⟩)->HB P Q (tr Y E G lv rs K ρ0 n ks) v
 | [],h=>h
 |.c c::ks,h=>rB ks h
 |.b id::ks,h=>rB ks h
 |.l c::ks,h=>rB ks h
 |.r id ops draw::ks,h=>rB ks h
 |.k c::ks,h=>rB ks h
def tT{Q:Exit->AS->Prop}{ρ0:Rn}{n id:Nat}:∀ (ks:List It2) {ks':List It2} {O:AS},tv id ks=some ks'->br P Q (tr Y E G lv rs K ρ0 n ks') O->Stk P Q (tr Y E G lv rs K ρ0 n ks) (.exit id) O
 | [],_,_,h,_=>by cases h
 |.c c::ks,_,_,h,hr=>tT ks h hr
 |.l c::ks,_,_,h,hr=>tT ks h hr
 |.b j::ks,ks',O,h,hr=>by
  simp only[tv] at h;simp only[tr,Stk];split at h
  ·rename_i e;cases h;rw[ZI (jL e)];exact hr
  ·rename_i e;rw[ZH (fun e2=>by subst e2;rw[aaL] at e;cases e)];exact tT ks h hr
 |.r _ _ _::_,_,_,h,_=>by cases h
 |.k _::_,_,_,h,_=>by cases h
theorem UK{I:Rn}{u:TV E.T}{x:TC E.T}(h:Wp u=some x):x.to E.toEnc I=(u.to E.toEnc I).rd:=by
 unfold Wp at h;split at h
 ·rename_i a;split at h
  ·rename_i y hy;cases h;have:=o6 E.toEnc I (.a a.rd:TV E.T);rw[hy] at this;exact this.trans (TA.rd_to _ _ _)
  ·cases h
 ·cases h;rfl
 ·cases h
def FV(i:Nat)(u:TV E.T)(I:Rn):LeV (u.to E.toEnc I) ((J4 E i u).to E.toEnc I):=by
 unfold J4;split
 ·split
  ·rename_i l _ z hz;have h:=E.pk_to i _ z [] I hz;simp only[List.map_nil,List.append_nil] at h;refine .inr ⟨fun X v hv=> ?_,rfl⟩;have e:(TV.ag (E.unp i z):TV E.T).to E.toEnc I=.ag (E.enc i z):=by show AV.ag ((E.unp i z).map _)=_;rw[E.unp_to]
   rw[e];exact A0 hv ((ju (I:=I) l).trans h)
  ·exact .inl (.refl _)
 ·exact .inl (.refl _)
def yH(ps:List (Nat × Nat))(I:Rn):∀ (t:List (Nat × TV E.T)) (k:Nat) (u':AV),look (tTo E.toEnc I (JN E ps t)) k=some u'->∃u,look (tTo E.toEnc I t) k=some u/\LeV u u'
 | [],k,u',h=>by cases h
 | (j,u)::r,k,u',h=>by
   simp only[JN,tTo,List.map_cons,ae] at h ⊢;split at h
   ·rename_i e;rw[ZI e];cases h;refine⟨_,rfl,?_⟩;split
    ·exact FV _ u I
    ·exact .inl (.refl _)
   ·rename_i e;rw[ZH e];exact yH ps I r k u' h
def Ey(ws:List Nat)(I:Rn):∀ (i:Nat) (l:List (TA E.T)),LeL (l.map (TA.to E.toEnc I)) ((Jp ws i l).map (TA.to E.toEnc I))
 |_,[] =>.nil
 |i,x::r=>by
  have hn:∀y:TA E.T,(NB y).to E.toEnc I=y.to E.toEnc I:=fun y=>by cases y<;> rfl
  simp only[Jp,List.map_cons];refine .cons ?_ (Ey ws I (i+1) r);split
  ·rw[hn,TA.rd_to];exact qO _
  ·rw[hn];exact .refl _
def NC(m:Option Nat × List Nat)(b:TB E.T)(I:Rn):LeL (b.to E.toEnc I) ((zS E m b).to E.toEnc I):=by
 unfold zS;split
 ·rename_i l;split
  ·rename_i i ws;split
   ·rename_i z hz;have h:=E.pk_to i _ z [] I hz;simp only[List.map_nil,List.append_nil] at h;show LeL (l.map _) ((E.unp i z).map _);rw[E.unp_to];exact(ju (I:=I) l).trans h
   ·exact LeL.refl _
  ·exact Ey _ I 0 l
 ·exact LeL.refl _
def ww(m:Option Nat × List Nat)(b:TB E.T):uM b (zS E m b):=by
 unfold zS;split
 ·split
  ·split
   ·exact fun _=>rfl
   ·exact .refl _
  ·exact fun _=>rfl
 ·exact .refl _
def Bi(ms:List (Nat × (Option Nat × List Nat))):∀ (h:List (Nat × TB E.T)),∀p∈AH E ms h,∃q∈h,q.1=p.1/\uM q.2 p.2
 | [],p,hp=>by cases hp
 | (j,b)::r,p,hp=>by
   rcases ZY.1 hp with rfl|hp
   ·refine⟨_,ZP,rfl,?_⟩;simp only;split
    ·exact ww _ b
    ·exact .refl _
   ·obtain⟨q,h1,h2,h3⟩:=Bi ms r p hp;exact⟨q,ZM _ h1,h2,h3⟩
def tD(ms:List (Nat × (Option Nat × List Nat)))(I:Rn):∀ (h:List (Nat × TB E.T)) (k:Nat) (cs':List AV),look (hTo E.toEnc I (AH E ms h)) k=some cs'->∃cs,look (hTo E.toEnc I h) k=some cs/\LeL cs cs'
 | [],k,u',h=>by cases h
 | (j,b)::r,k,cs',h=>by
   have key:∀b':TB E.T,uM b b'->LeL (b.to E.toEnc I) (b'.to E.toEnc I)->look (hTo E.toEnc I ((j,b')::AH E ms r)) k=some cs'->∃cs,look (hTo E.toEnc I ((j,b)::r)) k=some cs/\LeL cs cs':=fun b' hsm hle h=>by
    cases hl:bi I b with
    |false=>rw[fo _ _ (by rw[<- hsm I];exact hl)] at h;rw[fo _ _ hl];exact tD ms I r k cs' h
    |true=>
     rw[dS _ _ (by rw[<- hsm I];exact hl),ae] at h;rw[dS _ _ hl,ae];split at h
     ·rename_i e;rw[ZI e];cases h;exact⟨_,rfl,hle⟩
     ·rename_i e;rw[ZH e];exact tD ms I r k cs' h
   simp only[AH] at h;split at h
   ·exact key _ (ww _ b) (NC _ b I) h
   ·exact key _ (.refl _) (LeL.refl _) h
def EF(O:TS E.T)(k:Kp):zb E.toEnc O (O.pack E k):=fun I hi=>by refine⟨hi.sub fun p hp=>let ⟨q,h1,h2,h3⟩:=Bi k.h O.h p hp;⟨q,h1,h2,h3 I⟩,fun F X tm hs=> ?_⟩;exact hs.le3 rfl (fun t u' hu=>yH k.p I O.t t u' hu) (fun q cs' hq=>tD k.h I O.h q cs' hq) (fun p hp=>hp)
theorem Tg(y:TA E.T)(I:Rn):(NB y).to E.toEnc I=y.to E.toEnc I:=by cases y<;> rfl
def TX(x:TC E.T)(I:Rn):(YP x).to E.toEnc I=x.to E.toEnc I:=by cases x<;> rfl
theorem rn{I:Rn}{O:TS E.T}(hi:Inj I O.h){r:ResultVar}{x:TC E.T}(h:EY Y O r=some x):mA Y (tTo E.toEnc I O.t) (hTo E.toEnc I O.h) r=some (x.to E.toEnc I):=by
 unfold EY at h;split at h
 ·split at h
  ·rename_i u hu;simp only[mA,cg,hu,Option.map_some,UK h]
  ·cases h
 ·split at h
  ·rename_i s ty _ k hs;have hs':look (tTo E.toEnc I O.t) s=some (.v (.pointer (some ⟨I k,0,none⟩))):=by simp only[cg,hs,Option.map_some];rfl
   split at h
   ·rename_i cs fs hh hy;have hh':look (hTo E.toEnc I O.h) (I k)=some (cs.map (TA.to E.toEnc I)):=dz E.toEnc hi hh rfl;split at h
    ·rename_i n b hz;split at h
     ·rename_i hn;cases h;rw[Da hs' hh' hy hz (by simpa using hn) (s0 cs)];simp only[TC.to,List.map_map];exact aas (fun l=>some (AV.ag l)) (aai fun y _=>(TA.rd_to _ _ y).symm)
     ·cases h
    ·cases h
   ·rename_i c d hno hh hy;have hh':look (hTo E.toEnc I O.h) (I k)=some [c.to E.toEnc I] :=dz E.toEnc hi hh rfl;split at h
    ·rename_i h1;cases h;rw[Li hs' hh' hy h1 (TA.to_notMp _ _ c)];simp only[TC.to,Tg,TA.rd_to]
    ·cases h
   ·cases h
  ·cases h
def N5{own:Bool}{fn:Func}{I:Rn}{O:TS E.T}{u:TV E.T}(hrs:fn.results.toList=rs)(hi:Inj I O.h)(h:V6 Y own rs O=some u)(F:Nat->Prop)(X:GW)(tm:Array Value)(hs:SimE F X (O.to E.toEnc I) tm){H2:List (Nat × List AV)}(hH:∀k cs,look H2 k=some cs->look (O.to E.toEnc I).h k=some cs):∃v,(results fn tm).run P X.w=.ok v X.w/\SimE F X ⟨1,[(0,u.to E.toEnc I)],H2,[]⟩ #[v] :=by
 have cells:BF Y (tTo E.toEnc I O.t) (hTo E.toEnc I O.h) rs=some (u.to E.toEnc I)->∃v,(results fn tm).run P X.w=.ok v X.w/\SimE F X ⟨1,[(0,u.to E.toEnc I)],H2,[]⟩ #[v] :=fun hc=>by obtain⟨k0,v,k1,k2⟩:=Oo (F:=F) (tm:=tm) (fn:=fn) hs.slot hs.box (hrs ▸ hc);exact⟨v,k1,hs.retEnd hH k2 k0⟩
 unfold V6 at h;split at h
 ·rename_i t;split at h
  ·rename_i u0 hu;cases h;have hr:Ie fn.results.toList (O.to E.toEnc I)=some (u0.to E.toEnc I):=by rw[hrs];simp only[Ie,TS.to,cg,hu,Option.map_some]
   obtain⟨v,k1,k2⟩:=Do (P:=P) (fn:=fn) hs hr;refine⟨v,k1,k2.le2 rfl (fun s u' hu'=> ?_) (fun q cs' hq=>⟨cs',hH q cs' hq,LeL.refl _⟩) (fun p hp=>by cases hp)⟩;simp only[ae] at hu';split at hu'
   ·rename_i e;subst e;cases hu';refine⟨_,iM,?_⟩;cases own with
    |true=>simp only[Bool.not_true,wz,o6];exact .refl _
    |false=>simp only[Bool.not_false,wz,o6,TV.rd_to];exact qO _
   ·cases hu'
  ·cases h
 ·split at h
  ·rename_i x hx;cases h;refine cells ?_;rw[TX];exact rn hi hx
  ·cases h
 ·split at h
  ·rename_i x x' hx hx';cases h;exact cells (by simp only[BF,rn hi hx,rn hi hx'];rfl)
  ·cases h
 ·split at h
  ·rename_i x x' x'' hx hx' hx'';cases h;exact cells (by simp only[BF,rn hi hx,rn hi hx',rn hi hx''];rfl)
  ·cases h
 ·cases h;exact cells rfl
 ·cases h
def tn{T:Nat->Type}{h:List (Nat × TB T)}:∀ {ids:List Nat},∀p∈dv h ids,∃q∈h,q.1=p.1/\uM q.2 p.2
 | [],p,hp=>by cases hp
 |k::ks,p,hp=>by
  simp only[dv] at hp;split at hp
  ·rename_i b hb;rcases ZY.1 hp with rfl|hp
   ·exact⟨_,db hb,rfl,.refl _⟩
   ·exact tn p hp
  ·exact tn p hp
def Mw{fn:Func}(hrs:fn.results.toList=rs){ρ0 I:Rn}(ha:Agr ρ0 I){O:TS E.T}(hi:Inj I O.h){e:Exit}(he:e=.ret\/e=.normal){F:List It2->TS E.T->Prop}(h:(R4 Y E lv rs O).holds (Gw F K)):QX P fn (cH E ρ0 K) e (O.to E.toEnc I):=by
 unfold R4 at h;split at h
 ·rename_i u hu;obtain⟨k1,k2⟩:=EF O ⟨[],lv.p,lv.ph,[]⟩ I hi;have:∀ (F:Nat->Prop) (X:GW) (tm:Array Value),SimE F X (O.to E.toEnc I) tm->∃v u H',(results fn tm).run P X.w=.ok v X.w/\cH E ρ0 K (.ret u) H'/\SimE F X ⟨1,[(0,u)],H',[]⟩ #[v] :=fun F X tm hs=>by
   obtain⟨v,k3,k4⟩:=N5 (Y:=Y) hrs k1 hu F X tm (k2 F X tm hs) (H2:=hTo E.toEnc I (dv (O.pack E ⟨[],lv.p,lv.ph,[]⟩).h (lv.kb.map (FG (yr O.h lv.m))))) (nK k1 _)
   obtain⟨ρ',q1,q2,q3,q4⟩:=S6 (E:=E) (yr O.h lv.m) (u:=u) (h:=dv (O.pack E ⟨[],lv.p,lv.ph,[]⟩).h (lv.kb.map (FG (yr O.h lv.m)))) (I:=I) (k1.sub fun p hp=>let ⟨q,h1,h2,h3⟩:=tn p hp;⟨q,h1,h2,h3 I⟩);exact⟨v,_,_,k3,⟨_,ρ',h,ha.trans q1,by rw[q3],q4.symm,q2⟩,k4⟩
  rcases he with rfl|rfl
  ·exact this
  ·exact this
 ·cases h
def pX(lvl:List (Nat × Kp))(id:Nat)(O:TS E.T):va E.toEnc O (o3 E lvl id O):=by
 unfold o3;split
 ·exact((va.of (K1 O _ _)).trans (PQ _ _)).trans (va.of (EF _ _))
 ·exact va.of (zb.refl O)
def R9{fn:Func}{ρ0:Rn}(hrs:fn.results.toList=rs)(hm:P.follows .mixedOrders=true)(hG:GOk P Y E G):∀ (n:Nat) (ks:List It2) (O:TS E.T) (I:Rn),Agr ρ0 I->Inj I O.h->Fin Y E G lv rs K n ks O->br P (QX P fn (cH E ρ0 K)) (tr Y E G lv rs K ρ0 n ks) (O.to E.toEnc I):=by
 intro n
 induction n using Nat.strongRecOn with
 |_ n ih=>
  intro ks O I ha hi h;cases n with
  |zero=>cases h
  |succ n=>
   have up:∀ {ks:List It2} {O:TS E.T} {I:Rn},Agr ρ0 I->Inj I O.h->Fin Y E G lv rs K n ks O->br P (QX P fn (cH E ρ0 K)) (tr Y E G lv rs K ρ0 (n+1) ks) (O.to E.toEnc I):=fun ha hi h=>Im (wq (Nat.le_succ n) _) (ih n (Nat.lt_succ_self n) _ _ _ ha hi h);cases ks with
   |nil=>exact Mw hrs ha (F:=Fin Y E G lv rs K n) hi (.inr rfl) h
   |cons it ks=>
    cases it with
    |b id=>exact Ww (up (ks:=ks) ha hi h)
    |l c=>have h':Fin Y E G lv rs K n (.k c::ks) (o3 E lv.l (rH c) O):=h;obtain⟨ρ',q1,k1,k2⟩:=pX lv.l (rH c) O I hi;exact⟨n,_,ρ',Nat.lt_succ_self n,⟨ha.trans q1,k1⟩,k2,h'⟩
    |k c=>
     refine Pc (fun y:Nat × TS E.T × Rn=>y.2.1.to E.toEnc y.2.2) (fun y=>(Agr ρ0 y.2.2/\Inj y.2.2 y.2.1.h)/\Fin Y E G lv rs K y.1 (.k c::ks) y.2.1/\y.1<=n+1) (fun y=>y.1) (n+1,O,I) (fun _ _ _ h=>h) ⟨⟨ha,hi⟩,h,ZN _⟩ ?_;rintro⟨m,τ,ρ'⟩ ⟨⟨ha',hi'⟩,hf,hle⟩;cases m with
     |zero=>cases hf
     |succ m=>have hf':Fin Y E G lv rs K m (.c c::.l c::ks) τ:=hf;have hr:=ih m (by simp only at hle;omega) _ τ ρ' ha' hi' hf';refine Im (.same _ (.l ?_ (wq (by simp only at hle;omega) ks))) hr;rintro σ' ⟨q,τ',ρ'',h1,h2,h3,h4⟩;exact⟨(q,τ',ρ''),h3,⟨h2,h4,by simp only at hle ⊢;omega⟩,by simp only;omega⟩
    |r id ops draw=>
     refine WM (Y:=Y) hm hG hi ?_;have h':((evR Y E G ops.toList draw O).bind fun
      |.st σ'=>Tree.leaf (Lf.go ks σ')
      |.pan v=>.leaf (.done (.pan v))).holds (Gw (Fin Y E G lv rs K n) K):=h
     refine(bM h').mono fun x hx=> ?_;cases x with
     |st σ'=>exact fun ρ' hi' ha'=>up (ha.trans ha') hi' hx
     |pan v=>exact rB ks fun n=>⟨v,rfl,⟨.pan v,ρ0,hx,Agr.refl ρ0,rfl,rfl⟩⟩
    |c c=>
     cases c with
     |skip=>exact Dp (up (ks:=ks) ha hi h)
     |label q=>exact Ry (up (ks:=ks) ha hi h)
     |seq a b=>exact yU (up (ks:=.c a::.c b::ks) ha hi h)
     |block id c=>exact M0 (up (ks:=.c c::.b id::ks) ha hi h)
     |loop c=>
      have h':Fin Y E G lv rs K n (.l c::ks) O:=h;cases n with
      |zero=>cases h'
      |succ n'=>have h2:Fin Y E G lv rs K n' (.k c::ks) (o3 E lv.l (rH c) O):=h';obtain⟨ρ',q1,k1,k2⟩:=pX lv.l (rH c) O I hi;refine xF k2 ?_;exact Im (wq (by omega) (.k c::ks)) (ih n' (by omega) (.k c::ks) _ ρ' (ha.trans q1) k1 h2)
     |cond x a b=>
      cases x with
      |tmp t=>
       have h':(match look O.t t with
        |some (.a .tt)=>Tree.leaf (Lf.go (.c a::ks) O)
        |some (.a .ff)=>.leaf (.go (.c b::ks) O)
        |some (.a (.d .bool v))=>.cond v (.leaf (.go (.c a::ks) (O.know t .tt))) (.leaf (.go (.c b::ks) (O.know t .ff)))
        |_=>.fail).holds (Gw (Fin Y E G lv rs K n) K):=h
       split at h'
       ·rename_i hl;exact pb (b:=true) (by simp only[TS.to,cg,hl];rfl) rfl (up (ks:=.c a::ks) ha hi h')
       ·rename_i hl;exact kE (b:=false) (by simp only[TS.to,cg,hl];rfl) rfl (up (ks:=.c b::ks) ha hi h')
       ·rename_i v hl;cases hv:v with
        |true=>exact pb (b:=v) (by simp only[TS.to,cg,hl];rfl) hv (xF (nV (x:=.tt) (b:=v) (by rw[hv];rfl) hl) (up (ks:=.c a::ks) (O:=O.know t .tt) ha hi (h'.1 hv)))
        |false=>exact kE (b:=v) (by simp only[TS.to,cg,hl];rfl) hv (xF (nV (x:=.ff) (b:=v) (by rw[hv];rfl) hl) (up (ks:=.c b::ks) (O:=O.know t .ff) ha hi (h'.2 hv)))
       ·cases h'
      |_=>cases h
     |exit id=>
      have h':(match tv id ks with
       |some ks'=>Tree.leaf (Lf.go ks' O)
       |none=>.fail).holds (Gw (Fin Y E G lv rs K n) K):=h
      split at h'
      ·rename_i ks' hks;exact RT (tT ks hks (up ha hi h'))
      ·cases h'
     |ret=>exact V8 (rG ks (Mw hrs ha (F:=Fin Y E G lv rs K n) hi (.inl rfl) h))
     |region id ops draw=>
      obtain⟨ρ1,q0,k1,k2⟩:=pX lv.r id O I hi;refine xF k2 ?_;have h':((SW E (Yq lv.g id) (o3 E lv.r id O)).bind fun τ=>Tree.leaf (Lf.go (.r id ops draw::ks) τ)).holds (Gw (Fin Y E G lv rs K n) K):=h;obtain⟨τ,q1,q2⟩:=Ki (bM h');obtain⟨ρ',q3,q4,q5⟩:=q2 ρ1 k1;exact Pf (up (ks:=.r id ops draw::ks) ((ha.trans q0).trans q3) q4 q1) q5
     |_=>cases h
def slotsT{T:Nat->Type}:Nat->List (TV T)->List (Nat × TV T)
 |_,[] =>[]
 |k,u::us=>(k,u)::slotsT (k+1) us
theorem BT{I:Rn}:∀ (us:List (TV E.T)) (k:Nat),tTo E.toEnc I (slotsT k us)=slotsOf k (us.map (TV.to E.toEnc I))
 | [],_=>rfl
 |u::us,k=>by simp only[slotsT,tTo,List.map_cons,slotsOf];exact aas _ (BT us (k+1))
def dI{f:FuncId}{fn:Func}(c:Code)(n:Nat)(hm:P.follows .mixedOrders=true)(hG:GOk P Y E G)(hf:P.funcs[f]? =some fn)(hn:(fn.name== "runtime.NumGoroutine")=false)(hb:fn.body=some c)(hnt:fn.ntmps=n)(hrs:fn.results.toList=rs){us:List (TV E.T)}(hus:Nat.ble us.length n=true){h0:List (Nat × TB E.T)}
  (h:fL Y E G lv rs K [.c c] ⟨n,slotsT 0 us,h0,[]⟩) (I:Rn) (hi:Inj I h0):aI P f (us.map (TV.to E.toEnc I)) (hTo E.toEnc I h0) (cH E I K):=by
 subst hnt;refine C6 hf hn hb (by simpa using hus) ?_;obtain⟨m,hm'⟩:=h;have hr:=R9 hrs hm hG m _ _ I (Agr.refl I) hi hm';have hst:(TS.to E.toEnc I (⟨fn.ntmps,slotsT 0 us,h0,[]⟩:TS E.T))=⟨fn.ntmps,slotsOf 0 (us.map (TV.to E.toEnc I)),hTo E.toEnc I h0,[]⟩:=by simp only[TS.to,BT];rfl
 rw[hst] at hr;exact hr
def uF{f:FuncId}{fn:Func}(c:Code)(n:Nat)(hm:P.follows .mixedOrders=true)(hG:GOk P Y E G)(hf:P.funcs[f]? =some fn)(hn:(fn.name== "runtime.NumGoroutine")=false)(hb:fn.body=some c)(hnt:fn.ntmps=n)(hrs:fn.results.toList=rs){us:List (TV E.T)}(hus:Nat.ble us.length n=true)
  (h:fL Y E G lv rs K [.c c] ⟨n,slotsT 0 us,[],[]⟩) (I:Rn):aI P f (us.map (TV.to E.toEnc I)) [] (cH E I K):=
 dI c n hm hG hf hn hb hnt hrs hus h I (fun p hp=>by cases hp)
def cH.ret{I:Rn}{u:TV E.T}(hu:(u.ids big)=true){out:AOut}{H:List (Nat × List AV)}(h:cH E I (fun r=>r=.ret u []) out H):out=.ret (u.to E.toEnc I)/\H=[] :=by obtain⟨r,ρ',rfl,ha,h1,h2,_⟩:=h;exact⟨by rw[h1,TV.ids_to ha hu],h2⟩
def cH.retH{I:Rn}{u:TV E.T}{hh:List (Nat × TB E.T)}(hu:(u.ids big)=true)(hb:sO big hh=true){out:AOut}{H:List (Nat × List AV)}(h:cH E I (fun r=>r=.ret u hh) out H):out=.ret (u.to E.toEnc I)/\H=hTo E.toEnc I hh:=by obtain⟨r,ρ',rfl,ha,h1,h2,_⟩:=h;exact⟨by rw[h1,TV.ids_to ha hu],by rw[h2,Cu ha hb]⟩
def yK(id:Nat):Code->List It2->Option (List It2)
 |.region j ops draw,ks=>match Nat.beq id j with
  |true=>some (.r j ops draw::ks)
  |false=>none
 |.seq a b,ks=>match yK id a (.c b::ks) with
  |some x=>some x
  |none=>yK id b ks
 |.cond _ a b,ks=>match yK id a ks with
  |some x=>some x
  |none=>yK id b ks
 |.block i c,ks=>yK id c (.b i::ks)
 |.loop c,ks=>yK id c (.l c::ks)
 |_,_=>none
def zM(key:Nat):Code->List It2->Option (List It2)
 |.seq a b,ks=>match zM key a (.c b::ks) with
  |some x=>some x
  |none=>zM key b ks
 |.cond _ a b,ks=>match zM key a ks with
  |some x=>some x
  |none=>zM key b ks
 |.block i c,ks=>zM key c (.b i::ks)
 |.loop c,ks=>match Nat.beq key (rH c) with
  |true=>some (.k c::ks)
  |false=>zM key c (.l c::ks)
 |_,_=>none
def atR(id:Nat)(c:Code):List It2:=(yK id c []).getD []
def atL(key:Nat)(c:Code):List It2:=(zM key c []).getD []
def Tree.map1{L R:Type}:Tree (L × Option R)->Tree L
 |.leaf x=>.leaf x.1
 |.cond b t f=>.cond b t.map1 f.map1
 |.bnd o k=>.bnd o fun z=>(k z).map1
 |.sm x k p=>.sm x (fun z=>(k z).map1) fun v=>(p v).map1
 |.nl l t f=>.nl l t.map1 f.map1
 |.fail=>.fail
def Tree.run{L R:Type}:Tree (L × Option R)->Option R
 |.leaf x=>x.2
 |.cond b t f=>bif b then t.run else f.run
 |.bnd o k=>o.bind fun z=>(k z).run
 |.sm x k p=>match x with
  |.ok z=>(k z).run
  |.pan v=>(p v).run
 |.nl _ _ f=>f.run
 |.fail=>none
def Tree.all{L R:Type}(K:L × Option R->Prop):Tree (L × Option R)->Prop
 |.leaf x=>K x
 |.cond _ t f=>t.all K/\f.all K
 |.bnd _ k=>∀z,(k z).all K
 |.sm _ k p=>(∀z,(k z).all K)/\∀v,(p v).all K
 |.nl l t f=>(l=[] ->∀r,f.run=some r->t.run=some r)/\t.all K/\f.all K
 |.fail=>True
def iA{L R:Type}{K:L->Prop}{r:R}:∀ {t:Tree (L × Option R)},t.run=some r->t.all (fun p=>p.2=some r->K p.1)->t.map1.holds K
 |.leaf x,h,ha=>ha h
 |.cond true t f,h,ha=>⟨fun _=>iA h ha.1,fun e=>by cases e⟩
 |.cond false t f,h,ha=>⟨(fun e=>by cases e),fun _=>iA h ha.2⟩
 |.bnd none k,h,ha=>by cases h
 |.bnd (some z) k,h,ha=>⟨z,rfl,iA h (ha z)⟩
 |.nl l t f,h,ha=>⟨fun e=>iA (ha.1 e _ h) ha.2.1,iA h ha.2.2⟩
 |.sm (.ok z) k p,h,ha=>⟨(fun z' e=>by cases e;exact iA h (ha.1 z)),fun v e=>by cases e⟩
 |.sm (.pan v) k p,h,ha=>⟨(fun z' e=>by cases e),fun v' e=>by cases e;exact iA h (ha.2 v)⟩
 |.fail,h,ha=>by cases h
def nlR{L:Type}:Nat->Tree L->Tree L
 |0,a=>a
 |n+1,a=>.nl ([] :List Nat) a (nlR n a)
def J3{L R:Type}{a:Tree (L × Option R)}:∀n,(nlR n a).run=a.run
 |0=>rfl
 |n+1=>J3 n
def xc{L R:Type}{K:L × Option R->Prop}{a:Tree (L × Option R)}{n:Nat}(h:a.all K):(nlR n a).all K:=by
 induction n with
 |zero=>exact h
 |succ n ih=>exact⟨fun _ r hr=>by rw[J3] at hr;exact hr,h,ih⟩
def au{R:Type}{r:R}{g:Option R}{m:Nat}{ks:List It2}{O:TS E.T}{t:Tree (Lf E.T × Option R)}(hev:evM Y E G lv rs m true ks O=t.map1)(hrun:g=t.run)(hg:g=some r)(ha:t.all (fun p=>p.2=some r->WT Y E G lv rs K p.1)):fL Y E G lv rs K ks O:=
 Qx m true ks O (by rw[hev];exact iA (hrun ▸ hg) ha)
def VQ{α β:Type}{off n:Nat}{l:List α}{k:List α->Option β}{r:β}(e:(l.drop off).take n=[])(h:(Fa off n l).bind k=some r):k [] =some r:=by obtain⟨m,hm,h⟩:=aaz.1 h;have:=(BG hm).2;rw[e] at this;subst this;exact h
def aE{R:Type}{enc:R->RL E.T}{r r':R}{u:RL E.T}(e:u=enc r')(h:some r'=some r):u=enc r:=by cases h;exact e
end
def aa:Nat->Func->Code
 |0,fn=>match fn.body with
  |some c=>c
  |none=>.skip
 |n+1,fn=>aa n fn
def nr{T:Nat->Type}(t:Ty):TV T->Option (Den T t)
 |.a x=>asD t x
 |_=>none
def WF(E:Env)(i:Nat):TV E.T->Option (E.T i)
 |.ag l=>match E.pk i l with
  |some (z,[])=>some z
  |_=>none
 |_=>none
def fB{E:Env}{t:Ty}{u:TV E.T}{x:Den E.T t}(h:nr t u=some x)(I:Rn):LeV (u.to E.toEnc I) ((TV.a (.d t x):TV E.T).to E.toEnc I):=by
 unfold nr at h;split at h
 ·rename_i a;have:=y8 E.toEnc I h;rw[TA.rd_to] at this;exact .inl ((qO _).trans this)
 ·cases h
def TZ{E:Env}{i:Nat}{u:TV E.T}{z:E.T i}(h:WF E i u=some z)(I:Rn):LeV (u.to E.toEnc I) ((TV.ag (E.unp i z):TV E.T).to E.toEnc I):=by
 unfold WF at h;split at h
 ·rename_i l;split at h
  ·rename_i z' hz;cases h;have:=FV (E:=E) i (.ag l) I;unfold J4 at this;simp only[hz] at this;exact this
  ·cases h
 ·cases h
def G2{P:Program}{E:Env}{f:FuncId}{us us':List (TV E.T)}{I:Rn}{post:AOut->List (Nat × List AV)->Prop}(h:aI P f (us'.map (TV.to E.toEnc I)) [] post)(hl:us.length=us'.length)(hr:∀ (i:Nat) u u',us[i]? =some u->us'[i]? =some u'->LeV (u.to E.toEnc I) (u'.to E.toEnc I)):aI P f (us.map (TV.to E.toEnc I)) [] post:=
 h.args (by simpa using hl) fun i u u' hu hu'=>by simp only[List.getElem?_map,Option.map_eq_some_iff] at hu hu';obtain⟨v,hv,rfl⟩:=hu;obtain⟨v',hv',rfl⟩:=hu';exact hr i v v' hv hv'
def yP(E:Env)(I:Rn):List (TV E.T)->List (TV E.T)->Prop
 | [],[] =>True
 |u::us,u'::us'=>LeV (u.to E.toEnc I) (u'.to E.toEnc I)/\yP E I us us'
 |_,_=>False
def yP.get{E:Env}{I:Rn}:∀ {us us':List (TV E.T)},yP E I us us'->us.length=us'.length/\∀ (i:Nat) u u',us[i]? =some u->us'[i]? =some u'->LeV (u.to E.toEnc I) (u'.to E.toEnc I)
 | [],[],_=>⟨rfl,fun i u u' h=>by simp at h⟩
 |u::us,u'::us',h=>by
  obtain⟨h1,h2⟩:=yP.get h.2;refine⟨by simp[h1],fun i v v' hv hv'=> ?_⟩;cases i with
  |zero=>simp at hv hv';subst hv hv';exact h.1
  |succ i=>exact h2 i v v' (by simpa using hv) (by simpa using hv')
 | [],_::_,h=>h.elim
 |_::_,[],h=>h.elim
def gz{P:Program}{E:Env}{f:FuncId}{us us':List (TV E.T)}{I:Rn}{post:AOut->List (Nat × List AV)->Prop}(hr:yP E I us us')(h:aI P f (us'.map (TV.to E.toEnc I)) [] post):aI P f (us.map (TV.to E.toEnc I)) [] post:=G2 h hr.get.1 hr.get.2
abbrev w64(n:Int):Int:=IntKind.wrap .i64 n
abbrev toB(n:Int):UInt8:=UInt8.ofNat n.toNat
abbrev b2i(b:UInt8):Int:=((UInt8.toNat b:Nat):Int)
def WV:List Nat->Nat->Nat->Nat
 | [],_,_=>0
 |i::r,k,j=>match Nat.beq j k with
  |true=>i
  |false=>WV r (k+1) j
def nmS(ids:List Nat)(j:Nat):Nat:=match Nat.ble 200000 j with
 |true=>WV ids 200000 j
 |false=>WV ids 100000 j
def jh(I:Rn)(ids:List Nat):Rn:=⟨fun j=>I.k (nmS ids j)⟩
def AL{E:Env}(us:List (TV E.T))(I ρ':Rn):Nat->List (TV E.T)->Prop
 |k,[] =>us.length=k
 |k,u'::r=>(∀u,us[k]? =some u->LeV (u.to E.toEnc I) (u'.to E.toEnc ρ'))/\AL us I ρ' (k+1) r
def AL.get{E:Env}{us:List (TV E.T)}{I ρ':Rn}:∀ {us':List (TV E.T)} {k:Nat},AL us I ρ' k us'->us.length=k+us'.length/\∀ (i:Nat) u u',us[k+i]? =some u->us'[i]? =some u'->LeV (u.to E.toEnc I) (u'.to E.toEnc ρ')
 | [],k,h=>⟨h,fun i u u' _ h'=>by simp at h'⟩
 |v::r,k,h=>by
  obtain⟨h1,h2⟩:=AL.get (us':=r) h.2;refine⟨by simp only[List.length_cons];omega,fun i u u' hu hu'=> ?_⟩;cases i with
  |zero=>simp at hu';subst hu';exact h.1 u hu
  |succ i=>exact h2 i u u' (by rw[show k+1+i=k+ (i+1) by omega];exact hu) (by simpa using hu')
def BL{E:Env}(hs:List (Nat × TB E.T))(I ρ':Rn):List Nat->List (Nat × TB E.T)->Prop
 | [],[] =>True
 |i::is,q::r=>ρ' q.1=I i/\(∃b,look hs i=some b/\LeL (b.to E.toEnc I) (q.2.to E.toEnc ρ')/\bi I b=bi ρ' q.2)/\BL hs I ρ' is r
 |_,_=>False
theorem BL.look{E:Env}{hs:List (Nat × TB E.T)}{I ρ':Rn}:∀ {ids:List Nat} {h0:List (Nat × TB E.T)},BL hs I ρ' ids h0->∀k cs',look (hTo E.toEnc ρ' h0) k=some cs'->∃cs,Go.Proofs.Ytlhjbhgkhpbnfaa.look (hTo E.toEnc I (dv hs ids)) k=some cs/\LeL cs cs'
 | [],[],_,k,cs',h=>by cases h
 |i::is,q::r,h,k,cs',hk=>by
  obtain⟨h1,⟨b,h2,h3,h5⟩,h4⟩:=h;obtain⟨qn,qb⟩:=q;simp only at h1 h3 h5;simp only[dv,h2];cases hl:bi I b with
  |false=>rw[fo _ _ (by rw[<- h5];exact hl)] at hk;rw[fo _ _ hl];exact BL.look h4 k cs' hk
  |true=>
   rw[dS _ _ (by rw[<- h5];exact hl),ae,h1] at hk;rw[dS _ _ hl,ae];split at hk
   ·rename_i e;rw[ZI e];cases hk;exact⟨_,rfl,h3⟩
   ·rename_i e;rw[ZH e];exact BL.look h4 k cs' hk
 | [],_::_,h,_,_,_=>h.elim
 |_::_,[],h,_,_,_=>h.elim
def N2{P:Program}{E:Env}{f:FuncId}{us us':List (TV E.T)}{hs h0:List (Nat × TB E.T)}{ids:List Nat}{I ρ':Rn}{post post':AOut->List (Nat × List AV)->Prop}(ha:AL us I ρ' 0 us')(hb:BL hs I ρ' ids h0)(hc:aI P f (us'.map (TV.to E.toEnc ρ')) (hTo E.toEnc ρ' h0) post)(hp:∀out H,post out H->post' out H):aI P f (us.map (TV.to E.toEnc I)) (hTo E.toEnc I (dv hs ids)) post':=by
 have h1:aI P f (us.map (TV.to E.toEnc I)) (hTo E.toEnc I (dv hs ids)) post:=by
  obtain⟨hl,hr⟩:=ha.get;refine⟨hc.1,fun F X vs hs'=>hc.2 F X vs ?_⟩;refine hs'.le3 (by simp[hl]) (fun t u' hu=> ?_) (fun k cs' hk=>hb.look k cs' hk) (fun p hp=>hp);obtain⟨_,h2⟩:=dy (us'.map (TV.to E.toEnc ρ')) 0 t u' hu;simp only[Nat.sub_zero,List.getElem?_map,Option.map_eq_some_iff] at h2;obtain⟨v',hv',rfl⟩:=h2
  have hlt:t < us.length:=by rw[hl];have:=(ZD.1 hv').1;omega
  have e:us[0+t]? =some us[t] :=by simp[hlt]
  refine⟨us[t].to E.toEnc I,?_,hr t _ _ e hv'⟩;have key:∀ (us:List AV) (k t:Nat) (u:AV),us[t]? =some u->look (slotsOf k us) (k+t)=some u:=by
   intro us
   induction us with
   |nil=>intro k t u h;simp at h
   |cons a us ih=>
    intro k t u h;simp only[slotsOf,ae];cases t with
    |zero=>simp at h;subst h;simp
    |succ t=>rw[ZH (by omega),show k+ (t+1)=(k+1)+t by omega];exact ih (k+1) t u (by simpa using h)
  simpa using key (us.map (TV.to E.toEnc I)) 0 t (us[t].to E.toEnc I) (by simp[hlt])
 exact h1.mono hp
def yn{T:Nat->Type}{hs:List (Nat × TB T)}:∀ {ids:List Nat},bx hs ids=true->ids.Nodup
 | [],_=>List.nodup_nil
 |i::r,h=>by
  simp only[bx] at h;split at h
  ·rename_i hm;exact abG.2 ⟨fun hi=>(by rw[eb.2 hi] at hm;cases hm),yn h⟩
  ·cases h
def BL.mem{E:Env}{hs:List (Nat × TB E.T)}{I ρ':Rn}:∀ {ids:List Nat} {h0:List (Nat × TB E.T)},BL hs I ρ' ids h0->ids.length=h0.length/\∀ (j:Nat) (h1:j < ids.length) (h2:j < h0.length),ρ' h0[j].1=I ids[j] /\∃b,Go.Proofs.Ytlhjbhgkhpbnfaa.look hs ids[j] =some b/\bi I b=bi ρ' h0[j].2
 | [],[],_=>⟨rfl,fun j h1=>by simp at h1⟩
 |i::is,q::r,h=>by
  obtain⟨h1,⟨b,h2,h3,h5⟩,h4⟩:=h;obtain⟨k1,k2⟩:=BL.mem h4;refine⟨by simp[k1],fun j hj1 hj2=> ?_⟩;cases j with
  |zero=>exact⟨h1,b,h2,h5⟩
  |succ j=>exact k2 j (by simpa using hj1) (by simpa using hj2)
 | [],_::_,h=>absurd h id
 |_::_,[],h=>absurd h id
def BL.inj{E:Env}{hs h0:List (Nat × TB E.T)}{I ρ':Rn}{ids:List Nat}(hi:Inj I hs)(hg:bx hs ids=true)(hb:BL hs I ρ' ids h0)(hn:ip (h0.map (·.1))=true):Inj ρ' h0:=by
 obtain⟨hl,hm⟩:=hb.mem;have hnd:=List.pairwise_iff_getElem.1 (yn hg);have hn0:=List.pairwise_iff_getElem.1 (yV hn);intro p hp q hq;obtain⟨a,ha,rfl⟩:=List.getElem_of_mem hp;obtain⟨b,hb',rfl⟩:=List.getElem_of_mem hq;obtain⟨e1,b1,l1,m1⟩:=hm a (by omega) ha;obtain⟨e2,b2,l2,m2⟩:=hm b (by omega) hb';constructor
 ·intro v1 v2 e;have:=(hi _ (db l1) _ (db l2)).1 (by rw[m1];exact v1) (by rw[m2];exact v2) (by rw[<- e1,<- e2];exact e);simp only at this;rcases Nat.lt_trichotomy a b with hlt|heq|hgt
  ·exact absurd this (hnd _ _ (by omega) (by omega) hlt)
  ·subst heq;rfl
  ·exact absurd this.symm (hnd _ _ (by omega) (by omega) hgt)
 ·intro e;rcases Nat.lt_trichotomy a b with hlt|heq|hgt
  ·exact absurd (by rw[abE,abE];exact e) (hn0 a b (by simpa using ha) (by simpa using hb') hlt)
  ·subst heq;rfl
  ·exact absurd (by rw[abE,abE];exact e.symm) (hn0 b a (by simpa using hb') (by simpa using ha) hgt)
def nk{P:Program}{E:Env}{f:FuncId}{us us':List (TV E.T)}{hs h0:List (Nat × TB E.T)}{ids:List Nat}{I ρ':Rn}{post post':AOut->List (Nat × List AV)->Prop}(hi:Inj I hs)(hg:bx hs ids=true)(hn:ip (h0.map (·.1))=true)(ha:AL us I ρ' 0 us')(hb:BL hs I ρ' ids h0)(hc:Inj ρ' h0->aI P f (us'.map (TV.to E.toEnc ρ')) (hTo E.toEnc ρ' h0) post)(hp:∀out H,post out H->post' out H):aI P f (us.map (TV.to E.toEnc I)) (hTo E.toEnc I (dv hs ids)) post':=
 N2 ha hb (hc (hb.inj hi hg hn)) hp
def Lh(I ρ':Rn):List Nat->List Nat->Prop
 |i::is,k::ks=>(big k=false\/ρ'.k k=I.k i)/\Lh I ρ' is ks
 | [],[] =>True
 |_,_=>False
def mvL:List Nat->List Nat->List Nat
 |i::is,k::ks=>match big k with
  |true=>mvL is ks
  |false=>i::mvL is ks
 |_,_=>[]
def Lh.get{I ρ':Rn}:∀ {ids ks:List Nat},Lh I ρ' ids ks->∀i∈ids,i ∉ mvL ids ks->∃k,(k,i)∈ks.zip ids/\big k=true/\ρ'.k k=I.k i
 | [],[],_,i,hi,_=>by cases hi
 |j::is,k::ks,h,i,hi,hn=>by
  simp only[mvL] at hn;cases hb:big k with
  |true=>
   rw[hb] at hn;rcases ZY.1 hi with rfl|hi
   ·exact⟨k,ZP,hb,h.1.resolve_left (by rw[hb];decide)⟩
   ·obtain⟨k',h1,h2,h3⟩:=Lh.get h.2 i hi hn;exact⟨k',ZM _ h1,h2,h3⟩
  |false=>
   rw[hb] at hn;rcases ZY.1 hi with rfl|hi
   ·exact absurd ZP hn
   ·obtain⟨k',h1,h2,h3⟩:=Lh.get h.2 i hi fun hc=>hn (ZM _ hc);exact⟨k',ZM _ h1,h2,h3⟩
 | [],_::_,h,_,_,_=>absurd h id
 |_::_,[],h,_,_,_=>absurd h id
def mM{T:Nat->Type}{Z:Type}(u:Z->TV T)(h:Z->List (Nat × TB T)):PR Z->RL T
 |.ok z=>.ret (u z) (h z)
 |.pan v=>.pan v
def gh{P:Program}{E:Env}{f:FuncId}{us us':List (TV E.T)}{hs h0:List (Nat × TB E.T)}{ids ks:List Nat}{ex:List (Nat × Nat)}{I ρ':Rn}{Z:Type}{p:PR Z}{uc u:Z->TV E.T}{hc h:Z->List (Nat × TB E.T)}(hi:Inj I hs)(hg:bx hs ids=true)(hn:ip (h0.map (·.1))=true)(ha:AL us I ρ' 0 us')(hb:BL hs I ρ' ids h0)(hf:Lh I ρ' ids ks)(hv:ip ((ks.zip ids++ex).map (·.2))=true)
  (hk:Inj ρ' h0->aI P f (us'.map (TV.to E.toEnc ρ')) (hTo E.toEnc ρ' h0) (cH E ρ' fun r=>r=mM uc hc p))
  (hu:∀z,(uc z).ren (sd (ks.zip ids++ex))=u z/\px (sd (ks.zip ids++ex)) (hc z)=h z/\(uc z).ids (inK (ks.zip ids++ex))=true/\sO (inK (ks.zip ids++ex)) (hc z)=true):
  aI P f (us.map (TV.to E.toEnc I)) (hTo E.toEnc I (dv hs ids)) fun out H=>match(generalizing:=false) p with
   |.ok z=>∃ρ3:Rn,(∀i∈ids,i ∉ mvL ids ks->ρ3.k i=I.k i)/\out=.ret ((u z).to E.toEnc ρ3)/\H=hTo E.toEnc ρ3 (h z)/\Inj ρ3 (h z)
   |.pan v=>out=.pan v:=by
 refine N2 ha hb (hk (hb.inj hi hg hn)) ?_;rintro out H ⟨r,ρ2,rfl,hagr,hr⟩;cases p with
 |pan v=>exact hr.1
 |ok z=>
  obtain⟨h1,h2,h3⟩:=hr;obtain⟨k1,k2,k3,k4⟩:=hu z;have key:∀j,inK (ks.zip ids++ex) j=true->(⟨fun i=>match jS (wn (ks.zip ids++ex)) i with|some j=>ρ2.k j|none=>I.k i⟩:Rn).k (sd (ks.zip ids++ex) j)=ρ2.k j:=fun j hj=>by unfold inK at hj;obtain⟨b,hb⟩:=aaT.1 hj;have:=jw hv (kf hb);simp only[sd,hb,Option.getD_some,this]
  have kinj:∀i j,inK (ks.zip ids++ex) i=true->inK (ks.zip ids++ex) j=true->sd (ks.zip ids++ex) i=sd (ks.zip ids++ex) j->i=j:=fun i j hi hj e=>by unfold inK at hi hj;obtain⟨a,ha⟩:=aaT.1 hi;obtain⟨b,hb⟩:=aaT.1 hj;simp only[sd,ha,hb,Option.getD_some] at e;subst e;have e1:=jw hv (kf ha);have e2:=jw hv (kf hb);rw[e1] at e2;cases e2;rfl
  refine⟨⟨fun i=>match jS (wn (ks.zip ids++ex)) i with|some j=>ρ2.k j|none=>I.k i⟩,fun i hi hm=> ?_,?_,?_,?_⟩
  ·obtain⟨k,q1,q2,q3⟩:=hf.get i hi hm;have:=jw hv (aar ex q1);simp only[this];rw[hagr k q2,q3]
  ·rw[h1,<- k1,TV.ren_to key k3]
  ·rw[h2,<- k2,ut key k4]
  ·rw[<- k2];exact u4 key kinj k4 h3
def bnX{T:Nat->Type}{α:Type}(o:Option α)(k:α->XR T):XR T:=match o with
 |some x=>k x
 |none=>.bad
def ab{P:Program}{E:Env}{f:FuncId}{us:List (TV E.T)}{hs:List (Nat × TB E.T)}{α:Type}{o:Option α}{k:α->XR E.T}(h:∀x,o=some x->(k x).ok P f us hs):(bnX o k).ok P f us hs:=by
 cases o with
 |none=>trivial
 |some x=>exact h x rfl
def gdX{T:Nat->Type}(b:Bool)(x:XR T):XR T:=match b with
 |true=>x
 |false=>.bad
def ay{P:Program}{E:Env}{f:FuncId}{us:List (TV E.T)}{hs:List (Nat × TB E.T)}{b:Bool}{x:XR E.T}(h:b=true->x.ok P f us hs):(gdX b x).ok P f us hs:=by
 cases b with
 |false=>trivial
 |true=>exact h rfl
section
variable {E:Env} {us:List (TV E.T)} {hs:List (Nat × TB E.T)} {l:List (TA E.T)} {k i j:Nat} {t:Ty} {I ρ':Rn}
def d7{α:Type}(us:List α)(n:Nat):Bool:=Nat.beq us.length n
def bA{α:Type}{us:List α}{n:Nat}(h:d7 us n=true):us.length=n:=ZK h
def aD{T:Nat->Type}(t:Ty)(us:List (TV T))(k:Nat):Option (Den T t):=match us[k]? with
 |some u=>nr t u
 |none=>none
def aS(E:Env)(i:Nat)(us:List (TV E.T))(k:Nat):Option (E.T i):=match us[k]? with
 |some u=>WF E i u
 |none=>none
def aB{T:Nat->Type}(us:List (TV T))(k:Nat):Option Nat:=match us[k]? with
 |some (.a (.box i 0))=>some i
 |_=>none
def gB{x:Den E.T t}(h:aD t us k=some x):∀u,us[k]? =some u->LeV (u.to E.toEnc I) ((TV.a (.d t x):TV E.T).to E.toEnc ρ'):=fun u hu=>by unfold aD at h;rw[hu] at h;exact fB h I
def Bq{n:Nat}{x:E.T n}(h:aS E n us k=some x):∀u,us[k]? =some u->LeV (u.to E.toEnc I) ((TV.ag (E.unp n x):TV E.T).to E.toEnc ρ'):=fun u hu=>by
 unfold aS at h;rw[hu] at h;have:=TZ h I;have e:(TV.ag (E.unp n x):TV E.T).to E.toEnc ρ'=(TV.ag (E.unp n x):TV E.T).to E.toEnc I:=by show AV.ag ((E.unp n x).map _)=AV.ag ((E.unp n x).map _);rw[E.unp_to,E.unp_to]
 rw[e];exact this
def gG(h:aB us k=some i)(e:ρ' j=I i):∀u,us[k]? =some u->LeV (u.to E.toEnc I) ((TV.a (.box j 0):TV E.T).to E.toEnc ρ'):=fun u hu=>by
 unfold aB at h;rw[hu] at h;split at h
 ·rename_i i' hu';cases hu';cases h;left;show Le1 (.v (.pointer (some ⟨I i,0,none⟩))) (.v (.pointer (some ⟨ρ' j,0,none⟩)));rw[e];exact .refl _
 ·cases h
def bS(E:Env)(n:Nat)(hs:List (Nat × TB E.T))(i:Nat):Option (E.T n):=match look hs i with
 |some (.cs l)=>match E.pk n l with
  |some (z,[])=>some z
  |_=>none
 |_=>none
def tW{n:Nat}{z:E.T n}(h:bS E n hs i=some z):∃b,look hs i=some b/\LeL (b.to E.toEnc I) ((TB.cs (E.unp n z):TB E.T).to E.toEnc ρ')/\bi I b=bi ρ' (TB.cs (E.unp n z):TB E.T):=by
 unfold bS at h;split at h
 ·rename_i l hl;split at h
  ·rename_i z' hz;cases h;refine⟨_,hl,?_,rfl⟩;have hp:=E.pk_to n _ z [] I hz;simp only[List.map_nil,List.append_nil] at hp;show LeL (l.map _) ((E.unp n z).map _);rw[E.unp_to];exact(ju (I:=I) l).trans hp
  ·cases h
 ·cases h
def bC{T:Nat->Type}(hs:List (Nat × TB T))(i:Nat):Option (List (TA T)):=match look hs i with
 |some (.cs l)=>some l
 |_=>none
def cD{T:Nat->Type}(t:Ty)(l:List (TA T))(k:Nat):Option (Den T t):=match l[k]? with
 |some a=>asD t a.rd
 |none=>none
def cB{T:Nat->Type}(l:List (TA T))(k:Nat):Option Nat:=match l[k]? with
 |some (.box i 0)=>some i
 |_=>none
def CL{E:Env}(l:List (TA E.T))(I ρ':Rn):Nat->List (TA E.T)->Prop
 |k,[] =>l.length=k
 |k,u'::r=>(∀u,l[k]? =some u->Le1 (u.to E.toEnc I) (u'.to E.toEnc ρ'))/\CL l I ρ' (k+1) r
def CL.le:∀ {l':List (TA E.T)} {l:List (TA E.T)} {k:Nat},CL l I ρ' k l'->LeL ((l.drop k).map (TA.to E.toEnc I)) (l'.map (TA.to E.toEnc ρ'))
 | [],l,k,h=>by have h':l.length=k:=h;rw[aaO (by omega)];exact .nil
 |u'::r,l,k,h=>by
  have hlen:∀ (r:List (TA E.T)) (k:Nat),CL l I ρ' k r->l.length=k+r.length:=by
   intro r
   induction r with
   |nil=>intro k h;exact h
   |cons a r ih=>intro k h;have:=ih _ h.2;simp only[List.length_cons];omega
  have hk:k < l.length:=by have:=hlen _ _ h;simp only[List.length_cons] at this;omega
  rw[aaw hk];exact .cons (h.1 _ (ZE hk)) (CL.le h.2)
def jD{l':List (TA E.T)}(h:bC hs i=some l)(hc:CL l I ρ' 0 l'):∃b,look hs i=some b/\LeL (b.to E.toEnc I) ((TB.cs l':TB E.T).to E.toEnc ρ')/\bi I b=bi ρ' (TB.cs l':TB E.T):=by
 unfold bC at h;split at h
 ·rename_i l0 hl;cases h;refine⟨_,hl,?_,rfl⟩;show LeL (l.map _) (l'.map _);simpa using hc.le
 ·cases h
def ei{x:Den E.T t}(h:cD t l k=some x):∀u,l[k]? =some u->Le1 (u.to E.toEnc I) ((TA.d t x:TA E.T).to E.toEnc ρ'):=fun u hu=>by
 unfold cD at h;rw[hu] at h;have:=y8 E.toEnc I h;rw[TA.rd_to,TA.rd_to] at this;have e:((u.to E.toEnc I).rd).rd=(u.to E.toEnc I).rd:=by rw[<- TA.rd_to,<- TA.rd_to];cases u<;> rfl
 rw[e] at this;exact(qO _).trans this
def Yf(h:cB l k=some i)(e:ρ' j=I i):∀u,l[k]? =some u->Le1 (u.to E.toEnc I) ((TA.box j 0:TA E.T).to E.toEnc ρ'):=fun u hu=>by
 unfold cB at h;rw[hu] at h;split at h
 ·rename_i i' hu';cases hu';cases h;show Le1 (.v (.pointer (some ⟨I i,0,none⟩))) (.v (.pointer (some ⟨ρ' j,0,none⟩)));rw[e];exact .refl _
 ·cases h
def cH.pan{v:Value}{out:AOut}{H:List (Nat × List AV)}(h:cH E I (fun r=>r=.pan v) out H):out=.pan v:=by obtain⟨r,ρ',rfl,ha,h1,h2⟩:=h;exact h1
def bV{T:Nat->Type}(t:Ty)(hs:List (Nat × TB T))(i:Nat):Option (List (Den T t)):=pm hs t i
def iw{x:List (Den E.T t)}(h:bV t hs i=some x)(e:ρ'.k j=I.k i):∃b,look hs i=some b/\LeL (b.to E.toEnc I) ((TB.vec j t x:TB E.T).to E.toEnc ρ')/\bi I b=bi ρ' (TB.vec j t x:TB E.T):=by
 have hb:=iB (O:=⟨0,[],hs,[]⟩) h;refine⟨_,hb,?_,?_⟩
 ·simp only[TB.to,e];exact LeL.refl _
 ·simp only[bi,e]
def isV{T:Nat->Type}(t:Ty):TA T->Option (Nat × Nat)
 |.vec t' i n=>match decide (t'=t) with
  |true=>some (i,n)
  |false=>none
 |_=>none
def E5{T:Nat->Type}{t:Ty}{p:Nat × Nat}{a:TA T}(h:isV t a=some p):a=.vec t p.1 p.2:=by
 unfold isV at h;split at h
 ·split at h
  ·rename_i hb;have:=aaV hb;subst this;cases h;rfl
  ·cases h
 ·cases h
def cV{T:Nat->Type}(t:Ty)(l:List (TA T))(k:Nat):Option (Nat × Nat):=match l[k]? with
 |some a=>isV t a
 |none=>none
def XK{n:Nat}(h:cV t l k=some (i,n))(e:ρ'.k j=I.k i):∀u,l[k]? =some u->Le1 (u.to E.toEnc I) ((TA.vec t j n:TA E.T).to E.toEnc ρ'):=fun u hu=>by unfold cV at h;rw[hu] at h;rw[E5 h];simp only[TA.to,e];exact .refl _
def aV{T:Nat->Type}(t:Ty)(us:List (TV T))(k:Nat):Option (Nat × Nat):=match us[k]? with
 |some (.a a)=>isV t a
 |_=>none
def Xr{n:Nat}(h:aV t us k=some (i,n))(e:ρ'.k j=I.k i):∀u,us[k]? =some u->LeV (u.to E.toEnc I) ((TV.a (.vec t j n):TV E.T).to E.toEnc ρ'):=fun u hu=>by
 unfold aV at h;rw[hu] at h;split at h
 ·rename_i a hu';cases hu';rw[E5 h];left;simp only[TV.to,TA.to,e];exact .refl _
 ·cases h
def cVi{T:Nat->Type}(t:Ty)(l:List (TA T))(k:Nat):Option Nat:=match cV t l k with
 |some p=>some p.1
 |none=>none
def cVn{T:Nat->Type}(t:Ty)(l:List (TA T))(k:Nat):Option Nat:=match cV t l k with
 |some p=>some p.2
 |none=>none
def gi{n:Nat}(h:cVi t l k=some i)(h2:cVn t l k=some n)(e:ρ'.k j=I.k i):∀u,l[k]? =some u->Le1 (u.to E.toEnc I) ((TA.vec t j n:TA E.T).to E.toEnc ρ'):=by
 unfold cVi at h;unfold cVn at h2;cases hc:cV t l k with
 |none=>rw[hc] at h;cases h
 |some p=>rw[hc] at h h2;cases h;cases h2;exact XK hc e
def aVi{T:Nat->Type}(t:Ty)(us:List (TV T))(k:Nat):Option Nat:=match aV t us k with
 |some p=>some p.1
 |none=>none
def aVn{T:Nat->Type}(t:Ty)(us:List (TV T))(k:Nat):Option Nat:=match aV t us k with
 |some p=>some p.2
 |none=>none
def VD{n:Nat}(h:aVi t us k=some i)(h2:aVn t us k=some n)(e:ρ'.k j=I.k i):∀u,us[k]? =some u->LeV (u.to E.toEnc I) ((TV.a (.vec t j n):TV E.T).to E.toEnc ρ'):=by
 unfold aVi at h;unfold aVn at h2;cases hc:aV t us k with
 |none=>rw[hc] at h;cases h
 |some p=>rw[hc] at h h2;cases h;cases h2;exact Xr hc e
def aM{T:Nat->Type}(us:List (TV T))(k:Nat):Option Nat:=match us[k]? with
 |some (.a (.mpr i))=>some i
 |_=>none
def Vd(h:aM us k=some i)(e:ρ' j=I i):∀u,us[k]? =some u->LeV (u.to E.toEnc I) ((TV.a (.mpr j):TV E.T).to E.toEnc ρ'):=fun u hu=>by
 unfold aM at h;rw[hu] at h;split at h
 ·rename_i i' hu';cases hu';cases h;left;show Le1 (.v (.map (some (I i)))) (.v (.map (some (ρ' j))));rw[e];exact .refl _
 ·cases h
def bI{T:Nat->Type}(t:Ty)(hs:List (Nat × TB T))(i:Nat):Option (List (Int × Den T t)):=match look hs i with
 |some (.imap t' l)=>if h:t'=t then some (h ▸ l) else none
 |_=>none
def UW{x:List (Int × Den E.T t)}(h:bI t hs i=some x):∃b,look hs i=some b/\LeL (b.to E.toEnc I) ((TB.imap t x:TB E.T).to E.toEnc ρ')/\bi I b=bi ρ' (TB.imap t x:TB E.T):=by
 unfold bI at h;split at h
 ·rename_i t' l hl;split at h
  ·rename_i e;subst e;cases h;exact⟨_,hl,LeL.refl _,rfl⟩
  ·cases h
 ·cases h
def aN{T:Nat->Type}(us:List (TV T))(k:Nat):Bool:=match us[k]? with
 |some (.a (.raw (.slice none 0 0)))=>true
 |_=>false
def Ym(h:aN us k=true):∀u,us[k]? =some u->LeV (u.to E.toEnc I) ((TV.a (.raw (.slice none 0 0)):TV E.T).to E.toEnc ρ'):=fun u hu=>by
 unfold aN at h;rw[hu] at h;split at h
 ·rename_i hu';cases hu';exact .inl (.refl _)
 ·cases h
def isU{T:Nat->Type}(t:Ty):TA T->Option (Nat × Nat × Nat)
 |.vsl t' i off n=>match decide (t'=t) with
  |true=>some (i,off,n)
  |false=>none
 |.vec t' i n=>match decide (t'=t) with
  |true=>some (i,0,n)
  |false=>none
 |_=>none
theorem Ug(b:Bk)(sz n:Nat):vecV b sz n=pc b sz 0 n:=by
 unfold vecV pc;rw[Z6];split
 ·rfl
 ·rw[abg,ite_self]
def NK{E:Env}{I:Rn}{t:Ty}{p:Nat × Nat × Nat}{a:TA E.T}(h:isU t a=some p):a.to E.toEnc I=(TA.vsl t p.1 p.2.1 p.2.2:TA E.T).to E.toEnc I:=by
 unfold isU at h;split at h
 ·split at h
  ·rename_i hb;have:=aaV hb;subst this;cases h;rfl
  ·cases h
 ·split at h
  ·rename_i hb;have:=aaV hb;subst this;cases h;simp only[TA.to,Ug]
  ·cases h
 ·cases h
def aU{T:Nat->Type}(t:Ty)(us:List (TV T))(k:Nat):Option (Nat × Nat × Nat):=match us[k]? with
 |some (.a a)=>isU t a
 |_=>none
def aUi{T:Nat->Type}(t:Ty)(us:List (TV T))(k:Nat):Option Nat:=match aU t us k with
 |some p=>some p.1
 |none=>none
def aUo{T:Nat->Type}(t:Ty)(us:List (TV T))(k:Nat):Option Nat:=match aU t us k with
 |some p=>some p.2.1
 |none=>none
def aUn{T:Nat->Type}(t:Ty)(us:List (TV T))(k:Nat):Option Nat:=match aU t us k with
 |some p=>some p.2.2
 |none=>none
def XS{off n:Nat}(h:aUi t us k=some i)(h2:aUo t us k=some off)(h3:aUn t us k=some n)(e:ρ'.k j=I.k i):∀u,us[k]? =some u->LeV (u.to E.toEnc I) ((TV.a (.vsl t j off n):TV E.T).to E.toEnc ρ'):=fun u hu=>by
 unfold aUi at h;unfold aUo at h2;unfold aUn at h3;cases hc:aU t us k with
 |none=>rw[hc] at h;cases h
 |some p=>
  rw[hc] at h h2 h3;cases h;cases h2;cases h3;unfold aU at hc;rw[hu] at hc;split at hc
  ·rename_i a hu';cases hu';left;have e2:(TV.a a:TV E.T).to E.toEnc I=(TV.a (.vsl t p.1 p.2.1 p.2.2):TV E.T).to E.toEnc I:=NK hc;rw[e2];simp only[TV.to,TA.to,e];exact .refl _
  ·cases hc
end
def fD(n:String)(t o b:Nat):Field:=⟨n,t,o,false,"","",b⟩
def TTy:List (Nat × TypeDesc):=[(1,(.func #[] #[] false)),(2,(.int .i64)),(3,(.int .i64)),(4,.bool),(5,(.int .u8)),(6,(.int .u8)),(9,.string),(10,.string),(11,.string),(12,(.int .u64)),(15,(.pointer 141)),(16,(.pointer 144)),(17,(.pointer 151)),(20,(.interface #[])),(21,(.int .i32)),(22,(.slice 9)),(23,(.int .i64)),(25,(.func #[9,9] #[4,22,23] false)),(26,(.slice 109)),(27,(.struct #[fD "Err" 23 0 0,fD "At" 3 1 8])),(28,(.struct #[fD "Err" 23 0 0,fD "At" 3 1 8])),(30,(.func #[9] #[26,3,28] false)),(31,(.func #[] #[4] false)),(33,(.func #[26,3,9] #[4,22] false)),(34,(.func #[22,22] #[4] false)),(35,(.func #[9,9] #[4] false)),(37,(.func #[9,9,22] #[9,23] false)),(38,(.slice 3)),(40,(.func #[9] #[22,38,4] false)),(42,(.func #[9,9,22,3] #[9,3] false)),(43,(.func #[9,23,23,9] #[4] false)),(44,(.func #[9,9,22] #[4] false)),(45,(.func #[3,3] #[3] false)),(46,(.slice 5)),(47,(.func #[38] #[9] false)),(48,(.func #[38,38] #[4] false)),(49,(.func #[9,9,9] #[4] false)),(50,(.func #[3,3,9] #[4] false)),(52,(.func #[9] #[3,28] false)),(53,(.func #[9] #[4] false)),(54,(.pointer 93)),(56,(.func #[9] #[54,28] false)),(57,(.func #[9] #[4,22] false)),(58,(.pointer 60)),(59,(.struct #[fD "M" 9 0 0,fD "At" 3 1 16,fD "Groups" 3 2 24,fD "F" 28 3 32])),(60,(.struct #[fD "M" 9 0 0,fD "At" 3 1 16,fD "Groups" 3 2 24,fD "F" 28 3 32])),(61,(.func #[] #[26] false)),(62,(.func #[23,3] #[] false)),(63,(.pointer 66)),(64,(.slice 71)),(65,(.struct #[fD "Spots" 64 0 0])),(66,(.struct #[fD "Spots" 64 0 0])),(67,(.func #[26,3] #[3] false)),(68,(.func #[71] #[3] false)),(69,(.slice 4)),(70,(.struct #[fD "Kind" 3 0 0,fD "A" 3 1 8,fD "B" 3 2 16,fD "Number" 3 3 24,fD "Set" 69 4 32])),(71,(.struct #[fD "Kind" 3 0 0,fD "A" 3 1 8,fD "B" 3 2 16,fD "Number" 3 3 24,fD "Set" 69 4 32])),(72,(.pointer 74)),(73,(.struct #[fD "L" 63 0 0,fD "Text" 9 1 8,fD "Bad" 69 2 24,fD "From" 38 3 48,fD "To" 38 4 72])),(74,(.struct #[fD "L" 63 0 0,fD "Text" 9 1 8,fD "Bad" 69 2 24,fD "From" 38 3 48,fD "To" 38 4 72])),(75,(.func #[3,3] #[4] false)),(76,(.slice 83)),(78,(.func #[9] #[76,4] false)),(79,(.pointer 81)),(80,(.struct #[⟨"addr",79,0,false,"","strings",0⟩,⟨"buf",46,1,false,"","strings",8⟩])),(81,(.struct #[⟨"addr",79,0,false,"","strings",0⟩,⟨"buf",46,1,false,"","strings",8⟩])),(82,(.struct #[⟨"text",9,0,false,"","gleaner/mask",0⟩,⟨"group",3,1,false,"","gleaner/mask",16⟩])),(83,(.struct #[⟨"text",9,0,false,"","gleaner/mask",0⟩,⟨"group",3,1,false,"","gleaner/mask",16⟩])),(84,(.func #[] #[3] false)),(85,(.interface #[("Error",89)])),(86,(.interface #[("Error",89)])),(88,(.func #[9] #[3,86] false)),(89,(.func #[] #[9] false)),(90,(.func #[5] #[4] false)),(91,(.slice 101)),(92,(.struct #[fD "Groups" 3 0 0,⟨"steps",91,1,false,"","gleaner/mask",8⟩])),(93,(.struct #[fD "Groups" 3 0 0,⟨"steps",91,1,false,"","gleaner/mask",8⟩])),(95,(.pointer 97)),(96,(.struct #[⟨"m",9,0,false,"","gleaner/mask",0⟩,⟨"at",3,1,false,"","gleaner/mask",16⟩,⟨"groups",3,2,false,"","gleaner/mask",24⟩,⟨"steps",91,3,false,"","gleaner/mask",32⟩])),(97,(.struct #[⟨"m",9,0,false,"","gleaner/mask",0⟩,⟨"at",3,1,false,"","gleaner/mask",16⟩,⟨"groups",3,2,false,"","gleaner/mask",24⟩,⟨"steps",91,3,false,"","gleaner/mask",32⟩])),(98,(.func #[101] #[3] false)),(99,(.pointer 136)),(100,(.struct #[⟨"kind",3,0,false,"","gleaner/mask",0⟩,⟨"a",3,1,false,"","gleaner/mask",8⟩,⟨"b",3,2,false,"","gleaner/mask",16⟩,⟨"set",99,3,false,"","gleaner/mask",24⟩])),(101,(.struct #[⟨"kind",3,0,false,"","gleaner/mask",0⟩,⟨"a",3,1,false,"","gleaner/mask",8⟩,⟨"b",3,2,false,"","gleaner/mask",16⟩,⟨"set",99,3,false,"","gleaner/mask",24⟩])),(102,(.func #[38,3] #[38] false)),(103,(.slice 107)),(104,(.func #[103,105,107,3] #[103] false)),(105,(.map 3 4)),(106,(.struct #[⟨"at",3,0,false,"","gleaner/mask",0⟩,⟨"slots",38,1,false,"","gleaner/mask",8⟩])),(107,(.struct #[⟨"at",3,0,false,"","gleaner/mask",0⟩,⟨"slots",38,1,false,"","gleaner/mask",8⟩])),(108,(.func #[9,38] #[22] false)),(109,(.slice 111)),(110,(.struct #[fD "Group" 4 0 0,fD "Set" 69 1 8,fD "Number" 3 2 32,fD "Rows" 26 3 40,fD "Sign" 5 4 64])),(111,(.struct #[fD "Group" 4 0 0,fD "Set" 69 1 8,fD "Number" 3 2 32,fD "Rows" 26 3 40,fD "Sign" 5 4 64])),(112,(.func #[] #[111] false)),(113,(.func #[26] #[4] false)),(114,(.func #[111,3] #[3] false)),(115,(.func #[9,5] #[3] false)),(116,(.pointer 5)),(117,(.func #[3] #[91] false)),(118,(.func #[91,3] #[] false)),(119,(.int .u64)),(121,(.func #[119,119] #[119,119] false)),(122,(.func #[38] #[38] false)),(123,(.func #[5] #[69] false)),(125,(.func #[124] #[124] false)),(127,(.func #[] #[5,4] false)),(128,(.func #[91] #[91] false)),(129,(.int .u32)),(131,(.func #[129,129] #[129,129] false)),(132,(.int .u64)),(134,(.func #[132,132] #[132,132] false)),(135,(.array 256 4)),(136,(.array 256 4)),(137,(.func #[5] #[99] false)),(138,(.func #[] #[99] false)),(139,(.func #[] #[5] false)),(142,(.array 0 16)),(145,(.int .u8)),(146,(.int .u8)),(147,(.func #[124,124] #[4] false)),(148,(.int .i32)),(149,(.int .i32)),(150,(.struct #[fD "Size_" 12 0 0,fD "PtrBytes" 12 1 8,fD "Hash" 129 2 16,fD "TFlag" 145 3 20,fD "Align_" 5 4 21,fD "FieldAlign_" 5 5 22,fD "Kind_" 146 6 23,fD "Equal" 147 7 24,fD "GCData" 116 8 32,fD "Str" 148 9 40,fD "PtrToThis" 149 10 44])),(151,(.struct #[fD "Size_" 12 0 0,fD "PtrBytes" 12 1 8,fD "Hash" 129 2 16,fD "TFlag" 145 3 20,fD "Align_" 5 4 21,fD "FieldAlign_" 5 5 22,fD "Kind_" 146 6 23,fD "Equal" 147 7 24,fD "GCData" 116 8 32,fD "Str" 148 9 40,fD "PtrToThis" 149 10 44]))]
def TSz:List (Nat × (Nat × Nat)):=[(1,(1,8)),(2,(1,8)),(3,(1,8)),(4,(1,1)),(5,(1,1)),(6,(1,1)),(9,(1,16)),(10,(1,16)),(11,(1,16)),(12,(1,8)),(15,(1,8)),(16,(1,8)),(17,(1,8)),(20,(1,16)),(21,(1,4)),(22,(1,24)),(23,(1,8)),(25,(1,8)),(26,(1,24)),(27,(2,16)),(28,(2,16)),(30,(1,8)),(31,(1,8)),(33,(1,8)),(34,(1,8)),(35,(1,8)),(37,(1,8)),(38,(1,24)),(40,(1,8)),(42,(1,8)),(43,(1,8)),(44,(1,8)),(45,(1,8)),(46,(1,24)),(47,(1,8)),(48,(1,8)),(49,(1,8)),(50,(1,8)),(52,(1,8)),(53,(1,8)),(54,(1,8)),(56,(1,8)),(57,(1,8)),(58,(1,8)),(59,(5,48)),(60,(5,48)),(61,(1,8)),(62,(1,8)),(63,(1,8)),(64,(1,24)),(65,(1,24)),(66,(1,24)),(67,(1,8)),(68,(1,8)),(69,(1,24)),(70,(5,56)),(71,(5,56)),(72,(1,8)),(73,(5,96)),(74,(5,96)),(75,(1,8)),(76,(1,24)),(78,(1,8)),(79,(1,8)),(80,(2,32)),(81,(2,32)),(82,(2,24)),(83,(2,24)),(84,(1,8)),(85,(1,16)),(86,(1,16)),(88,(1,8)),(89,(1,8)),(90,(1,8)),(91,(1,24)),(92,(2,32)),(93,(2,32)),(95,(1,8)),(96,(4,56)),(97,(4,56)),(98,(1,8)),(99,(1,8)),(100,(4,32)),(101,(4,32)),(102,(1,8)),(103,(1,24)),(104,(1,8)),(105,(1,8)),(106,(2,32)),(107,(2,32)),(108,(1,8)),(109,(1,24)),(110,(5,72)),(111,(5,72)),(112,(1,8)),(113,(1,8)),(114,(1,8)),(115,(1,8)),(116,(1,8)),(117,(1,8)),(118,(1,8)),(119,(1,8)),(121,(1,8)),(122,(1,8)),(123,(1,8)),(125,(1,8)),(127,(1,8)),(128,(1,8)),(129,(1,4)),(131,(1,8)),(132,(1,8)),(134,(1,8)),(135,(256,256)),(136,(256,256)),(137,(1,8)),(138,(1,8)),(139,(1,8)),(142,(0,0)),(145,(1,1)),(146,(1,1)),(147,(1,8)),(148,(1,4)),(149,(1,4)),(150,(11,48)),(151,(11,48))]
def Iz:Value:=.agg #[.bool false,.bool false,.bool false,.bool false,.bool false,.bool false,.bool false,.bool false,.bool false,.bool false,.bool false,.bool false,.bool false,.bool false,.bool false,.bool false,.bool false,.bool false,.bool false,.bool false,.bool false,.bool false,.bool false,.bool false,.bool false,.bool false,.bool false,.bool false,.bool false,.bool false,.bool false,.bool false,.bool false,.bool false,.bool false,.bool false,.bool false,.bool false,.bool false,.bool false,.bool false,.bool false,.bool false,.bool false,.bool false,.bool false,.bool false,.bool false,.bool false,.bool false,.bool false,.bool false,.bool false,.bool false,.bool false,.bool false,.bool false,.bool false,.bool false,.bool false,.bool false,.bool false,.bool false,.bool false,.bool false,.bool false,.bool false,.bool false,.bool false,.bool false,.bool false,.bool false,.bool false,.bool false,.bool false,.bool false,.bool false,.bool false,.bool false,.bool false,.bool false,.bool false,.bool false,.bool false,.bool false,.bool false,.bool false,.bool false,.bool false,.bool false,.bool false,.bool false,.bool false,.bool false,.bool false,.bool false,.bool false,.bool false,.bool false,.bool false,.bool false,.bool false,.bool false,.bool false,.bool false,.bool false,.bool false,.bool false,.bool false,.bool false,.bool false,.bool false,.bool false,.bool false,.bool false,.bool false,.bool false,.bool false,.bool false,.bool false,.bool false,.bool false,.bool false,.bool false,.bool false,.bool false,.bool false,.bool false,.bool false,.bool false,.bool false,.bool false,.bool false,.bool false,.bool false,.bool false,.bool false,.bool false,.bool false,.bool false,.bool false,.bool false,.bool false,.bool false,.bool false,.bool false,.bool false,.bool false,.bool false,.bool false,.bool false,.bool false,.bool false,.bool false,.bool false,.bool false,.bool false,.bool false,.bool false,.bool false,.bool false,.bool false,.bool false,.bool false,.bool false,.bool false,.bool false,.bool false,.bool false,.bool false,.bool false,.bool false,.bool false,.bool false,.bool false,.bool false,.bool false,.bool false,.bool false,.bool false,.bool false,.bool false,.bool false,.bool false,.bool false,.bool false,.bool false,.bool false,.bool false,.bool false,.bool false,.bool false,.bool false,.bool false,.bool false,.bool false,.bool false,.bool false,.bool false,.bool false,.bool false,.bool false,.bool false,.bool false,.bool false,.bool false,.bool false,.bool false,.bool false,.bool false,.bool false,.bool false,.bool false,.bool false,.bool false,.bool false,.bool false,.bool false,.bool false,.bool false,.bool false,.bool false,.bool false,.bool false,.bool false,.bool false,.bool false,.bool false,.bool false,.bool false,.bool false,.bool false,.bool false,.bool false,.bool false,.bool false,.bool false,.bool false,.bool false,.bool false,.bool false,.bool false,.bool false,.bool false,.bool false,.bool false,.bool false,.bool false,.bool false,.bool false,.bool false,.bool false,.bool false,.bool false,.bool false,.bool false]
def Uz:Value:=Iz
def TZr:List (Nat × Value):=[(1,.nilFunc),(2,.int .i64 0),(3,.int .i64 0),(4,.bool false),(5,.int .u8 0),(6,.int .u8 0),(9,.string ByteArray.empty),(10,.string ByteArray.empty),(11,.string ByteArray.empty),(12,.int .u64 0),(15,.pointer none),(16,.pointer none),(17,.pointer none),(20,.nilIface),(21,.int .i32 0),(22,.slice none 0 0),(23,.int .i64 0),(25,.nilFunc),(26,.slice none 0 0),(27,.agg #[.int .i64 0,.int .i64 0]),(28,.agg #[.int .i64 0,.int .i64 0]),(30,.nilFunc),(31,.nilFunc),(33,.nilFunc),(34,.nilFunc),(35,.nilFunc),(37,.nilFunc),(38,.slice none 0 0),(40,.nilFunc),(42,.nilFunc),(43,.nilFunc),(44,.nilFunc),(45,.nilFunc),(46,.slice none 0 0),(47,.nilFunc),(48,.nilFunc),(49,.nilFunc),(50,.nilFunc),(52,.nilFunc),(53,.nilFunc),(54,.pointer none),(56,.nilFunc),(57,.nilFunc),(58,.pointer none),(59,.agg #[.string ByteArray.empty,.int .i64 0,.int .i64 0,.int .i64 0,.int .i64 0]),(60,.agg #[.string ByteArray.empty,.int .i64 0,.int .i64 0,.int .i64 0,.int .i64 0]),(61,.nilFunc),(62,.nilFunc),(63,.pointer none),(64,.slice none 0 0),(65,.agg #[.slice none 0 0]),(66,.agg #[.slice none 0 0]),(67,.nilFunc),(68,.nilFunc),(69,.slice none 0 0),(70,.agg #[.int .i64 0,.int .i64 0,.int .i64 0,.int .i64 0,.slice none 0 0]),(71,.agg #[.int .i64 0,.int .i64 0,.int .i64 0,.int .i64 0,.slice none 0 0]),(72,.pointer none),(73,.agg #[.pointer none,.string ByteArray.empty,.slice none 0 0,.slice none 0 0,.slice none 0 0]),(74,.agg #[.pointer none,.string ByteArray.empty,.slice none 0 0,.slice none 0 0,.slice none 0 0]),(75,.nilFunc),(76,.slice none 0 0),(78,.nilFunc),(79,.pointer none),(80,.agg #[.pointer none,.slice none 0 0]),(81,.agg #[.pointer none,.slice none 0 0]),(82,.agg #[.string ByteArray.empty,.int .i64 0]),(83,.agg #[.string ByteArray.empty,.int .i64 0]),(84,.nilFunc),(85,.nilIface),(86,.nilIface),(88,.nilFunc),(89,.nilFunc),(90,.nilFunc),(91,.slice none 0 0),(92,.agg #[.int .i64 0,.slice none 0 0]),(93,.agg #[.int .i64 0,.slice none 0 0]),(95,.pointer none),(96,.agg #[.string ByteArray.empty,.int .i64 0,.int .i64 0,.slice none 0 0]),(97,.agg #[.string ByteArray.empty,.int .i64 0,.int .i64 0,.slice none 0 0]),(98,.nilFunc),(99,.pointer none),(100,.agg #[.int .i64 0,.int .i64 0,.int .i64 0,.pointer none]),(101,.agg #[.int .i64 0,.int .i64 0,.int .i64 0,.pointer none]),(102,.nilFunc),(103,.slice none 0 0),(104,.nilFunc),(105,.map none),(106,.agg #[.int .i64 0,.slice none 0 0]),(107,.agg #[.int .i64 0,.slice none 0 0]),(108,.nilFunc),(109,.slice none 0 0),(110,.agg #[.bool false,.slice none 0 0,.int .i64 0,.slice none 0 0,.int .u8 0]),(111,.agg #[.bool false,.slice none 0 0,.int .i64 0,.slice none 0 0,.int .u8 0]),(112,.nilFunc),(113,.nilFunc),(114,.nilFunc),(115,.nilFunc),(116,.pointer none),(117,.nilFunc),(118,.nilFunc),(119,.int .u64 0),(121,.nilFunc),(122,.nilFunc),(123,.nilFunc),(125,.nilFunc),(127,.nilFunc),(128,.nilFunc),(129,.int .u32 0),(131,.nilFunc),(132,.int .u64 0),(134,.nilFunc),(135,Iz),(136,Uz),(137,.nilFunc),(138,.nilFunc),(139,.nilFunc),(142,.agg #[]),(145,.int .u8 0),(146,.int .u8 0),(147,.nilFunc),(148,.int .i32 0),(149,.int .i32 0),(150,.agg #[.int .u64 0,.int .u64 0,.int .u32 0,.int .u8 0,.int .u8 0,.int .u8 0,.int .u8 0,.nilFunc,.pointer none,.int .i32 0,.int .i32 0]),(151,.agg #[.int .u64 0,.int .u64 0,.int .u32 0,.int .u8 0,.int .u8 0,.int .u8 0,.int .u8 0,.nilFunc,.pointer none,.int .i32 0,.int .i32 0])]
set_option maxRecDepth 100000 in
def VN:TTy.map (fun p=>Try.prog.underlying p.1)=TTy.map (fun p=>some p.2):=by kernel_rfl
set_option maxRecDepth 100000 in
def VW:(TSz.all fun p=>(Try.prog.info? p.1).any fun i=>i.size==p.2.1 && i.bytes==p.2.2 && i.zero.any (fun z=>z.cells.size==p.2.1))=true:=by kernel_rfl
set_option maxRecDepth 100000 in
def RH:TZr.map (fun p=>(Try.prog.info? p.1).bind (·.zero))=TZr.map (fun p=>some p.2):=by kernel_rfl
set_option maxRecDepth 100000 in
def TT:Tys Try.prog where
 ty:=TTy
 sz:=TSz
 zr:=TZr
 tyOk:=fun t d h=>List.map_inj_left.1 VN _ (db h)
 szOk:=fun t s b h=>by have h1:=ZL.1 VW _ (db h);simp only[Option.any_eq_true_iff_get,Bool.and_eq_true,beq_iff_eq] at h1;obtain⟨hs,⟨h2,h3⟩,hz,h4⟩:=h1;exact⟨_,(Option.some_get hs).symm,h2,h3,_,(Option.some_get hz).symm,h4⟩
 zrOk:=fun t z h=>by have h1:=List.map_inj_left.1 RH _ (db h);simp only[Option.bind_eq_some_iff] at h1;exact h1
def mixed:Try.prog.follows .mixedOrders=true:=by kernel_rfl
structure VboundsError where
 x:Int
 y:Int
 signed:Bool
 code:UInt8
structure VerrorAddressString where
 msg:List UInt8
 addr:Int
structure VFault where
 Err:Int
 At:Int
structure VReader where
 M:List UInt8
 At:Int
 Groups:Int
 F:VFault
structure VSpot where
 Kind:Int
 A:Int
 B:Int
 Number:Int
 Set:List Bool
structure VLayout where
 Spots:List VSpot
structure Vpiece where
 text:List UInt8
 group:Int
structure Vstep where
 kind:Int
 a:Int
 b:Int
 set_:Option (List Bool)
structure VMask where
 Groups:Int
 steps:List Vstep
structure Vcompiler where
 m:List UInt8
 at_:Int
 groups:Int
 steps:List Vstep
structure Vthread where
 at_:Int
 slots:List Int
structure VPiece where
 Group:Bool
 Set:List Bool
 Number:Int
 Rows:List (List VPiece)
 Sign:UInt8
def Fs(n:Nat)(x:Option (List Bool)):AV:=match x with
 |none=>.v (.pointer none)
 |some l=>.el ((List.range n).map fun i=>.v (.bool (List.getD l i false)))
def fW(n:Nat)(x:Option (List Bool)):(Fs n x).one=true/\(Fs n x).rd=Fs n x:=by cases x<;> exact⟨rfl,rfl⟩
def EZ(E:Enc)(n:Nat)(x:Option (List Bool)):cells E (.ptr (.bits n)) x=[Fs n x] :=by cases x<;> rfl
def ET:Nat->Type
 |0=>VboundsError
 |1=>VerrorAddressString
 |2=>VFault
 |3=>VReader
 |4=>VSpot
 |5=>VLayout
 |6=>Vpiece
 |7=>Vstep
 |8=>VMask
 |9=>Vcompiler
 |10=>Vthread
 |11=>VPiece
 |_=>Unit
def cA(z:VboundsError):List AV:=[.v (.int .i64 z.x)] ++ [.v (.int .i64 z.y)] ++ [.v (.bool z.signed)] ++ [.v (.int .u8 (UInt8.toNat z.code))]
def bh(z:VerrorAddressString):List AV:=[.v (.string (mkB z.msg))] ++ [.v (.int .u64 z.addr)]
def em(z:VFault):List AV:=[.v (.int .i64 z.Err)] ++ [.v (.int .i64 z.At)]
def d8(z:VReader):List AV:=[.v (.string (mkB z.M))] ++ [.v (.int .i64 z.At)] ++ [.v (.int .i64 z.Groups)] ++em z.F
def fa(z:VSpot):List AV:=[.v (.int .i64 z.Kind)] ++ [.v (.int .i64 z.A)] ++ [.v (.int .i64 z.B)] ++ [.v (.int .i64 z.Number)] ++ [.sl false 1 (List.map (fun x=>[.v (.bool x)]) z.Set)]
def ed(z:VLayout):List AV:=[.sl false 5 (List.map (fun x=>fa x) z.Spots)]
def eL(z:Vpiece):List AV:=[.v (.string (mkB z.text))] ++ [.v (.int .i64 z.group)]
def ez(z:Vstep):List AV:=[.v (.int .i64 z.kind)] ++ [.v (.int .i64 z.a)] ++ [.v (.int .i64 z.b)] ++ [Fs 256 z.set_]
def fK(z:VMask):List AV:=[.v (.int .i64 z.Groups)] ++ [.sl false 4 (List.map (fun x=>ez x) z.steps)]
def dt(z:Vcompiler):List AV:=[.v (.string (mkB z.m))] ++ [.v (.int .i64 z.at_)] ++ [.v (.int .i64 z.groups)] ++ [.sl false 4 (List.map (fun x=>ez x) z.steps)]
def ec(z:Vthread):List AV:=[.v (.int .i64 z.at_)] ++ [.sl false 1 (List.map (fun x=>[.v (.int .i64 x)]) z.slots)]
def cj:VPiece->List AV
 | ⟨a0,a1,a2,a3,a4⟩=>[.v (.bool a0)] ++ [.sl false 1 (List.map (fun x=>[.v (.bool x)]) a1)] ++ [.v (.int .i64 a2)] ++ [.sl false 1 (rows a3)] ++ [.v (.int .u8 (UInt8.toNat a4))]
 where
  row:List VPiece->List (List AV)
   | [] =>[]
   |p::r=>cj p::row r
  rows:List (List VPiece)->List (List AV)
   | [] =>[]
   |p::r=>[.sl false 5 (row p)] ::rows r
def qd:∀l,cj.row l=l.map cj
 | [] =>rfl
 |p::r=>by rw[cj.row,qd r];rfl
def po:∀l,cj.rows l=l.map fun r=>[.sl false 5 (r.map cj)]
 | [] =>rfl
 |p::r=>by rw[cj.rows,po r,qd];rfl
def kD(z:VPiece):cj z=[.v (.bool z.Group)] ++ [.sl false 1 (List.map (fun x=>[.v (.bool x)]) z.Set)] ++ [.v (.int .i64 z.Number)] ++ [.sl false 1 (List.map (fun x=>[.sl false 5 (List.map (fun x=>cj x) x)]) z.Rows)] ++ [.v (.int .u8 (UInt8.toNat z.Sign))] :=by cases z;rw[cj,po]
def wR:∀i,ET i->List AV
 |0,z=>cA z
 |1,z=>bh z
 |2,z=>em z
 |3,z=>d8 z
 |4,z=>fa z
 |5,z=>ed z
 |6,z=>eL z
 |7,z=>ez z
 |8,z=>fK z
 |9,z=>dt z
 |10,z=>ec z
 |11,z=>cj z
 |_+12,_=>[]
def szE:Nat->Nat
 |0=>4
 |1=>2
 |2=>2
 |3=>5
 |4=>5
 |5=>1
 |6=>2
 |7=>4
 |8=>2
 |9=>4
 |10=>2
 |11=>5
 |_=>0
def xR(z:VPiece):(cj z).length=5:=by rw[kD];rfl
def yx(z:VPiece):∀u∈cj z,u.one=true/\u.rd=u:=by intro u hu;rw[kD] at hu;simp only[List.cons_append,List.nil_append,List.mem_cons,List.not_mem_nil,or_false] at hu;rcases hu with rfl|rfl|rfl|rfl|rfl<;> first|exact⟨rfl,rfl⟩|exact fW _ _
def ECC:Enc where
 T:=ET
 enc:=wR
 sz:=szE
 len:=fun i z=>match i,z with
  |0,z=>rfl
  |1,z=>rfl
  |2,z=>rfl
  |3,z=>rfl
  |4,z=>rfl
  |5,z=>rfl
  |6,z=>rfl
  |7,z=>rfl
  |8,z=>rfl
  |9,z=>rfl
  |10,z=>rfl
  |11,z=>xR z
  |_+12,_=>rfl
 one:=fun i z=>match i,z with
  |0,z=>by intro u hu;simp only[wR,cA,bh,em,d8,fa,ed,eL,ez,fK,dt,ec,cj,List.cons_append,List.nil_append,List.mem_cons,List.not_mem_nil,or_false] at hu;rcases hu with rfl|rfl|rfl|rfl<;> first|exact⟨rfl,rfl⟩|exact fW _ _
  |1,z=>by intro u hu;simp only[wR,cA,bh,em,d8,fa,ed,eL,ez,fK,dt,ec,cj,List.cons_append,List.nil_append,List.mem_cons,List.not_mem_nil,or_false] at hu;rcases hu with rfl|rfl<;> first|exact⟨rfl,rfl⟩|exact fW _ _
  |2,z=>by intro u hu;simp only[wR,cA,bh,em,d8,fa,ed,eL,ez,fK,dt,ec,cj,List.cons_append,List.nil_append,List.mem_cons,List.not_mem_nil,or_false] at hu;rcases hu with rfl|rfl<;> first|exact⟨rfl,rfl⟩|exact fW _ _
  |3,z=>by intro u hu;simp only[wR,cA,bh,em,d8,fa,ed,eL,ez,fK,dt,ec,cj,List.cons_append,List.nil_append,List.mem_cons,List.not_mem_nil,or_false] at hu;rcases hu with rfl|rfl|rfl|rfl|rfl<;> first|exact⟨rfl,rfl⟩|exact fW _ _
  |4,z=>by intro u hu;simp only[wR,cA,bh,em,d8,fa,ed,eL,ez,fK,dt,ec,cj,List.cons_append,List.nil_append,List.mem_cons,List.not_mem_nil,or_false] at hu;rcases hu with rfl|rfl|rfl|rfl|rfl<;> first|exact⟨rfl,rfl⟩|exact fW _ _
  |5,z=>by intro u hu;simp only[wR,cA,bh,em,d8,fa,ed,eL,ez,fK,dt,ec,cj,List.cons_append,List.nil_append,List.mem_cons,List.not_mem_nil,or_false] at hu;rcases hu with rfl<;> first|exact⟨rfl,rfl⟩|exact fW _ _
  |6,z=>by intro u hu;simp only[wR,cA,bh,em,d8,fa,ed,eL,ez,fK,dt,ec,cj,List.cons_append,List.nil_append,List.mem_cons,List.not_mem_nil,or_false] at hu;rcases hu with rfl|rfl<;> first|exact⟨rfl,rfl⟩|exact fW _ _
  |7,z=>by intro u hu;simp only[wR,cA,bh,em,d8,fa,ed,eL,ez,fK,dt,ec,cj,List.cons_append,List.nil_append,List.mem_cons,List.not_mem_nil,or_false] at hu;rcases hu with rfl|rfl|rfl|rfl<;> first|exact⟨rfl,rfl⟩|exact fW _ _
  |8,z=>by intro u hu;simp only[wR,cA,bh,em,d8,fa,ed,eL,ez,fK,dt,ec,cj,List.cons_append,List.nil_append,List.mem_cons,List.not_mem_nil,or_false] at hu;rcases hu with rfl|rfl<;> first|exact⟨rfl,rfl⟩|exact fW _ _
  |9,z=>by intro u hu;simp only[wR,cA,bh,em,d8,fa,ed,eL,ez,fK,dt,ec,cj,List.cons_append,List.nil_append,List.mem_cons,List.not_mem_nil,or_false] at hu;rcases hu with rfl|rfl|rfl|rfl<;> first|exact⟨rfl,rfl⟩|exact fW _ _
  |10,z=>by intro u hu;simp only[wR,cA,bh,em,d8,fa,ed,eL,ez,fK,dt,ec,cj,List.cons_append,List.nil_append,List.mem_cons,List.not_mem_nil,or_false] at hu;rcases hu with rfl|rfl<;> first|exact⟨rfl,rfl⟩|exact fW _ _
  |11,z=>yx z
  |_+12,_=>by intro u hu;cases hu
def Xa:∀i,ET i->List (TA ET)
 |0,z=>[.d (.int .i64) z.x,.d (.int .i64) z.y,.d .bool z.signed,.d .byte z.code]
 |1,z=>[.d .str z.msg,.d (.int .u64) z.addr]
 |2,z=>[.d (.int .i64) z.Err,.d (.int .i64) z.At]
 |3,z=>[.d .str z.M,.d (.int .i64) z.At,.d (.int .i64) z.Groups,.d (.int .i64) z.F.Err,.d (.int .i64) z.F.At]
 |4,z=>[.d (.int .i64) z.Kind,.d (.int .i64) z.A,.d (.int .i64) z.B,.d (.int .i64) z.Number,.d (.sl .bool) z.Set]
 |5,z=>[.d (.sl (.nam 4)) z.Spots]
 |6,z=>[.d .str z.text,.d (.int .i64) z.group]
 |7,z=>[.d (.int .i64) z.kind,.d (.int .i64) z.a,.d (.int .i64) z.b,.d (.ptr (.bits 256)) z.set_]
 |8,z=>[.d (.int .i64) z.Groups,.d (.sl (.nam 7)) z.steps]
 |9,z=>[.d .str z.m,.d (.int .i64) z.at_,.d (.int .i64) z.groups,.d (.sl (.nam 7)) z.steps]
 |10,z=>[.d (.int .i64) z.at_,.d (.sl (.int .i64)) z.slots]
 |11,z=>[.d .bool z.Group,.d (.sl .bool) z.Set,.d (.int .i64) z.Number,.d (.sl (.sl (.nam 11))) z.Rows,.d .byte z.Sign]
 |_+12,_=>[]
def kY(l:List (TA ET)):Option (VboundsError × List (TA ET)):=
 match pkL (.int .i64) l with
 |none=>none
 |some (a0,l)=>
  match pkL (.int .i64) l with
  |none=>none
  |some (a1,l)=>
   match pkL .bool l with
   |none=>none
   |some (a2,l)=>
    match pkL .byte l with
    |none=>none
    |some (a3,l)=>some (⟨a0,a1,a2,a3⟩,l)
def tq(l:List (TA ET))(z:VboundsError)(r:List (TA ET))(I:Rn)(h:kY l=some (z,r)):LeL (l.map fun a=>(a.rd.to ECC I)) (cA z++r.map fun a=>(a.rd.to ECC I)):=by
 unfold kY at h;split at h
 ·cases h
 ·rename_i a0 l0 h0;split at h
  ·cases h
  ·rename_i a1 l1 h1;split at h
   ·cases h
   ·rename_i a2 l2 h2;split at h
    ·cases h
    ·rename_i a3 l3 h3;cases h;have hh:=(dx ECC I rfl h0).trans ((LeL.refl _).append ((dx ECC I rfl h1).trans ((LeL.refl _).append ((dx ECC I rfl h2).trans ((LeL.refl _).append (dx ECC I rfl h3))))));exact hh
def gL(l:List (TA ET)):Option (VerrorAddressString × List (TA ET)):=
 match pkL .str l with
 |none=>none
 |some (a0,l)=>
  match pkL (.int .u64) l with
  |none=>none
  |some (a1,l)=>some (⟨a0,a1⟩,l)
def mE(l:List (TA ET))(z:VerrorAddressString)(r:List (TA ET))(I:Rn)(h:gL l=some (z,r)):LeL (l.map fun a=>(a.rd.to ECC I)) (bh z++r.map fun a=>(a.rd.to ECC I)):=by
 unfold gL at h;split at h
 ·cases h
 ·rename_i a0 l0 h0;split at h
  ·cases h
  ·rename_i a1 l1 h1;cases h;have hh:=(dx ECC I rfl h0).trans ((LeL.refl _).append (dx ECC I rfl h1));exact hh
def rj(l:List (TA ET)):Option (VFault × List (TA ET)):=
 match pkL (.int .i64) l with
 |none=>none
 |some (a0,l)=>
  match pkL (.int .i64) l with
  |none=>none
  |some (a1,l)=>some (⟨a0,a1⟩,l)
def tV(l:List (TA ET))(z:VFault)(r:List (TA ET))(I:Rn)(h:rj l=some (z,r)):LeL (l.map fun a=>(a.rd.to ECC I)) (em z++r.map fun a=>(a.rd.to ECC I)):=by
 unfold rj at h;split at h
 ·cases h
 ·rename_i a0 l0 h0;split at h
  ·cases h
  ·rename_i a1 l1 h1;cases h;have hh:=(dx ECC I rfl h0).trans ((LeL.refl _).append (dx ECC I rfl h1));exact hh
def th(l:List (TA ET)):Option (VReader × List (TA ET)):=
 match pkL .str l with
 |none=>none
 |some (a0,l)=>
  match pkL (.int .i64) l with
  |none=>none
  |some (a1,l)=>
   match pkL (.int .i64) l with
   |none=>none
   |some (a2,l)=>
    match rj l with
    |none=>none
    |some (a3,l)=>some (⟨a0,a1,a2,a3⟩,l)
def Am(l:List (TA ET))(z:VReader)(r:List (TA ET))(I:Rn)(h:th l=some (z,r)):LeL (l.map fun a=>(a.rd.to ECC I)) (d8 z++r.map fun a=>(a.rd.to ECC I)):=by
 unfold th at h;split at h
 ·cases h
 ·rename_i a0 l0 h0;split at h
  ·cases h
  ·rename_i a1 l1 h1;split at h
   ·cases h
   ·rename_i a2 l2 h2;split at h
    ·cases h
    ·rename_i a3 l3 h3;cases h;have hh:=(dx ECC I rfl h0).trans ((LeL.refl _).append ((dx ECC I rfl h1).trans ((LeL.refl _).append ((dx ECC I rfl h2).trans ((LeL.refl _).append (tV _ _ _ I h3))))));exact hh
def zI(l:List (TA ET)):Option (VSpot × List (TA ET)):=
 match pkL (.int .i64) l with
 |none=>none
 |some (a0,l)=>
  match pkL (.int .i64) l with
  |none=>none
  |some (a1,l)=>
   match pkL (.int .i64) l with
   |none=>none
   |some (a2,l)=>
    match pkL (.int .i64) l with
    |none=>none
    |some (a3,l)=>
     match pkL (.sl .bool) l with
     |none=>none
     |some (a4,l)=>some (⟨a0,a1,a2,a3,a4⟩,l)
def FC(l:List (TA ET))(z:VSpot)(r:List (TA ET))(I:Rn)(h:zI l=some (z,r)):LeL (l.map fun a=>(a.rd.to ECC I)) (fa z++r.map fun a=>(a.rd.to ECC I)):=by
 unfold zI at h;split at h
 ·cases h
 ·rename_i a0 l0 h0;split at h
  ·cases h
  ·rename_i a1 l1 h1;split at h
   ·cases h
   ·rename_i a2 l2 h2;split at h
    ·cases h
    ·rename_i a3 l3 h3;split at h
     ·cases h
     ·rename_i a4 l4 h4;cases h;have hh:=(dx ECC I rfl h0).trans ((LeL.refl _).append ((dx ECC I rfl h1).trans ((LeL.refl _).append ((dx ECC I rfl h2).trans ((LeL.refl _).append ((dx ECC I rfl h3).trans ((LeL.refl _).append (dx ECC I rfl h4))))))));exact hh
def tc(l:List (TA ET)):Option (VLayout × List (TA ET)):=
 match pkL (.sl (.nam 4)) l with
 |none=>none
 |some (a0,l)=>some (⟨a0⟩,l)
def Ap(l:List (TA ET))(z:VLayout)(r:List (TA ET))(I:Rn)(h:tc l=some (z,r)):LeL (l.map fun a=>(a.rd.to ECC I)) (ed z++r.map fun a=>(a.rd.to ECC I)):=by
 unfold tc at h;split at h
 ·cases h
 ·rename_i a0 l0 h0;cases h;have hh:=dx ECC I rfl h0;exact hh
def vY(l:List (TA ET)):Option (Vpiece × List (TA ET)):=
 match pkL .str l with
 |none=>none
 |some (a0,l)=>
  match pkL (.int .i64) l with
  |none=>none
  |some (a1,l)=>some (⟨a0,a1⟩,l)
def CQ(l:List (TA ET))(z:Vpiece)(r:List (TA ET))(I:Rn)(h:vY l=some (z,r)):LeL (l.map fun a=>(a.rd.to ECC I)) (eL z++r.map fun a=>(a.rd.to ECC I)):=by
 unfold vY at h;split at h
 ·cases h
 ·rename_i a0 l0 h0;split at h
  ·cases h
  ·rename_i a1 l1 h1;cases h;have hh:=(dx ECC I rfl h0).trans ((LeL.refl _).append (dx ECC I rfl h1));exact hh
def zU(l:List (TA ET)):Option (Vstep × List (TA ET)):=
 match pkL (.int .i64) l with
 |none=>none
 |some (a0,l)=>
  match pkL (.int .i64) l with
  |none=>none
  |some (a1,l)=>
   match pkL (.int .i64) l with
   |none=>none
   |some (a2,l)=>
    match pkL (.ptr (.bits 256)) l with
    |none=>none
    |some (a3,l)=>some (⟨a0,a1,a2,a3⟩,l)
def E4(l:List (TA ET))(z:Vstep)(r:List (TA ET))(I:Rn)(h:zU l=some (z,r)):LeL (l.map fun a=>(a.rd.to ECC I)) (ez z++r.map fun a=>(a.rd.to ECC I)):=by
 unfold zU at h;split at h
 ·cases h
 ·rename_i a0 l0 h0;split at h
  ·cases h
  ·rename_i a1 l1 h1;split at h
   ·cases h
   ·rename_i a2 l2 h2;split at h
    ·cases h
    ·rename_i a3 l3 h3;cases h;have hh:=(dx ECC I rfl h0).trans ((LeL.refl _).append ((dx ECC I rfl h1).trans ((LeL.refl _).append ((dx ECC I rfl h2).trans ((LeL.refl _).append ((EZ ECC 256 a3 ▸ dx ECC I rfl h3)))))));exact hh
def xO(l:List (TA ET)):Option (VMask × List (TA ET)):=
 match pkL (.int .i64) l with
 |none=>none
 |some (a0,l)=>
  match pkL (.sl (.nam 7)) l with
  |none=>none
  |some (a1,l)=>some (⟨a0,a1⟩,l)
def FJ(l:List (TA ET))(z:VMask)(r:List (TA ET))(I:Rn)(h:xO l=some (z,r)):LeL (l.map fun a=>(a.rd.to ECC I)) (fK z++r.map fun a=>(a.rd.to ECC I)):=by
 unfold xO at h;split at h
 ·cases h
 ·rename_i a0 l0 h0;split at h
  ·cases h
  ·rename_i a1 l1 h1;cases h;have hh:=(dx ECC I rfl h0).trans ((LeL.refl _).append (dx ECC I rfl h1));exact hh
def pa(l:List (TA ET)):Option (Vcompiler × List (TA ET)):=
 match pkL .str l with
 |none=>none
 |some (a0,l)=>
  match pkL (.int .i64) l with
  |none=>none
  |some (a1,l)=>
   match pkL (.int .i64) l with
   |none=>none
   |some (a2,l)=>
    match pkL (.sl (.nam 7)) l with
    |none=>none
    |some (a3,l)=>some (⟨a0,a1,a2,a3⟩,l)
def wQ(l:List (TA ET))(z:Vcompiler)(r:List (TA ET))(I:Rn)(h:pa l=some (z,r)):LeL (l.map fun a=>(a.rd.to ECC I)) (dt z++r.map fun a=>(a.rd.to ECC I)):=by
 unfold pa at h;split at h
 ·cases h
 ·rename_i a0 l0 h0;split at h
  ·cases h
  ·rename_i a1 l1 h1;split at h
   ·cases h
   ·rename_i a2 l2 h2;split at h
    ·cases h
    ·rename_i a3 l3 h3;cases h;have hh:=(dx ECC I rfl h0).trans ((LeL.refl _).append ((dx ECC I rfl h1).trans ((LeL.refl _).append ((dx ECC I rfl h2).trans ((LeL.refl _).append (dx ECC I rfl h3))))));exact hh
def tz(l:List (TA ET)):Option (Vthread × List (TA ET)):=
 match pkL (.int .i64) l with
 |none=>none
 |some (a0,l)=>
  match pkL (.sl (.int .i64)) l with
  |none=>none
  |some (a1,l)=>some (⟨a0,a1⟩,l)
def Aj(l:List (TA ET))(z:Vthread)(r:List (TA ET))(I:Rn)(h:tz l=some (z,r)):LeL (l.map fun a=>(a.rd.to ECC I)) (ec z++r.map fun a=>(a.rd.to ECC I)):=by
 unfold tz at h;split at h
 ·cases h
 ·rename_i a0 l0 h0;split at h
  ·cases h
  ·rename_i a1 l1 h1;cases h;have hh:=(dx ECC I rfl h0).trans ((LeL.refl _).append (dx ECC I rfl h1));exact hh
def vc(l:List (TA ET)):Option (VPiece × List (TA ET)):=
 match pkL .bool l with
 |none=>none
 |some (a0,l)=>
  match pkL (.sl .bool) l with
  |none=>none
  |some (a1,l)=>
   match pkL (.int .i64) l with
   |none=>none
   |some (a2,l)=>
    match pkL (.sl (.sl (.nam 11))) l with
    |none=>none
    |some (a3,l)=>
     match pkL .byte l with
     |none=>none
     |some (a4,l)=>some (⟨a0,a1,a2,a3,a4⟩,l)
def Du(l:List (TA ET))(z:VPiece)(r:List (TA ET))(I:Rn)(h:vc l=some (z,r)):LeL (l.map fun a=>(a.rd.to ECC I)) (cj z++r.map fun a=>(a.rd.to ECC I)):=by
 unfold vc at h;split at h
 ·cases h
 ·rename_i a0 l0 h0;split at h
  ·cases h
  ·rename_i a1 l1 h1;split at h
   ·cases h
   ·rename_i a2 l2 h2;split at h
    ·cases h
    ·rename_i a3 l3 h3;split at h
     ·cases h
     ·rename_i a4 l4 h4;cases h;have hh:=(dx ECC I rfl h0).trans ((LeL.refl _).append ((dx ECC I rfl h1).trans ((LeL.refl _).append ((dx ECC I rfl h2).trans ((LeL.refl _).append ((dx ECC I rfl h3).trans ((LeL.refl _).append (dx ECC I rfl h4))))))));rw[kD];exact hh
def HP(I:Rn)(z:VPiece):(Xa 11 z).map (TA.to ECC I)=cj z:=by rw[kD];rfl
def Lv(I:Rn)(z:Vstep):(Xa 7 z).map (TA.to ECC I)=ez z:=by obtain⟨a0,a1,a2,a3⟩:=z;cases a3<;>  rfl
def EE:Env where
 toEnc:=ECC
 unp:=Xa
 unp_to:=fun i z I=>match i,z with
  |0,z=>rfl
  |1,z=>rfl
  |2,z=>rfl
  |3,z=>rfl
  |4,z=>rfl
  |5,z=>rfl
  |6,z=>rfl
  |7,z=>Lv I z
  |8,z=>rfl
  |9,z=>rfl
  |10,z=>rfl
  |11,z=>HP I z
  |_+12,_=>rfl
 pk:=fun i l=>match i with
  |0=>kY l
  |1=>gL l
  |2=>rj l
  |3=>th l
  |4=>zI l
  |5=>tc l
  |6=>vY l
  |7=>zU l
  |8=>xO l
  |9=>pa l
  |10=>tz l
  |11=>vc l
  |_=>none
 pk_to:=fun i l z r I h=>match i,z,h with
  |0,z,h=>tq l z r I h
  |1,z,h=>mE l z r I h
  |2,z,h=>tV l z r I h
  |3,z,h=>Am l z r I h
  |4,z,h=>FC l z r I h
  |5,z,h=>Ap l z r I h
  |6,z,h=>CQ l z r I h
  |7,z,h=>E4 l z r I h
  |8,z,h=>FJ l z r I h
  |9,z,h=>wQ l z r I h
  |10,z,h=>Aj l z r I h
  |11,z,h=>Du l z r I h
  |_+12,z,h=>by cases h
 et:=[(22,(.sl .str)),(26,(.sl (.sl (.nam 11)))),(38,(.sl (.int .i64))),(46,(.sl .byte)),(64,(.sl (.nam 4))),(69,(.sl .bool)),(76,(.sl (.nam 6))),(91,(.sl (.nam 7))),(103,(.sl (.nam 10))),(109,(.sl (.nam 11)))]
 ct:=[(22,[(.sl .str)]),(26,[(.sl (.sl (.nam 11)))]),(38,[(.sl (.int .i64))]),(46,[(.sl .byte)]),(64,[(.sl (.nam 4))]),(65,[(.sl (.nam 4))]),(66,[(.sl (.nam 4))]),(69,[(.sl .bool)]),(70,[(.int .i64),(.int .i64),(.int .i64),(.int .i64),(.sl .bool)]),(71,[(.int .i64),(.int .i64),(.int .i64),(.int .i64),(.sl .bool)]),(73,[.bool,.str,(.sl .bool),(.sl (.int .i64)),(.sl (.int .i64))]),(74,[.bool,.str,(.sl .bool),(.sl (.int .i64)),(.sl (.int .i64))]),(76,[(.sl (.nam 6))]),(80,[.bool,(.sl .byte)]),(81,[.bool,(.sl .byte)]),(91,[(.sl (.nam 7))]),(92,[(.int .i64),(.sl (.nam 7))]),(93,[(.int .i64),(.sl (.nam 7))]),(96,[.str,(.int .i64),(.int .i64),(.sl (.nam 7))]),(97,[.str,(.int .i64),(.int .i64),(.sl (.nam 7))]),(103,[(.sl (.nam 10))]),(106,[(.int .i64),(.sl (.int .i64))]),(107,[(.int .i64),(.sl (.int .i64))]),(109,[(.sl (.nam 11))]),(110,[.bool,(.sl .bool),(.int .i64),(.sl (.sl (.nam 11))),.byte]),(111,[.bool,(.sl .bool),(.int .i64),(.sl (.sl (.nam 11))),.byte])]
 nf:=[103]
def EQT:List (Nat × List Ty):=[(28,[(.int .i64),(.int .i64)]),(83,[.str,(.int .i64)])]
def TP:EqOk Try.prog TT 28 [(.int .i64),(.int .i64)] :=⟨by kernel_rfl,by kernel_rfl,by kernel_rfl,by kernel_rfl⟩
def Sx:EqOk Try.prog TT 83 [.str,(.int .i64)] :=⟨by kernel_rfl,by kernel_rfl,by kernel_rfl,by kernel_rfl⟩
def cQ:∀p∈EQT,EqOk Try.prog TT p.1 p.2:=by simp only[EQT,List.forall_mem_cons];exact⟨TP,Sx,by simp⟩
section
variable {P:Program} (Y:Tys P) (E:Env) (G:Gam E) (lv:Lvs) (rs:List ResultVar)
end
end Go.Proofs.Ytlhjbhgkhpbnfaa
namespace Go.Proofs.Ytlhjbhgkhpbnfaa
open Go.RowKit Go.Lib P
set_option maxHeartbeats 1000000 in
set_option maxRecDepth 100000 in
def GT(s:ByteArray)(c:Int)(w:World):Calls Try.prog 59 #[.string s,.int .u8 c] w fun e w'=>e=.returned (.int .i64 (Lib.indexByte s.data.toList c.toNat.toUInt8))/\w'=w:=by
 go_enter Try.func59,Try.ntmps59
 go_wp2
 rw[run_callFunc_extern Try.func66 (by kernel_rfl) (by kernel_rfl) (by kernel_rfl) (e:=Extern.BytealgIndexByte.indexByte) (by kernel_rfl),Lib.run_indexByteString];simp only[Result.andThen];rw[Oper.upon_value]
 go_wp2
 go_ret
 exact⟨rfl,rfl⟩
def pg(N:Nat)(s:List UInt8)(c:UInt8):Option Int:=some (Lib.indexByte s c)
def qf(r:Int):TV EE.T:=.a (.d (.int .i64) r)
def lT(N:Nat):List (TV EE.T)->PV EE.T
 | [u0,u1] =>match nr .str u0,nr .byte u1 with
   |some x0,some x1=>.opt (pg N x0 x1) qf
   |_,_=>.bad
 |_=>.bad
def Tl(s:List UInt8)(c:UInt8)(I:Rn):aI Try.prog 59 (([.a (.d .str s),.a (.d .byte c)] :List (TV EE.T)).map (TV.to EE.toEnc I)) [] (fun out H=>out=.ret ((qf (Lib.indexByte s c)).to EE.toEnc I)/\H=[]):=by
 refine wN (vs:=[.string (mkB s),.int .u8 ((UInt8.toNat c:Nat):Int)]) ⟨_,Try.func59,by kernel_rfl,by kernel_rfl⟩ fun w=> ?_;refine(GT (mkB s) ((UInt8.toNat c:Nat):Int) w).mono fun e w' ⟨h1,h2⟩=>⟨?_,?_⟩
 ·rw[h1,show(((UInt8.toNat c:Nat):Int)).toNat.toUInt8=c from UInt8.ofNat_toNat];rfl
 ·subst h2;exact Below.refl _ _
def vL(N:Nat)(us:List (TV EE.T)):(lT N us).ok fun u=>∀I,aI Try.prog 59 (us.map (TV.to EE.toEnc I)) [] (fun out H=>out=.ret (u.to EE.toEnc I)/\H=[]):=by
 unfold lT;split
 ·split
  ·rename_i u0 u1 x0 x1 h0 h1;intro z hz I;cases hz;exact gz (us':=([.a (.d .str x0),.a (.d .byte x1)] :List (TV EE.T))) ⟨fB h0 I,fB h1 I,trivial⟩ (Tl x0 x1 I)
  ·trivial
 ·trivial
end Go.Proofs.Ytlhjbhgkhpbnfaa
