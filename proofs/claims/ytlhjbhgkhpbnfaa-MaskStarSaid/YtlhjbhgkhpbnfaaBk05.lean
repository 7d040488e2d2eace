import Derived.Test.YtlhjbhgkhpbnfaaBk04
import Derived.Test.YtlhjbhgkhpbnfaaProg
import Derived.WalkKit
import Derived.Lib.Walk
import Derived.Lib.Strings
import Derived.Lib.Slices
import Derived.Lib.Bytealg
import Derived.BigCall
import Derived.BigGuard
set_option linter.unusedSimpArgs false
set_option linter.unusedVariables false
namespace Go.Proofs.Ytlhjbhgkhpbnfaa
open Go.RowKit P
set_option linter.unusedSimpArgs false
set_option linter.unusedVariables false
inductive Want where
 | yes
 | no
 | nor
 | sym (b want : Bool) (d : Nat)
 | bad
def nP {T : Nat → Type} (l : List Oper) (σ : TS T) (o : Oper) : Want :=
 match o.guard with
 | none => .yes
 | some (j, want) => match (l[j]?).bind (·.dst) with
   | some d => match Nat.ble (d + 1) σ.n with
     | true => match look σ.t d with
       | some (.a .tt) => (match want with | true => .yes | false => .no)
       | some (.a .ff) => (match want with | true => .no | false => .yes)
       | some (.a (.d .bool b)) => .sym b want d
       | some (.a (.raw (.tuple _))) => .nor
       | _ => .bad
     | false => .bad
   | none => .bad
def TS.know {T : Nat → Type} (σ : TS T) (d : Nat) (x : TA T) : TS T := { n := σ.n,t := (d,.a x) :: σ.t,h := σ.h,e := σ.e }
section
variable {P : Program} (Y : Tys P) (E : Env) (G : Gam E)
inductive OL (T : Nat → Type) where
 | st (σ : TS T)
 | pan (v : Value)
def bR {T : Nat → Type} (h : List (Nat × TB T)) : List Nat → Bool
 | [] => true
 | i :: r => match look h i, gH r i with
   | some _,false => bR h r
   | _,_ => false
def TS.give {T : Nat → Type} (σ : TS T) (ids : List Nat) (h' : List (Nat × TB T)) : TS T := { n := σ.n,t := σ.t,h := h' ++ dropHH ids σ.h,e := g7 σ.e }
def ud {T : Nat → Type} (σ : TS T) (d : Nat) : XR T → Tree (OL T)
 | .bad => .fail
 | .ret o ids u h => match bR σ.h ids && nvH (cq σ.h ids) with
   | true => .bnd o fun z => match nvH (h z) with
     | true => .leaf (.st ((σ.give ids (h z)).put d (u z)))
     | false => .fail
   | false => .fail
 | .may o ids u h => match bR σ.h ids && nvH (cq σ.h ids) with
   | true => .bnd o fun p => .sm p (fun z => match nvH (h z) with
     | true => .leaf (.st ((σ.give ids (h z)).put d (u z)))
     | false => .fail) fun v => .leaf (.pan v)
   | false => .fail
 | .mv o ids mv nw u h => match bR σ.h ids && yl ids mv nw d && qB (mvQ mv nw d) (dropHH ids σ.h) with
   | true => .bnd o fun p => .sm p (fun z => match (u z).ids (mvP ids nw) && qB (mvP ids nw) (h z) with
     | true => .leaf (.st ((σ.giveM ids mv nw d (nC (nmN nw d) (h z))).put d ((u z).ren (nmN nw d))))
     | false => .fail) fun v => .leaf (.pan v)
   | false => .fail
def xM {T : Nat → Type} (σ : TS T) (d : Nat) (x : XR T) : Tree (OL T) := match x with
 | .mv _ _ _ _ _ _ => .fail
 | x => ud σ d x
def JC (E : Env) (u : TV E.T) : Option Value := match u.ids fun _ => false with
 | true => FR (u.to E.toEnc Rn.zero)
 | false => none
def Jg : BinOp → Option Bool
 | .eql => some false
 | .neq => some true
 | _ => none
def nilV {T : Nat → Type} (b neg : Bool) : TV T := match b != neg with
 | true => .a .tt
 | false => .a .ff
def evX (o : Oper) (σ : TS E.T) : Tree (OL E.T) :=
 match o.dst with
 | some d => match Nat.ble (d + 1) σ.n with
   | true => match o.op with
     | .call { callee := .value (.func f), args := xs, argTypes := ats } => match xz G.x f with
       | true => match pQ σ xs.toList with
         | some us => ud σ d (xd G.x f (dz E [] us) σ.h)
         | none => .fail
       | false => (q6 Y E G o σ).bind fun σ' => .leaf (.st σ')
     | .call { callee := .value (.tmp s), args := xs, argTypes := ats } => match look σ.t s, pQ σ xs.toList with
       | some (.fn f caps), some us => match caps.all TA.plain with
         | true => ud σ d (xd G.x f (dz E [] us ++ caps.map .a) σ.h)
         | false => .fail
       | some (.a (.fnb f is)),some us => ud σ d (xd G.x f (dz E [] us ++ is.map fun i => .a (.box i 0)) σ.h)
       | _,_ => .fail
     | .binOp op t x y _ => match asL (opT σ x), opT σ y, look Y.ty t, op with
       | some ⟨_,l⟩,some (.a (.raw (.slice none 0 0))),some (.slice _),.eql => .nl l (.leaf (.st (σ.put d (.a .tt)))) (.leaf (.st (σ.put d (.a .ff))))
       | some ⟨_,l⟩,some (.a (.raw (.slice none 0 0))),some (.slice _),.neq => .nl l (.leaf (.st (σ.put d (.a .ff)))) (.leaf (.st (σ.put d (.a .tt))))
       | _, _, _, _ => match vc (opT σ x), opT σ y, look Y.ty t, Jg op with
         | some (ty, k, off, n), some (.a (.raw (.slice none 0 0))), some (.slice _), some neg => match lH σ.h ty k with
           | some l => .nl ((l.drop off).take n) (.leaf (.st (σ.put d (nilV true neg)))) (.leaf (.st (σ.put d (nilV false neg))))
           | none => .fail
         | _,_,_,_ => (q6 Y E G o σ).bind fun σ' => .leaf (.st σ')
     | _ => (q6 Y E G o σ).bind fun σ' => .leaf (.st σ')
   | false => .fail
 | none => match o.op with
   | .panic x => match opT σ x with
     | some u => match JC E u with
       | some v => .leaf (.pan v)
       | none => .fail
     | none => .fail
   | _ => (q6 Y E G o σ).bind fun σ' => .leaf (.st σ')
def wC {T : Nat → Type} (f : TS T → Tree (OL T)) : OL T → Tree (OL T)
 | .st σ => f σ
 | .pan v => .leaf (.pan v)
def kh (σ : TS E.T) (o : Oper) : Tree (TS E.T) :=
 match o.dst with
 | some d => match Nat.ble (d + 1) σ.n with
   | true => .leaf (σ.put d (.a (.raw undef)))
   | false => .fail
 | none => .fail
def jK (l : List Oper) : List Oper → TS E.T → Tree (OL E.T)
 | [],σ => .leaf (.st σ)
 | o :: rest, σ => match nP l σ o with
   | .yes => (evX Y E G o σ).bind (wC (jK l rest))
   | .no => (kh E σ o).bind (jK l rest)
   | .nor => (kh E σ o).bind (jK l rest)
   | .sym b true d => .cond b ((evX Y E G o (σ.know d .tt)).bind (wC (jK l rest))) ((kh E (σ.know d .ff) o).bind (jK l rest))
   | .sym b false d => .cond b ((kh E (σ.know d .tt) o).bind (jK l rest)) ((evX Y E G o (σ.know d .ff)).bind (wC (jK l rest)))
   | .bad => .fail
def evQ (o : Oper) (σ : TS E.T) : Tree (TS E.T) :=
 match o.dst with
 | some d => match Nat.ble (d + 1) σ.n with
   | true => match o.op with
     | .pick c x y => match opT σ c with
       | some (.a .tt) => match opT σ x with
         | some u => .leaf (σ.put d u.rd)
         | none => .fail
       | some (.a .ff) => match opT σ y with
         | some u => .leaf (σ.put d u.rd)
         | none => .fail
       | some (.a (.d .bool b)) => match opT σ x, opT σ y with
         | some u,some v => .cond b (.leaf (σ.put d u.rd)) (.leaf (σ.put d v.rd))
         | _,_ => .fail
       | _ => .fail
     | .buildSlice t 0 ⟨[]⟩ => match look Y.ty t, look E.et t with
       | some (.slice e), some (.sl ty) => match look Y.sz e with
         | some (sz, _) => match Nat.beq sz (csz E.toEnc ty) with
           | true => .leaf (σ.put d (.a (.clip ty [])))
           | false => .fail
         | none => .fail
       | _,_ => .fail
     | .call { callee := .builtin .append, args := ⟨[x, y]⟩, argTypes := ⟨[t, u]⟩ } => match opT σ x, look Y.ty t, look Y.ty u with
       | some (.a (.clip ty l)), some (.slice e), some du => match look Y.sz e, zz ty (opT σ y) with
         | some (sz, by_), some m => match pq du && Nat.ble 1 by_ && Nat.beq sz (csz E.toEnc ty) with
           | true => .nl m (.leaf (σ.put d (.a (.clip ty l)))) (.bnd (jD by_ l m) fun r => .leaf (σ.put d (.a (.own ty r))))
           | false => .fail
         | _,_ => .fail
       | _,_,_ => .fail
     | op => kU Y E G σ d op o.type
   | false => .fail
 | none => .fail
def qY (l : List Oper) : List Oper → TS E.T → Tree (TS E.T)
 | [],σ => .leaf σ
 | o :: rest, σ => match nP l σ o with
   | .yes => (evQ Y E G o σ).bind (qY l rest)
   | .no => (kh E σ o).bind (qY l rest)
   | .sym b true d => .cond b ((evQ Y E G o (σ.know d .tt)).bind (qY l rest)) ((kh E (σ.know d .ff) o).bind (qY l rest))
   | .sym b false d => .cond b ((kh E (σ.know d .tt) o).bind (qY l rest)) ((evQ Y E G o (σ.know d .ff)).bind (qY l rest))
   | _ => .fail
def bs0 (l : List Oper) (s : Nat) : Bool := l.any fun o => match o.dst, o.op with
 | some d,.buildSlice _ 0 ⟨[]⟩ => Nat.beq d s
 | _,_ => false
def K8 (xs bs : Nat → Bool) : Op → Bool
 | .store _ _ _ => true
 | .mapUpdate _ _ _ _ => true
 | .alloc _ => true
 | .box _ _ => true
 | .makeMap _ _ => true
 | .panic _ => true
 | .call { callee := .builtin .append,args := ⟨.tmp s :: _⟩,argTypes := _ } => !bs s
 | .call { callee := .builtin .append,args := _,argTypes := _ } => true
 | .call { callee := .value (.func f),args := _,argTypes := _ } => xs f
 | _ => false
def Jl (mu : List Nat) : Option Nat → Bool
 | some d => ub mu d
 | none => false
def sX (xs bs : Nat → Bool) (mu : List Nat) : List Oper → List Oper × List Oper
 | [] => ([],[])
 | o :: r => match Jl mu o.dst || K8 xs bs o.op with
   | true => ([],o :: r)
   | false => match sX xs bs mu r with
     | (a,b) => (o :: a,b)
def KQ {T : Nat → Type} (σ : TS T) (s : Nat) : Bool := match look σ.t s with
 | some (.a (.own _ _)) => true
 | _ => false
def TS.alsT {T : Nat → Type} (σ : TS T) (m : List (Nat × Nat)) : TS T := { n := σ.n,t := σ.t,h := σ.h,e := (m.filter fun p => KQ σ p.2).map (fun p => (p.1,Root.s p.2)) ++ σ.e }
def TS.withB {T : Nat → Type} (σ : TS T) (h : List (Nat × TB T)) : TS T := { n := σ.n,t := σ.t,h := h,e := σ.e }
def GI (σ : TS E.T) (t : TypeId) (k o n : Nat) (y : Operand) : Option (List (TA E.T)) :=
 match look σ.h k,opT σ y with
 | some (.cs cs), some u => match u.cs1 with
   | some vs => match Nat.beq vs.length n && Nat.ble (o + n) cs.length with
     | true => some (spl cs o (q9 ((look E.ct t).getD []) vs))
     | false => none
   | none => none
 | _,_ => none
def Lx (ops body : List Oper) (om oa : Oper) (after : List Oper) : Bool := match om.op with
 | .store _ _ _ => sH ops body om oa after
 | _ => false
def ER (ops body : List Oper) (om oa : Oper) (after : List Oper) (σ : TS E.T) : Tree (OL E.T) :=
 match om.op with
 | .store t x y => match opT σ x, look Y.sz t with
   | some (.a (.box kk _)), some (n, _) => match sH ops body om oa after && J7 σ.h kk with
     | true => (qY Y E G ops body (σ.withB (dq kk σ.h))).bind fun σ' => match opT σ' x with
       | some (.a (.box k2 p)) => match Nat.beq k2 kk with
         | true => match GI E (σ'.withB σ.h) t kk p n y with
           | some cs => jK Y E G ops (oa :: after) (((σ'.withB σ.h).setc kk cs).alsT (dN body))
           | none => .fail
         | false => .fail
       | _ => .fail
     | false => .fail
   | _,_ => .fail
 | _ => .fail
def Cy {T : Nat → Type} : TV T → Bool
 | .a (.d (.int _) _) => true
 | .a (.d .byte _) => true
 | .a (.d .bool _) => true
 | .a (.d .str _) => true
 | .a (.box _ _) => true
 | .a (.mpr _) => true
 | .a (.raw _) => true
 | .a .tt => true
 | .a .ff => true
 | .a (.bsl _ _ _ _) => true
 | .a (.vec _ _ _) => true
 | .a (.pel _ _ _ _) => true
 | .a (.vsl _ _ _ _) => true
 | _ => false
def Lb : Op → Bool
 | .move _ => true
 | .fieldAddr _ _ _ => true
 | .load _ _ => true
 | .binOp _ _ _ _ _ => true
 | .unOp _ _ _ => true
 | .index _ _ _ => true
 | .nilCheck _ => true
 | .slice _ _ _ _ _ => true
 | .convert _ _ _ => true
 | .call { callee := .builtin .len,args := _,argTypes := _ } => true
 | _ => false
def FH (xs bs : Nat → Bool) (mu nd : List Nat) (l : List Oper) : List Oper → List Nat → List Bool
 | [],_ => []
 | o :: r, cd => match Lb o.op && !(Jl mu o.dst || K8 xs bs o.op) && o.guard.isNone && o.dst.isSome && !(dw l o).any (ub cd) && !Jl nd o.dst with
   | true => true :: FH xs bs mu nd l r cd
   | false => false :: FH xs bs mu nd l r (match o.dst with | some d => d :: cd | none => cd)
def mNf (fl : List Bool) (i : Nat) : Bool := fl.getD i false
def wv : Nat → List Bool → List Nat
 | _,[] => []
 | k,true :: r => wv (k + 1) r
 | k,false :: r => k :: wv (k + 1) r
def uY (s : Nat) (o : Oper) : Bool := match o.dst with
 | some d => Nat.beq d s
 | none => false
def uo (l : List Oper) (σ : TS E.T) : Nat → Operand → Option (Nat × Nat)
 | 0,_ => none
 | n + 1, .tmp s => match l.find? (uY s) with
   | some o => match o.op with
     | .move y => uo l σ n y
     | .nilCheck y => uo l σ n y
     | .fieldAddr t y i => match look Y.ty t, uo l σ n y with
       | some (.struct fs), some (k, p) => match fs[i]? with
         | some f => some (k,p + f.offset)
         | none => none
       | _,_ => none
     | .load _ y => match uo l σ n y with
       | some (k, p) => match look σ.h k with
         | some (.cs cs) => match cs[p]? with
           | some (.box j q) => some (j,q)
           | _ => none
         | _ => none
       | none => none
     | _ => none
   | none => match look σ.t s with
     | some (.a (.box k p)) => some (k,p)
     | _ => none
 | _,_ => none
def inH {T : Nat → Type} (ids : List Nat) (h : List (Nat × TB T)) : List (Nat × TB T) := h.filter fun p => gH ids p.1
def zI {T : Nat → Type} (ids : List Nat) (h : List (Nat × TB T)) : List (Nat × TB T) := h.filter fun p => !gH ids p.1
def JE (l : List Oper) (σ : TS E.T) (fl : List Bool) : List Nat := l.zipIdx.filterMap fun q => match mNf fl q.2, q.1.op with
 | true,.load _ y => (uo Y E l σ l.length y).map (·.1)
 | _,_ => none
def B3 {T : Nat → Type} : List (Nat × TB T) → List Nat
 | [] => []
 | (k,.vec _ _ _) :: r => k :: B3 r
 | _ :: r => B3 r
def JW (l : List Oper) (σ : TS E.T) : List Nat := l.filterMap fun o => match o.op, o.dst with
 | .load t y, some d => match look Y.ty t, uo Y E l σ l.length y with
   | some (.struct _), some (k, _) => match look σ.h k with
     | some (.cs cs) => match cs.all fun c => Cy (.a c : TV E.T) with
       | true => none
       | false => some d
     | _ => none
   | _,_ => none
 | _,_ => none
def KX (l : List Oper) (σ : TS E.T) (x : Operand) : Option Nat := match x with
 | .tmp s => match l.find? (uY s) with
   | some o => match o.op with
     | .load _ y => (uo Y E l σ l.length y).map (·.1)
     | _ => none
   | none => none
 | _ => none
def LC (ids : List Nat) : Option Nat → Bool
 | some k => gH ids k
 | none => false
def zW (l : List Oper) (σ : TS E.T) (ids : List Nat) (i : Nat) : Bool := match l[i]? with
 | some o => match o.op with
   | .store _ x _ => match uo Y E l σ l.length x with
     | some q => gH ids q.1
     | none => !(B3 σ.h).isEmpty
   | .call { callee := .builtin .append,args := xs,argTypes := _ } => xs.toList.any fun x => LC ids (KX Y E l σ x)
   | .call { callee := .value _,args := xs,argTypes := _ } => xs.toList.any fun x => LC ids ((uo Y E l σ l.length x).map (·.1))
   | _ => false
 | none => false
def Jy (l : List Oper) : Nat → List Nat → List Nat
 | 0,S => S
 | i + 1, S => Jy l i (match ub S i, l[i]? with
   | true,some o => b9 o ++ S
   | _,_ => S)
def mBf (l : List Oper) (cs2 : List Nat) (i : Nat) : Bool := match cs2 with
 | [] => true
 | c :: _ => ub (Jy l (c + 1) [c]) i
def Lo (l : List Oper) (σ : TS E.T) (fl : List Bool) (mB : Nat → Bool) : List (Nat × Nat × Nat) := l.zipIdx.filterMap fun q => match mNf fl q.2 && mB q.2, q.1.op, q.1.dst with
 | true, .load _ y, some d => match uo Y E l σ l.length y with
   | some (k, p) => match look σ.h k with
     | some (.cs cs) => match cs[p]? with
       | some c => match Cy (.a c : TV E.T) with
         | true => none
         | false => some (d,k,p)
       | none => none
     | _ => none
   | none => none
 | _,_,_ => none
def zS (σ : TS E.T) (op : Op) (kk p : Nat) : Option (TA E.T) := match op with
 | .load t x => match opT σ x, look Y.ty t, look σ.h kk with
   | some (.a (.box k2 p2)), some dsc, some (.cs cs) => match Nat.beq k2 kk && Nat.beq p2 p && hQ dsc with
     | true => cs[p]?
     | false => none
   | _,_,_ => none
 | _ => none
def mvN (l : List Oper) (fl : List Bool) (σ : TS E.T) (op : Op) : Option (TV E.T) := match op with
 | .move (.tmp s) => match l.zipIdx.all fun q => !mNf fl q.2 || !(uY s q.1) with
   | true => opT σ (.tmp s)
   | false => none
 | _ => none
def ww {T : Nat → Type} (mB : Nat → Bool) (i : Nat) (σ : TS T) : TS T := match mB i with
 | true => σ
 | false => σ.withB []
def evN (l : List Oper) (fl : List Bool) (mB : Nat → Bool) (ld : List (Nat × Nat × Nat)) : Nat → List Oper → TS E.T → Tree (TS E.T)
 | _,[],σ => .leaf σ
 | k, o :: rest, σ => match mNf fl k with
   | false => evN l fl mB ld (k + 1) rest σ
   | true => match o.dst, o.guard with
     | some d, none => match Nat.ble (d + 1) σ.n with
       | true => match q8 ld d with
         | some (_, kk, p) => match mB k, zS Y E σ o.op kk p with
           | true,some c => evN l fl mB ld (k + 1) rest (σ.put d (.a c.rd))
           | _,_ => .fail
         | none => match mvN E l fl σ o.op with
           | some u => evN l fl mB ld (k + 1) rest (σ.put d u.rd)
           | none => match evP Y E G (ww mB k σ) o.op o.type with
             | .one u => match Cy u with
               | true => evN l fl mB ld (k + 1) rest (σ.put d u)
               | false => .fail
             | .opt z u => .bnd z fun x => match Cy (u x) with
               | true => evN l fl mB ld (k + 1) rest (σ.put d (u x))
               | false => .fail
             | .bad => .fail
       | false => .fail
     | _,_ => .fail
def evE (all : Bool) (o : Oper) (σ : TS E.T) : Tree (OL E.T) :=
 match o.guard with
 | some _ => .fail
 | none => match o.op with
   | .call { callee := .value (.func f), args := xs, argTypes := ats } => match xz G.x f, o.dst with
     | true, some d => match Nat.ble (d + 1) σ.n, pQ σ xs.toList with
       | true,some us => xM σ d (xd G.x f (dz E [] us) σ.h)
       | _,_ => .fail
     | false, some d => match Nat.ble (d + 1) σ.n with
       | true => (kU Y E G σ d o.op o.type).bind fun σ' => .leaf (.st σ')
       | false => .fail
     | _,_ => .fail
   | op => match all, o.dst with
     | true, _ => match GA G.mu σ o with
       | false => (q6 Y E G o σ).bind fun σ' => .leaf (.st σ')
       | true => .fail
     | false, some d => match Nat.ble (d + 1) σ.n with
       | true => (kU Y E G σ d op o.type).bind fun σ' => .leaf (.st σ')
       | false => .fail
     | false,none => .fail
def HB (all : Bool) (n : Nat) (l : List Oper) : List Nat → TS E.T → Tree (OL E.T)
 | [],σ => .leaf (.st σ)
 | c :: cs, σ => match Nat.beq σ.n n, l[c]? with
   | true,some o => (evE Y E G all o σ).bind (wC (HB all n l cs))
   | _,_ => .fail
def TS.alsA {T : Nat → Type} (σ : TS T) (m : List (Nat × Nat)) : TS T := { n := σ.n,t := σ.t,h := σ.h,e := m.map (fun p => (p.1,Root.s p.2)) ++ σ.e }
def TS.alcT {T : Nat → Type} (σ : TS T) (ld : List (Nat × Nat × Nat)) : TS T := { n := σ.n,t := σ.t,h := σ.h,e := ld.map (fun p => (p.1,Root.c p.2.1 p.2.2)) ++ σ.e }
def TS.ownE {T : Nat → Type} (σ : TS T) : TS T := { n := σ.n,t := σ.t,h := σ.h,e := σ.e.filter fun p => (σ.ownAt p.2).isSome }
def GQ (l : List Oper) (fl : List Bool) (ld : List (Nat × Nat × Nat)) : Bool := decide (ld.map (·.1)).Nodup && ld.all fun p => l.zipIdx.any fun q => mNf fl q.2 && uY p.1 q.1
def sU {T : Nat → Type} (h : List (Nat × TB T)) (ids : List Nat) : Bool := ids.all fun k => (look h k).isSome
def JD {L : Type} : List (Tree L) → Tree L
 | [] => .fail
 | [t] => t
 | t :: r => .nl ([] : List Nat) t (JD r)
def evA (o : Oper) (σ : TS E.T) : Tree (OL E.T) :=
 match o.guard with
 | some _ => .fail
 | none => match o.op with
   | .call { callee := .value (.func f), args := xs, argTypes := ats } => match xz G.x f, o.dst with
     | true, some d => match Nat.ble (d + 1) σ.n, pQ σ xs.toList with
       | true,some us => xM σ d (xd G.x f (dz E [] us) σ.h)
       | _,_ => .fail
     | _,_ => (q6 Y E G o σ).bind fun σ' => .leaf (.st σ')
   | _ => (q6 Y E G o σ).bind fun σ' => .leaf (.st σ')
def Dl (n0 : Nat) (l : List Oper) : Nat → List Nat → TS E.T → Tree (OL E.T)
 | 0, done, σ => match pm l done with
   | [] => .leaf (.st σ)
   | _ => .fail
 | n + 1, done, σ => match pm l done with
   | [] => .leaf (.st σ)
   | is => JD (is.map fun i => match Nat.beq σ.n n0, l[i]? with
     | true,some o => (evA Y E G o σ).bind (wC (Dl n0 l n (i :: done)))
     | _,_ => .fail)
def CA (ops : List Oper) (σ : TS E.T) : Tree (OL E.T) :=
 match Nat.ble ops.length 10 with
 | true => Dl Y E G σ.n ops ops.length [] σ
 | false => .fail
def B4 (n : Nat) (l : List Oper) : List Nat → TS E.T → Tree (OL E.T)
 | [],σ => .leaf (.st σ)
 | c :: cs, σ => match Nat.beq σ.n n, l[c]? with
   | true,some o => (evA Y E G o σ).bind (wC (B4 n l cs))
   | _,_ => .fail
def Fy (ops : List Oper) (σ : TS E.T) (fl : List Bool) (ids cs1 cs2 : List Nat) (ld : List (Nat × Nat × Nat)) : Tree (OL E.T) :=
 match JF ops (mNf fl) (cs1 ++ cs2) && sU σ.h ids && GQ ops fl ld with
 | true => (evN Y E G ops fl (mBf ops cs2) ld 0 ops (σ.withB (inH ids σ.h))).bind fun σN =>
   (HB Y E G false σ.n ops cs1 ((σN.withB (zI ids σ.h)).alsA (lU ops (mNf fl) 0 ops))).bind (wC fun σ1 =>
    match sU σ.h (σ1.h.map (·.1)) && (σ1.h.all fun p => !gH ids p.1) && (nvH σ1.h && nvH (zI ids σ.h)) with
    | true => B4 Y E G σ.n ops cs2 ((σ1.withB (σ1.h ++ inH ids σ.h)).alcT ld).ownE
    | false => .fail)
 | false => CA Y E G ops σ
def KE (ops : List Oper) (σ : TS E.T) (fl : List Bool) (ids ch : List Nat) : Tree (OL E.T) :=
 Fy Y E G ops σ fl ids (ch.takeWhile fun i => !zW Y E ops σ ids i) (ch.dropWhile fun i => !zW Y E ops σ ids i) (Lo Y E ops σ fl (mBf ops (ch.dropWhile fun i => !zW Y E ops σ ids i)))
def Hm (ops : List Oper) (σ : TS E.T) : Tree (OL E.T) :=
 match σ.e with
 | [] => KE Y E G ops σ (FH (xz G.x) (bs0 ops) G.mu (JW Y E ops σ) ops ops []) (JE Y E ops σ (FH (xz G.x) (bs0 ops) G.mu (JW Y E ops σ) ops ops []) ++ B3 σ.h) (wv 0 (FH (xz G.x) (bs0 ops) G.mu (JW Y E ops σ) ops ops []))
 | _ => .fail
def evR (ops : List Oper) (draw : Bool) (σ : TS E.T) : Tree (OL E.T) :=
 match draw with
 | false => jK Y E G ops ops σ
 | true => match sX (xz G.x) (bs0 ops) G.mu ops, σ.e with
   | (_, []), [] => match Dj ops with
     | true => (qY Y E G ops ops σ).bind fun σ' => .leaf (.st σ')
     | false => .fail
   | (body, om :: after), [] => match AO ops body om after with
     | true => (qY Y E G ops body σ).bind fun σ' => jK Y E G ops (om :: after) (σ'.alsT (dN body))
     | false => match after with
       | oa :: after => match Lx ops body om oa after with
         | true => ER Y E G ops body om oa after σ
         | false => Hm Y E G ops σ
       | [] => Hm Y E G ops σ
   | _,_ => .fail
end
section
variable {P : Program} {Y : Tys P} {E : Env} {G : Gam E} {ρ : Rn} {σ : TS E.T} {Q : Exit → AS → Prop} {ks : List It} {l : List Oper} {k : Nat} {o : Oper} {rest : List Oper}
theorem kN {d : Nat} {b : Bool} {x : TA E.T} (hx : x.to E.toEnc ρ = .v (.bool b)) (hl : look σ.t d = some (.a (.d .bool b))) : kV (σ.to E.toEnc ρ) ((σ.know d x).to E.toEnc ρ) := fun F X tm hs => by
 refine hs.le2 rfl (fun t u' hu => ⟨u',?_,.refl _⟩) (fun q cs' hq => ⟨cs',hq,LeL.refl _⟩) (fun p hp => hp)
 have e : ((σ.know d x).to E.toEnc ρ).t = (d,x.to E.toEnc ρ) :: tTo E.toEnc ρ σ.t := rfl
 rw [e,aj] at hu
 split at hu
 ·rename_i e2; subst e2
  simp only [TS.to,bq,hl]
  rw [hx] at hu
  cases hu; rfl
 ·exact hu
theorem u7 (h : nP l σ o = .yes) : bi l (σ.to E.toEnc ρ) o = some true := by
 unfold nP at h
 unfold bi
 split at h
 ·rename_i hg; rw [hg]
 ·rename_i j want hg
  rw [hg]
  split at h
  ·rename_i d hd
   simp only [hd]
   split at h
   ·rename_i hn
    have hlt := bb hn
    rw [if_pos (show d < (σ.to E.toEnc ρ).n from hlt)]
    split at h
    ·rename_i hl
     simp only [TS.to,bq,hl]
     cases want <;> first | rfl | cases h
    ·rename_i hl
     simp only [TS.to,bq,hl]
     cases want <;> first | rfl | cases h
    ·cases h
    ·cases h
    ·cases h
   ·cases h
  ·cases h
theorem zo (h : nP l σ o = .no) : bi l (σ.to E.toEnc ρ) o = some false := by
 unfold nP at h
 unfold bi
 split at h
 ·cases h
 ·rename_i j want hg
  rw [hg]
  split at h
  ·rename_i d hd
   simp only [hd]
   split at h
   ·rename_i hn
    have hlt := bb hn
    rw [if_pos (show d < (σ.to E.toEnc ρ).n from hlt)]
    split at h
    ·rename_i hl
     simp only [TS.to,bq,hl]
     cases want <;> first | rfl | cases h
    ·rename_i hl
     simp only [TS.to,bq,hl]
     cases want <;> first | rfl | cases h
    ·cases h
    ·cases h
    ·cases h
   ·cases h
  ·cases h
theorem CE (h : nP l σ o = .nor) : nc l (σ.to E.toEnc ρ) o = true := by
 unfold nP at h
 unfold nc
 split at h
 ·cases h
 ·rename_i j want hg
  rw [hg]
  split at h
  ·rename_i d hd
   simp only [hd]
   split at h
   ·rename_i hn
    have hlt := bb hn
    split at h
    ·cases want <;> cases h
    ·cases want <;> cases h
    ·cases h
    ·rename_i xs hl
     simp only [TS.to,bq,hl,Option.map_some,TV.to,TA.to]
     exact decide_eq_true hlt
    ·cases h
   ·cases h
  ·cases h
theorem nt {b want : Bool} {d : Nat} (h : nP l σ o = .sym b want d) : look σ.t d = some (.a (.d .bool b)) ∧ ∀ (c : Bool) (x : TA E.T), (∀ ρ, x.to E.toEnc ρ = .v (.bool c)) → bi l ((σ.know d x).to E.toEnc ρ) o = some (c == want) := by
 unfold nP at h
 unfold bi
 split at h
 ·cases h
 ·rename_i j want' hg
  rw [hg]
  split at h
  ·rename_i d' hd
   split at h
   ·rename_i hn
    have hlt := bb hn
    split at h
    ·cases want' <;> cases h
    ·cases want' <;> cases h
    ·rename_i b' hl
     cases h
     refine ⟨hl,fun c x hx => ?_⟩
     simp only [hd]
     rw [if_pos (show d < ((σ.know d x).to E.toEnc ρ).n from hlt)]
     have e : look ((σ.know d x).to E.toEnc ρ).t d = some (.v (.bool c)) := by
      show look ((d,x.to E.toEnc ρ) :: tTo E.toEnc ρ σ.t) d = _
      rw [bT,hx]
     rw [e]
    ·cases h
    ·cases h
   ·cases h
  ·cases h
theorem sM (hi : Inj ρ σ.h) (ho : l[k]? = some o) (hw : bi l (σ.to E.toEnc ρ) o = some false) (h : (kh E σ o).holds (On P E Q ρ (.o l (k + 1) rest :: ks))) : be P Q (.o l k (o :: rest) :: ks) (σ.to E.toEnc ρ) := by
 unfold kh at h
 split at h
 ·rename_i d hd
  split at h
  ·rename_i hn
   refine wg ho hw hd hn ?_
   have := h ρ hi (Agr.refl ρ)
   rw [bO] at this
   exact this
  ·cases h
 ·cases h
theorem Gm (hi : Inj ρ σ.h) (ho : l[k]? = some o) (hw : nc l (σ.to E.toEnc ρ) o = true) (h : (kh E σ o).holds (On P E Q ρ (.o l (k + 1) rest :: ks))) : be P Q (.o l k (o :: rest) :: ks) (σ.to E.toEnc ρ) := by
 unfold kh at h
 split at h
 ·rename_i d hd
  split at h
  ·rename_i hn
   refine xg ho hw hd hn ?_
   have := h ρ hi (Agr.refl ρ)
   rw [bO] at this
   exact this
  ·cases h
 ·cases h
def AC (P : Program) (Q : Exit → AS → Prop) (ks : List It) (v : Value) : Prop := ∀ n,Stk P Q ks (.panic [{ v := v,recovered := false }]) ⟨n,[],[],[]⟩
theorem AC.toK {v : Value} {σ : AS} (h : AC P Q ks v) : Ck P Q ks v σ := ⟨[],[],fun _ _ h => (by simp [aO] at h),fun _ _ h => (by simp [aO] at h),h _⟩
def OnX (P : Program) (E : Env) (Q : Exit → AS → Prop) (ρ : Rn) (its ks : List It) : OL E.T → Prop
 | .st σ => On P E Q ρ its σ
 | .pan v => AC P Q ks v
theorem qG {T : Nat → Type} {h : List (Nat × TB T)} : ∀ {ids : List Nat}, bR h ids = true → ∀ i ∈ ids, ∃ b, look h i = some b
 | [],_,i,hi => by cases hi
 | j :: r, hg, i, hi => by
   simp only [bR] at hg
   split at hg
   ·rename_i b hb hm
    rcases List.mem_cons.1 hi with rfl | hi
    ·exact ⟨b,hb⟩
    ·exact qG hg i hi
   ·cases hg
theorem j8 (hi : Inj ρ σ.h) (ids : List Nat) : ∀ k cs, look (hTo E.toEnc ρ (cq σ.h ids)) k = some cs → look (σ.to E.toEnc ρ).h k = some cs := fun k cs hk => by
 obtain ⟨i,b,h1,h2,h3,h4⟩ := fI (hi.sub fun p hp => let ⟨q,q1,q2,q3⟩ := jt p hp; ⟨q,q1,q2,q3 ρ⟩) hk
 rw [← h1,← h3]
 exact cp E.toEnc hi (jI h2) h4
theorem mM (hi : Inj ρ σ.h) (ids : List Nat) : ∀ k cs, look (hTo E.toEnc ρ (dropHH ids σ.h)) k = some cs → look (σ.to E.toEnc ρ).h k = some cs ∧ look (hTo E.toEnc ρ (cq σ.h ids)) k = none := fun k cs hk => by
 obtain ⟨i,b,h1,h2,h3,h6⟩ := fI (hi.sub fun p hp => ⟨p,ez p hp,rfl,rfl⟩) hk
 obtain ⟨h4,h5⟩ := gi h2
 refine ⟨by rw [← h1,← h3]; exact cp E.toEnc hi h4 h6,?_⟩
 cases hn : look (hTo E.toEnc ρ (cq σ.h ids)) k with
 | none => rfl
 | some cs' =>
   obtain ⟨j,b',m1,m2,m3,m6⟩ := fI (hi.sub fun p hp => let ⟨q,q1,q2,q3⟩ := jt p hp; ⟨q,q1,q2,q3 ρ⟩) hn
   obtain ⟨m4,m5⟩ := iu m2
   have := (hi _ (bX h4) _ (bX m4)).1 h6 m6 (h1.trans m1.symm)
   simp only at this
   subst this
   exact absurd m5 h5
theorem il : ∀ (n : Nat) (σ : AS), cP (List.replicate n none) σ = σ
 | 0,_ => rfl
 | n + 1,σ => il n σ
theorem wZ {T : Nat → Type} {h : List (Nat × TB T)} : ∀ {ids : List Nat}, nvH (cq h ids) = true → ∀ i ∈ ids, ∀ b, look h i = some b → b.nv = true
 | [],_,i,hi,_,_ => by cases hi
 | k :: ks, hn, i, hi, b, hb => by
   simp only [cq] at hn
   cases hl : look h k with
   | none =>
     rw [hl] at hn
     rcases List.mem_cons.1 hi with rfl | hi
     ·rw [hl] at hb; cases hb
     ·exact wZ hn i hi b hb
   | some b' =>
     rw [hl] at hn
     simp only [nvH,List.all_cons,Bool.and_eq_true] at hn
     rcases List.mem_cons.1 hi with rfl | hi
     ·rw [hl] at hb; cases hb; exact hn.1
     ·exact wZ hn.2 i hi b hb
theorem yB {ids : List Nat} {h' : List (Nat × TB E.T)} (hi : Inj ρ σ.h) (hg : bR σ.h ids = true) (hk : nvH (cq σ.h ids) = true) (hv : nvH h' = true) (hm : h'.map (·.1) = ids) : Inj ρ (σ.give ids h').h := hi.sub fun p hp => by
 rcases List.mem_append.1 hp with hp | hp
 ·have : p.1 ∈ ids := hm ▸ List.mem_map_of_mem hp
  obtain ⟨b,hb⟩ := qG hg _ this
  exact ⟨_,bX hb,rfl,by rw [wP hv hp,sv (wZ hk _ this b hb)]⟩
 ·exact ⟨p,ez p hp,rfl,rfl⟩
theorem BZ (ids : List Nat) (h' : List (Nat × TB E.T)) : (σ.give ids h').to E.toEnc ρ = dT (σ.to E.toEnc ρ) [] (hTo E.toEnc ρ (dropHH ids σ.h)) (hTo E.toEnc ρ h') := by
 unfold dT TS.give TS.to
 simp only [cP,AS.dropC]
 congr 1
 ·exact oL _ _ _ _
 ·exact (fe σ.e).symm
theorem fu {σ : AS} {n : Nat} {Hr H' : List (Nat × List AV)} : dT σ (List.replicate n none) Hr H' = dT σ [] Hr H' := by
 unfold dT
 rw [il]; rfl
theorem fG : ∀ n, lr (List.replicate n none) = true
 | 0 => rfl
 | n + 1 => fG n
theorem jp : ∀ n, kO (List.replicate n none) = true
 | 0 => rfl
 | n + 1 => jp n
theorem kf {σ : AS} : ∀ {xs : List Operand} {us0 us : List AV}, oQ σ xs = some us0 → LeL us0 us → us.all (fun u => (b7 (some u)).isNone) = true → PArgs σ xs us (List.replicate us.length none)
 | [], us0, us, h, hl, hp => by
   cases h
   cases hl
   exact .nil
 | x :: xs, us0, us, h, hl, hp => by
   simp only [oQ] at h
   split at h
   ·rename_i u us1 h1 h2
    cases h
    cases hl with
    | cons hu hr =>
      simp only [List.all_cons,Bool.and_eq_true] at hp
      exact .cons (.rd h1 hu (by simpa using hp.1)) (kf h2 hr hp.2)
   ·cases h
theorem xu {d : Nat} {f : FuncId} {us : List (TV E.T)} {x : XR E.T} (hi : Inj ρ σ.h) (hx : x.ok P f us σ.h)
  (run : ∀ {post : AOut → List (Nat × List AV) → Prop} {ids : List Nat},bR σ.h ids = true → aT P f (us.map (TV.to E.toEnc ρ)) (hTo E.toEnc ρ (cq σ.h ids)) post → (∀ out H',post out H' → (∀ k cs,look H' k = some cs → look (hTo E.toEnc ρ (dropHH ids σ.h)) k = none) → mP P Q ks l k rest d (dT (σ.to E.toEnc ρ) [] (hTo E.toEnc ρ (dropHH ids σ.h)) H') out) → be P Q (.o l k (o :: rest) :: ks) (σ.to E.toEnc ρ))
  (h : (ud σ d x).holds (OnX P E Q ρ (.o l (k + 1) rest :: ks) ks)) : be P Q (.o l k (o :: rest) :: ks) (σ.to E.toEnc ρ) := by
 have goOn : ∀ {ids : List Nat} {h' : List (Nat × TB E.T)} {u : TV E.T}, bR σ.h ids = true → nvH (cq σ.h ids) = true → nvH h' = true → h'.map (·.1) = ids → On P E Q ρ (.o l (k + 1) rest :: ks) ((σ.give ids h').put d u) → mP P Q ks l k rest d (dT (σ.to E.toEnc ρ) [] (hTo E.toEnc ρ (dropHH ids σ.h)) (hTo E.toEnc ρ h')) (.ret (u.to E.toEnc ρ)) := fun {ids h' u} hg hk hv hm hq => by
  have := hq ρ (yB hi hg hk hv hm) (Agr.refl ρ)
  rw [bO,BZ] at this
  exact this
 cases x with
 | bad => cases h
 | ret ov ids u hh =>
   unfold ud at h
   simp only at h
   split at h
   ·rename_i hg
    rw [Bool.and_eq_true] at hg
    obtain ⟨hg,hk⟩ := hg
    obtain ⟨z,hz,h⟩ := h
    obtain ⟨hm,hc⟩ := hx z hz
    refine run hg (hc ρ hi) ?_
    rintro out H' ⟨rfl,rfl⟩ _
    simp only at h
    split at h
    ·rename_i hv; exact goOn hg hk hv hm h
    ·cases h
   ·cases h
 | may ov ids u hh =>
   unfold ud at h
   simp only at h
   split at h
   ·rename_i hg
    rw [Bool.and_eq_true] at hg
    obtain ⟨hg,hk⟩ := hg
    obtain ⟨p,hp,h⟩ := h
    obtain ⟨hm,hc⟩ := hx p hp
    refine run hg (hc ρ hi) ?_
    intro out H' ho _
    cases p with
    | ok z =>
      obtain ⟨rfl,rfl⟩ := ho
      have h1 := h.1 z rfl
      simp only at h1
      split at h1
      ·rename_i hv; exact goOn hg hk hv (hm z rfl) h1
      ·cases h1
    | pan v =>
      subst ho
      exact AC.toK (h.2 v rfl)
   ·cases h
 | mv ov ids mvs nw u hh =>
   unfold ud at h
   simp only at h
   split at h
   ·rename_i hg
    simp only [Bool.and_eq_true] at hg
    obtain ⟨⟨hg,hok⟩,hq⟩ := hg
    obtain ⟨p,hp,h⟩ := h
    refine run hg (hx p hp ρ hi) ?_
    intro out H' ho hdis
    cases p with
    | pan v =>
      subst ho
      exact AC.toK (h.2 v rfl)
    | ok z =>
      obtain ⟨ρ',h1,rfl,rfl,h4⟩ := ho
      have h5 := h.1 z rfl
      simp only at h5
      split at h5
      ·rename_i hP
       rw [Bool.and_eq_true] at hP
       have hname := FV (ρ := ρ) (ρ' := ρ') hok h1
       have hinj := Hu hok
       have hrest := y3 (ρ := ρ) (ρ' := ρ') (mv := mvs) (nw := nw) (d := d)
       have hI1 : Inj (mvR ρ ρ' mvs nw d) (nC (nmN nw d) (hh z)) := pB hname hinj hP.2 h4
       have hI2 : Inj ρ (dropHH ids σ.h) := hi.sub fun p hp => ⟨p,ez p hp,rfl,rfl⟩
       have e2 : hTo E.toEnc (mvR ρ ρ' mvs nw d) (dropHH ids σ.h) = hTo E.toEnc ρ (dropHH ids σ.h) := wN hrest hq
       have e1 : hTo E.toEnc (mvR ρ ρ' mvs nw d) (nC (nmN nw d) (hh z)) = hTo E.toEnc ρ' (hh z) := pv hname hP.2
       have hin : Inj (mvR ρ ρ' mvs nw d) (σ.giveM ids mvs nw d (nC (nmN nw d) (hh z))).h := by
        intro x hx1 y hy1
        have hrb : ∀ q ∈ dropHH ids σ.h, (mvR ρ ρ' mvs nw d) q.1 = ρ q.1 ∧ a8 (mvR ρ ρ' mvs nw d) q.2 = a8 ρ q.2 := fun q hq1 => by
         have := List.all_eq_true.1 hq q hq1
         simp only [Bool.and_eq_true] at this
         exact ⟨by unfold Rn.b; rw [hrest _ this.1],pG hrest this.2⟩
        have cross : ∀ x ∈ nC (nmN nw d) (hh z), ∀ y ∈ dropHH ids σ.h, (a8 (mvR ρ ρ' mvs nw d) x.2 = true → a8 (mvR ρ ρ' mvs nw d) y.2 = true → (mvR ρ ρ' mvs nw d) x.1 ≠ (mvR ρ ρ' mvs nw d) y.1) ∧ x.1 ≠ y.1 := fun x hx y hy => by
         constructor
         ·intro l1 l2 e
          have m1 : ∃ cs, look (hTo E.toEnc ρ' (hh z)) ((mvR ρ ρ' mvs nw d) x.1) = some cs := by
           rw [← e1]
           exact mG (rR hx l1)
          obtain ⟨cs,m1⟩ := m1
          have m2 := hdis _ _ m1
          rw [e,← e2] at m2
          obtain ⟨cs2,m3⟩ := mG (rR (E := E.toEnc) (ρ := mvR ρ ρ' mvs nw d) hy l2)
          rw [m2] at m3; cases m3
         ·intro e
          obtain ⟨x0,k1,rfl⟩ := oP hx
          have ix := List.all_eq_true.1 hP.2 x0 k1
          have iy := List.all_eq_true.1 hq y hy
          simp only [Bool.and_eq_true] at ix iy
          have hyn : y.1 ∉ ids := oy hy
          have hfy : kn d nw y.1 = false := by
           have := iy.1
           unfold mvQ at this
           rw [Bool.and_eq_true] at this
           simpa using this.2
          simp only at e
          cases hn : lL nw x0.1 with
          | true =>
            have hr := kQ.1 hn
            have : nmN nw d x0.1 = 400000 + 16 * d + (x0.1 - 300000) := by unfold nmN; rw [hn]
            have hf : kn d nw y.1 = true := mX.2 (by rw [← e,this]; omega)
            rw [hfy] at hf; cases hf
          | false =>
            have : nmN nw d x0.1 = x0.1 := by unfold nmN; rw [hn]
            have hid : x0.1 ∈ ids := by
             have := ix.1
             unfold mvP at this
             rw [Bool.or_eq_true,hn] at this
             exact cR.1 (this.resolve_right (by decide))
            rw [this] at e
            exact hyn (e ▸ hid)
        rcases List.mem_append.1 hx1 with hx1 | hx1 <;> rcases List.mem_append.1 hy1 with hy1 | hy1
        ·exact hI1 x hx1 y hy1
        ·obtain ⟨c1, c2⟩ := cross x hx1 y hy1
         exact ⟨fun l1 l2 e => absurd e (c1 l1 l2),fun e => absurd e c2⟩
        ·obtain ⟨c1, c2⟩ := cross y hy1 x hx1
         exact ⟨fun l1 l2 e => absurd e.symm (c1 l2 l1),fun e => absurd e.symm c2⟩
        ·obtain ⟨a1, a2⟩ := hrb x hx1
         obtain ⟨b1,b2⟩ := hrb y hy1
         rw [a1,a2,b1,b2]
         exact hI2 x hx1 y hy1
       have h6 := h5 (mvR ρ ρ' mvs nw d) hin (HI hok)
       rw [bO,TV.ren_to hname hP.1] at h6
       refine zJ ?_
       refine f9 rfl (fun F X tm hs => ?_) h6
       have hs' := hs
       refine hs.le2 rfl (fun t u' hu => ⟨u',?_,.refl _⟩) (fun q cs' hq => ⟨cs',?_,LeL.refl _⟩) (fun p hp => ?_)
       ·show look (((dT (σ.to E.toEnc ρ) [] (hTo E.toEnc ρ (dropHH ids σ.h)) (hTo E.toEnc ρ' (hh z))).put d ((u z).to E.toEnc ρ')).t) t = some u'
        simp only [AS.put,aj] at hu ⊢
        split at hu
        ·rename_i e; rw [if_pos e]; exact hu
        ·rename_i e
         rw [if_neg e]
         have hu' : look (tTo E.toEnc (mvR ρ ρ' mvs nw d) (qP (fun u => u.ids (mvQ mvs nw d)) [] σ.t)) t = some u' := hu
         rw [bq] at hu'
         obtain ⟨v,hv,rfl⟩ := Option.map_eq_some_iff.1 hu'
         obtain ⟨q1,q2,_⟩ := od hv
         show look (tTo E.toEnc ρ σ.t) t = _
         rw [bq,q1,Option.map_some,TV.ids_to hrest q2]
       ·show look ((hTo E.toEnc ρ' (hh z)) ++ hTo E.toEnc ρ (dropHH ids σ.h)) q = some cs'
        have hq' : look (hTo E.toEnc (mvR ρ ρ' mvs nw d) (nC (nmN nw d) (hh z) ++ dropHH ids σ.h)) q = some cs' := hq
        rw [oL,e1,e2] at hq'
        exact hq'
       ·obtain ⟨hp1, hp2⟩ := List.mem_filter.1 hp
        refine List.mem_filter.2 ⟨?_,hp2⟩
        have hp1' : p ∈ eTo (mvR ρ ρ' mvs nw d) (g7 σ.e) := hp1
        obtain ⟨q,hq1,rfl⟩ := List.mem_map.1 hp1'
        have hq2 := (List.mem_filter.1 hq1).2
        show _ ∈ (σ.to E.toEnc ρ).dropC.e
        have e4 : (σ.to E.toEnc ρ).dropC.e = eTo ρ (g7 σ.e) := fe σ.e
        rw [e4]
        refine List.mem_map.2 ⟨q,hq1,?_⟩
        obtain ⟨a,b⟩ := q
        cases b with
        | s t => rfl
        | c k o => cases hq2
      ·cases h5
   ·cases h
theorem HD {u : TV E.T} {v : Value} (h : JC E u = some v) : FR (u.to E.toEnc ρ) = some v := by
 unfold JC at h
 split at h
 ·rename_i hu
  rw [TV.ids_to (ρ := Rn.zero) (ρ' := ρ) (fun i e => by cases e) hu]
  exact h
 ·cases h
theorem ym {σ : AS} {op : BinOp} {neg : Bool} (hop : (op = .eql ∧ neg = false) ∨ (op = .neq ∧ neg = true)) {d : Nat} {t ty yt e : TypeId} {x y : Operand} {pos : String} {af : Array Edge} {g : Option (Nat × Bool)} {C : Prop} (ht : P.underlying t = some (.slice e)) (hx : ∀ F X (a : Act), SimE F X σ a.tmps → ∃ (ad : Option Addr) (n c : Nat), a.eval x = .slice ad n c ∧ (ad.isNone = true → C)) (hy : opV σ y = some (.v (.slice none 0 0))) (hd : Nat.ble (d + 1) σ.n = true) {R : AS → Prop} (hR : ∀ b, (b = true → C) → R (σ.put d (.v (.bool (b != neg))))) : cy P ⟨some d, .binOp op t x y yt, ty, pos, af, g⟩ σ R := by
 intro F X a hs
 have h2 := aW (hs.r (.binOp op t x y yt)) (by simp [Op.operands]) hy
 obtain ⟨ad,n,c,e1,e2⟩ := hx F X a hs
 have hrun : (execOp a.eval ⟨some d, .binOp op t x y yt, ty, pos, af, g⟩).run P X.w = .ok (.value (.bool (ad.isNone != neg))) X.w := by
  simp only [execOp,e1,h2]
  refine aZ ?_
  have q := Lib.run_eql_slice_nil X.w t e ad n c 0 0 ht
  rcases hop with ⟨rfl,rfl⟩ | ⟨rfl,rfl⟩
  ·simp [eqGuard,q,go_sem]
  ·have q' : (Op.equal t (.slice ad n c) (.slice none 0 0)).run P X.w = .ok ad.isNone X.w := by
    simp [Op.equal,Op.maxDepth,Lib.run_equalIn_slice_nil X.w 9999 t e ad n c 0 0 ht]
   simp [eqGuard,binOp,go_sem,q']
 unfold gW
 rw [hrun]
 refine ⟨X,_,rfl,hR ad.isNone e2,?_,Ext.refl F X⟩
 exact hs.put_new (bb hd) (New.refl X) hs.gb (.v _) (FreshOk.plain rfl)
theorem xb {σ : AS} {op : BinOp} {neg : Bool} (hop : (op = .eql ∧ neg = false) ∨ (op = .neq ∧ neg = true)) {d : Nat} {t ty yt e : TypeId} {x y : Operand} {pos : String} {af : Array Edge} {g : Option (Nat × Bool)} {ow : Bool} {sz : Nat} {L : List (List AV)} (ht : P.underlying t = some (.slice e)) (hx : opV σ x = some (.sl ow sz L)) (hy : opV σ y = some (.v (.slice none 0 0))) (hd : Nat.ble (d + 1) σ.n = true) {R : AS → Prop} (hR : ∀ b, (b = true → L = []) → R (σ.put d (.v (.bool (b != neg))))) : cy P ⟨some d, .binOp op t x y yt, ty, pos, af, g⟩ σ R := by
 refine ym hop ht (fun F X a hs => ?_) hy hd hR
 have h1 := bM (hs.r (.binOp op t x y yt)) (by simp [Op.operands]) hx
 generalize a.eval x = v at h1
 cases h1 with
 | nl _ _ ad c => exact ⟨ad,0,c,rfl,fun _ => rfl⟩
 | sl _ _ _ b off cap n c hg hn hc hs' hm hr => exact ⟨_,_,_,rfl,fun h => by cases h⟩
theorem IC {y : Operand} {ty : Ty} {k off n : Nat} (hy : vc (opT σ y) = some (ty, k, off, n)) : ∀ F X (a : Act), SimE F X (σ.to E.toEnc ρ) a.tmps → ∃ (ad : Option Addr) (m c : Nat), a.eval y = .slice ad m c ∧ (ad.isNone = true → n = 0) := by
 intro F X a hs
 have key : ∀ v,opV (σ.to E.toEnc ρ) y = some (.v v) → a.eval y = v := fun v h => bK (bx hs h)
 unfold vc at hy
 split at hy
 ·rename_i t' k' off' n' hx
  cases hy
  have e := key _ (aH (ρ := ρ) hx)
  rw [e]
  unfold lA
  split
  ·rename_i hc
   rw [Bool.and_eq_true] at hc
   have := Nat.eq_of_beq_eq_true hc.2
   exact ⟨_,_,_,rfl,fun _ => by omega⟩
  ·exact ⟨_,_,_,rfl,fun h => by cases h⟩
 ·rename_i t' k' n' hx
  cases hy
  have e := key _ (aH (ρ := ρ) hx)
  rw [e]
  unfold vecV
  split
  ·rename_i hc
   rw [Bool.and_eq_true] at hc
   exact ⟨_,_,_,rfl,fun _ => Nat.eq_of_beq_eq_true hc.2⟩
  ·exact ⟨_,_,_,rfl,fun h => by cases h⟩
 ·cases hy
theorem Am {op : BinOp} {neg : Bool} (h : Jg op = some neg) : (op = .eql ∧ neg = false) ∨ (op = .neq ∧ neg = true) := by
 cases op <;> cases h <;> simp
theorem Hk (b neg : Bool) : (nilV b neg : TV E.T).to E.toEnc ρ = .v (.bool (b != neg)) := by
 cases b <;> cases neg <;> rfl
theorem Az (hi : Inj ρ σ.h) (hG : GOk P Y E G) (ho : l[k]? = some o) (hw : bi l (σ.to E.toEnc ρ) o = some true) (h : (evX Y E G o σ).holds (OnX P E Q ρ (.o l (k + 1) rest :: ks) ks)) : be P Q (.o l k (o :: rest) :: ks) (σ.to E.toEnc ρ) := by
 have old : ((q6 Y E G o σ).bind fun σ' => Tree.leaf (OL.st σ')).holds (OnX P E Q ρ (.o l (k + 1) rest :: ks) ks) → be P Q (.o l k (o :: rest) :: ks) (σ.to E.toEnc ρ) := fun h => Is (Y := Y) hi hG ho hw (bk h)
 obtain ⟨dst,op,ty,pos,af,g⟩ := o
 unfold evX at h
 simp only at h
 split at h
 ·rename_i d
  split at h
  ·rename_i hd
   split at h
   ·rename_i f xs ats
    split at h
    ·split at h
     ·rename_i us hx
      refine xu hi (nb hG.x f _ σ.h) (fun {post ids} hg hc hR => ?_) h
      have hpa := kf (f0 (ρ := ρ) hx) (fF [] us (eN _ _)) (ee _ _)
      refine CH rfl hc ho hw hpa (fG _) (fun kk oo hm => absurd (List.eq_of_mem_replicate hm) (by simp)) (j8 hi ids) (fun kk cs hk => by rw [il]; exact mM hi ids kk cs hk) hd ?_
      intro out H' hp hdis
      rw [fu]
      exact hR out H' hp hdis
     ·cases h
    ·exact old h
   ·rename_i s xs ats
    split at h
    ·rename_i f caps us hs hx
     split at h
     ·rename_i hcap
      refine xu hi (nb hG.x f _ σ.h) (fun {post ids} hg hc hR => ?_) h
      have hpa := kf (f0 (ρ := ρ) hx) (fF [] us (eN _ _)) (ee _ _)
      have hcaps : (caps.map (TV.a)).map (TV.to E.toEnc ρ) = caps.map (TA.to E.toEnc ρ) := by simp only [List.map_map]; rfl
      rw [List.map_append,hcaps] at hc
      refine tp rfl (by simp only [TS.to,bq,hs]; rfl) hc ho hw hpa ?_ (fG _) (jp _) (j8 hi ids) (fun kk cs hk => mM hi ids kk cs hk) hd ?_
      ·rw [List.all_eq_true]
       intro u hu
       obtain ⟨x,hx1,rfl⟩ := List.mem_map.1 hu
       exact Option.isNone_iff_eq_none.2 (TA.plain_to _ _ (List.all_eq_true.1 hcap x hx1))
      ·intro out H' hp hdis
       rw [fu]
       exact hR out H' hp hdis
     ·cases h
    ·rename_i f is us hs hx
     refine xu hi (nb hG.x f _ σ.h) (fun {post ids} hg hc hR => ?_) h
     have hpa := kf (f0 (ρ := ρ) hx) (fF [] us (eN _ _)) (ee _ _)
     have hcaps : (is.map fun i => (TV.a (.box i 0) : TV E.T)).map (TV.to E.toEnc ρ) = is.map fun i => AV.v (.pointer (some ⟨ρ i,0,none⟩)) := by simp only [List.map_map]; rfl
     rw [List.map_append,hcaps] at hc
     refine tp rfl (by simp only [TS.to,bq,hs]; rfl) hc ho hw hpa ?_ (fG _) (jp _) (j8 hi ids) (fun kk cs hk => mM hi ids kk cs hk) hd ?_
     ·rw [List.all_eq_true]
      intro u hu
      obtain ⟨x,hx1,rfl⟩ := List.mem_map.1 hu
      rfl
     ·intro out H' hp hdis
      rw [fu]
      exact hR out H' hp hdis
    ·cases h
   ·rename_i op t x y yt
    split at h
    ·rename_i ty' l e hl hy ht
     obtain ⟨ow,hx⟩ := lV (ρ := ρ) hl
     refine gT ho hw (xb (.inl ⟨rfl,rfl⟩) (Y.tyOk _ _ ht) hx (aH (ρ := ρ) hy) hd fun b hb => ?_)
     cases b with
     | true =>
       have := h.1 (by simpa using hb rfl) ρ hi (Agr.refl ρ)
       rw [bO] at this
       exact this
     | false =>
       have := h.2 ρ hi (Agr.refl ρ)
       rw [bO] at this
       exact this
    ·rename_i ty' l e hl hy ht
     obtain ⟨ow,hx⟩ := lV (ρ := ρ) hl
     refine gT ho hw (xb (.inr ⟨rfl,rfl⟩) (Y.tyOk _ _ ht) hx (aH (ρ := ρ) hy) hd fun b hb => ?_)
     cases b with
     | true =>
       have := h.1 (by simpa using hb rfl) ρ hi (Agr.refl ρ)
       rw [bO] at this
       exact this
     | false =>
       have := h.2 ρ hi (Agr.refl ρ)
       rw [bO] at this
       exact this
    ·split at h
     ·rename_i ty' k' off n e neg hv hy ht hn
      split at h
      ·rename_i l hl
       refine gT ho hw (ym (C := n = 0) (Am hn) (Y.tyOk _ _ ht) (IC hv) (aH (ρ := ρ) hy) hd fun b hb => ?_)
       rw [← Hk (E := E) (ρ := ρ)]
       cases b with
       | true =>
         have := h.1 (by rw [hb rfl,List.take_zero]) ρ hi (Agr.refl ρ)
         rw [bO] at this
         exact this
       | false =>
         have := h.2 ρ hi (Agr.refl ρ)
         rw [bO] at this
         exact this
      ·cases h
     ·exact old h
   ·exact old h
  ·cases h
 ·split at h
  ·rename_i x
   split at h
   ·rename_i u hx
    split at h
    ·rename_i v hv
     exact C7 ho hw (aH (ρ := ρ) hx) (HD hv) (AC.toK h)
    ·cases h
   ·cases h
  ·exact old h
theorem OnX.agr {its ks : List It} {ρ' : Rn} (ha : Agr ρ ρ') : ∀ {x : OL E.T}, OnX P E Q ρ its ks x → OnX P E Q ρ' its ks x
 | .st σ,h => fun ρ'' hi h' => h ρ'' hi (ha.trans h')
 | .pan v,h => h
theorem mL (hG : GOk P Y E G) (l : List Oper) : ∀ (rest : List Oper) (k : Nat) (σ : TS E.T) (ρ : Rn), (∀ (i : Nat) o, rest[i]? = some o → l[k + i]? = some o) → k + rest.length = l.length → Inj ρ σ.h → (jK Y E G l rest σ).holds (OnX P E Q ρ ks ks) → be P Q (.o l k rest :: ks) (σ.to E.toEnc ρ)
 | [],k,σ,ρ,hl,hk,hi,h => w4 (by simpa using hk) (h ρ hi (Agr.refl ρ))
 | o :: rest, k, σ, ρ, hl, hk, hi, h => by
   have ho : l[k]? = some o := by simpa using hl 0 o rfl
   have hl' : ∀ (i : Nat) o', rest[i]? = some o' → l[k + 1 + i]? = some o' := fun i o' hq => by
    have := hl (i + 1) o' (by simpa using hq)
    rw [show k + 1 + i = k + (i + 1) by omega]; exact this
   have hk' : k + 1 + rest.length = l.length := by simp only [List.length_cons] at hk; omega
   have next : ∀ {t : Tree (TS E.T)}, (t.bind (jK Y E G l rest)).holds (OnX P E Q ρ ks ks) → t.holds (On P E Q ρ (.o l (k + 1) rest :: ks)) := fun {t} h =>
    (bk h).mono fun σ' hσ ρ' hi' ha => mL hG l rest (k + 1) σ' ρ' hl' hk' hi' (hσ.mono fun x hx => hx.agr ha)
   have nextX : ∀ {t : Tree (OL E.T)}, (t.bind (wC (jK Y E G l rest))).holds (OnX P E Q ρ ks ks) → t.holds (OnX P E Q ρ (.o l (k + 1) rest :: ks) ks) := fun {t} h =>
    (bk h).mono fun x hx => by
     cases x with
     | st σ' => exact fun ρ' hi' ha => mL hG l rest (k + 1) σ' ρ' hl' hk' hi' (Tree.holds.mono (fun x hx => OnX.agr ha hx) hx)
     | pan v => exact hx
   simp only [jK] at h
   split at h
   ·rename_i hw
    exact Az (Y := Y) hi hG ho (u7 hw) (nextX h)
   ·rename_i hw
    exact sM hi ho (zo hw) (next h)
   ·rename_i hw
    exact Gm hi ho (CE hw) (next h)
   ·rename_i b d hw
    obtain ⟨h1,h2⟩ := nt (ρ := ρ) hw
    cases hb : b with
    | true =>
      refine f9 rfl (kN (x := .tt) (b := b) (by rw [hb]; rfl) h1) ?_
      exact Az (Y := Y) (σ := σ.know d .tt) hi hG ho (h2 true .tt fun _ => rfl) (nextX (h.1 hb))
    | false =>
      refine f9 rfl (kN (x := .ff) (b := b) (by rw [hb]; rfl) h1) ?_
      exact sM (σ := σ.know d .ff) hi ho (h2 false .ff fun _ => rfl) (next (h.2 hb))
   ·rename_i b d hw
    obtain ⟨h1,h2⟩ := nt (ρ := ρ) hw
    cases hb : b with
    | true =>
      refine f9 rfl (kN (x := .tt) (b := b) (by rw [hb]; rfl) h1) ?_
      exact sM (σ := σ.know d .tt) hi ho (h2 true .tt fun _ => rfl) (next (h.1 hb))
    | false =>
      refine f9 rfl (kN (x := .ff) (b := b) (by rw [hb]; rfl) h1) ?_
      exact Az (Y := Y) (σ := σ.know d .ff) hi hG ho (h2 false .ff fun _ => rfl) (nextX (h.2 hb))
   ·cases h
def eF (σ σ' : AS) : Prop := σ.n = σ'.n ∧ σ.h = σ'.h ∧ σ.e = σ'.e ∧ ∀ i,look σ.t i = look σ'.t i
theorem eF.opv {σ σ' : AS} {u : AV} (h : eF σ σ') (ho : OpV P o σ' u) : OpV P o σ u := fun F X a hs => ho F X a ⟨hs.gb,hs.fb,fun t u hm hu => hs.slot t u hm (by rw [h.2.2.2]; exact hu),fun k cs hk => hs.box k cs (by rw [h.2.1]; exact hk)⟩
theorem eF.put {σ σ' : AS} (h : eF σ σ') (d : Nat) (u : AV) : eF (σ.put d u) (σ'.put d u) := by
 obtain ⟨h1,h2,h3,h4⟩ := h
 refine ⟨h1,h2,by simp only [AS.put,h3],fun i => ?_⟩
 simp only [AS.put,aj]
 rw [h4]
theorem eF.q {K : AS → Prop} (hK : ∀ σ σ', eF σ σ' → K σ' → K σ) (l : List Oper) : ∀ (rest : List Oper) (σ σ' : AS), eF σ σ' → lm P l K rest σ' → lm P l K rest σ
 | [],σ,σ',h,hq => hK σ σ' h hq
 | o :: rest, σ, σ', h, hq => by
   obtain ⟨d,u,h1,h2,h3,h4⟩ := hq
   refine ⟨d,u,h1,by rw [h.1]; exact h2,?_,eF.q hK l rest _ _ (h.put d u) h4⟩
   have hw : bi l σ o = bi l σ' o := hY h.1 fun j want d hg hd => h.2.2.2 d
   rw [hw]
   rcases h3 with ⟨k1,k2⟩ | h3
   ·exact .inl ⟨k1,h.opv k2⟩
   ·exact .inr h3
theorem eF.know {d : Nat} {b : Bool} {x : TA E.T} (hx : x.to E.toEnc ρ = .v (.bool b)) (hl : look σ.t d = some (.a (.d .bool b))) : eF (σ.to E.toEnc ρ) ((σ.know d x).to E.toEnc ρ) := by
 refine ⟨rfl,rfl,rfl,fun i => ?_⟩
 show look (tTo E.toEnc ρ σ.t) i = look ((d,x.to E.toEnc ρ) :: tTo E.toEnc ρ σ.t) i
 rw [aj]
 split
 ·rename_i e; subst e; rw [bq,hl,hx]; rfl
 ·rfl
abbrev OnQ (P : Program) (E : Env) (ρ : Rn) (K : AS → Prop) (l : List Oper) (rest : List Oper) (h : List (Nat × TB E.T)) (σ' : TS E.T) : Prop := σ'.h = h → lm P l K rest (σ'.to E.toEnc ρ)
theorem zT {K : AS → Prop} (hi : Inj ρ σ.h) (hG : GOk P Y E G) (hw : bi l (σ.to E.toEnc ρ) o = some true) (h : (evQ Y E G o σ).holds (OnQ P E ρ K l rest σ.h)) : lm P l K (o :: rest) (σ.to E.toEnc ρ) := by
 obtain ⟨dst,op,ty,pos,af,g⟩ := o
 unfold evQ at h
 simp only at h
 have pick : ∀ {d : Nat} {u : TV E.T}, dst = some d → Nat.ble (d + 1) σ.n = true → OpV P ⟨dst, op, ty, pos, af, g⟩ (σ.to E.toEnc ρ) (u.to E.toEnc ρ).rd → OnQ P E ρ K l rest σ.h (σ.put d u.rd) → lm P l K (⟨dst, op, ty, pos, af, g⟩ :: rest) (σ.to E.toEnc ρ) := by
  intro d u hdst hd hv hq
  refine yA hw hdst hd hv ?_
  have := hq rfl
  rw [bO,TV.rd_to] at this
  exact this
 split at h
 ·rename_i d
  split at h
  ·rename_i hd
   split at h
   ·rename_i c x y
    split at h
    ·rename_i hc
     split at h
     ·rename_i u hu
      exact pick rfl hd (nr (b := true) (aH hc) rfl (aH hu)) h
     ·cases h
    ·rename_i hc
     split at h
     ·rename_i u hu
      exact pick rfl hd (nq (b := false) (aH hc) rfl (aH hu)) h
     ·cases h
    ·rename_i b hc
     split at h
     ·rename_i u v hu hv
      cases hb : b with
      | true => exact pick rfl hd (nr (b := b) (aH hc) hb (aH hu)) (h.1 hb)
      | false => exact pick rfl hd (nq (b := b) (aH hc) hb (aH hv)) (h.2 hb)
     ·cases h
    ·cases h
   ·rename_i t
    split at h
    ·rename_i e ty' h0 het
     split at h
     ·rename_i sz by_ hz
      split at h
      ·rename_i hs
       have hs' := gS hs
       subst hs'
       refine yA hw rfl hd (sa (T := Y) h0 hz) ?_
       have := h rfl
       rw [bO] at this
       exact this
      ·cases h
     ·cases h
    ·cases h
   ·rename_i x y t u
    split at h
    ·rename_i ty' L e du hx h0 hu
     split at h
     ·rename_i sz by_ m hz hm
      split at h
      ·rename_i hc
       simp only [Bool.and_eq_true] at hc
       obtain ⟨⟨hnz,hb⟩,hs⟩ := hc
       have hs' := gS hs
       subst hs'
       obtain ⟨v,S,k1,k2,k3⟩ := pw (ρ := ρ) hm
       have hnz' : du = .string ∨ ∃ e',du = .slice e' := by cases du <;> first | exact .inl rfl | exact .inr ⟨_,rfl⟩ | cases hnz
       by_cases hm0 : m = []
       ·have hq := h.1 hm0
        refine yA hw rfl hd (sW (T := Y) (L := L.map (cells E.toEnc ty')) (aH (ρ := ρ) hx) h0 hu hnz' hz k1 (by rw [k2,hm0]; rfl) k3) ?_
        have := hq rfl
        rw [bO] at this
        exact this
       ·obtain ⟨r', hr, hq⟩ := h.2
        obtain ⟨h1,h2⟩ := kl hr
        refine yA hw rfl hd (uy (T := Y) (L := L.map (cells E.toEnc ty')) (m := m.map (cells E.toEnc ty')) (aH (ρ := ρ) hx) h0 hu hnz' hz hb k1 k2 k3 (by simpa using h1) (by simpa using hm0)) ?_
        have := hq rfl
        rw [bO,h2] at this
        have e2 : (TV.a (TA.own ty' (L ++ m)) : TV E.T).to E.toEnc ρ = .sl true (csz E.toEnc ty') (L.map (cells E.toEnc ty') ++ m.map (cells E.toEnc ty')) := by
         show AV.sl true _ (List.map _ (L ++ m)) = _
         rw [List.map_append]
        rw [e2] at this
        exact this
      ·cases h
     ·cases h
    ·cases h
   ·have hok := AJ (Y := Y) (σ := σ) (d := some d) (ty := ty) (pos := pos) (af := af) (g := g) hi hG op
    unfold kU at h
    cases hp : evP Y E G σ op ty with
    | one u =>
      rw [hp] at h hok
      refine yA hw rfl hd hok ?_
      rw [← bO]
      exact h rfl
    | opt q u =>
      rw [hp] at h hok
      obtain ⟨z,hz,h⟩ := h
      refine yA hw rfl hd (hok z hz) ?_
      rw [← bO]
      exact h rfl
    | bad => rw [hp] at h; cases h
  ·cases h
 ·cases h
theorem tC {K : AS → Prop} (hw : bi l (σ.to E.toEnc ρ) o = some false) (h : (kh E σ o).holds (OnQ P E ρ K l rest σ.h)) : lm P l K (o :: rest) (σ.to E.toEnc ρ) := by
 unfold kh at h
 split at h
 ·rename_i d hd
  split at h
  ·rename_i hn
   refine sB hw hd hn ?_
   have := h rfl
   rw [bO] at this
   exact this
  ·cases h
 ·cases h
theorem rq {K : AS → Prop} (hK : ∀ σ σ', eF σ σ' → K σ' → K σ) (hG : GOk P Y E G) (l : List Oper) (H : List (Nat × TB E.T)) (hi : Inj ρ H) : ∀ (rest : List Oper) (σ : TS E.T), σ.h = H → (qY Y E G l rest σ).holds (fun σ' => σ'.h = H → K (σ'.to E.toEnc ρ)) → lm P l K rest (σ.to E.toEnc ρ)
 | [],σ,hh,h => h hh
 | o :: rest, σ, hh, h => by
   have next : ∀ {t : Tree (TS E.T)}, (t.bind (qY Y E G l rest)).holds (fun σ' => σ'.h = H → K (σ'.to E.toEnc ρ)) → t.holds (OnQ P E ρ K l rest σ.h) := fun {t} h =>
    (bk h).mono fun σ' hσ (hh' : σ'.h = σ.h) => rq hK hG l H hi rest σ' (hh'.trans hh) hσ
   have hi' : Inj ρ σ.h := hh ▸ hi
   simp only [qY] at h
   split at h
   ·rename_i hw
    exact zT (Y := Y) hi' hG (u7 hw) (next h)
   ·rename_i hw
    exact tC (zo hw) (next h)
   ·rename_i b d hw
    obtain ⟨h1,h2⟩ := nt (ρ := ρ) hw
    cases hb : b with
    | true =>
      refine eF.q hK l _ _ _ (eF.know (x := .tt) (b := b) (by rw [hb]; rfl) h1) ?_
      exact zT (Y := Y) (σ := σ.know d .tt) hi' hG (h2 true .tt fun _ => rfl) (next (h.1 hb))
    | false =>
      refine eF.q hK l _ _ _ (eF.know (x := .ff) (b := b) (by rw [hb]; rfl) h1) ?_
      exact tC (σ := σ.know d .ff) (h2 false .ff fun _ => rfl) (next (h.2 hb))
   ·rename_i b d hw
    obtain ⟨h1,h2⟩ := nt (ρ := ρ) hw
    cases hb : b with
    | true =>
      refine eF.q hK l _ _ _ (eF.know (x := .tt) (b := b) (by rw [hb]; rfl) h1) ?_
      exact tC (σ := σ.know d .tt) (h2 true .tt fun _ => rfl) (next (h.1 hb))
    | false =>
      refine eF.q hK l _ _ _ (eF.know (x := .ff) (b := b) (by rw [hb]; rfl) h1) ?_
      exact zT (Y := Y) (σ := σ.know d .ff) hi' hG (h2 false .ff fun _ => rfl) (next (h.2 hb))
   ·cases h
theorem qs {σ σ' : AS} (h : eF σ σ') : kV σ σ' := fun F X tm hs => hs.le2 h.1.symm (fun t u' hu => ⟨u',by rw [h.2.2.2]; exact hu,.refl _⟩) (fun q cs' hq => ⟨cs',by rw [h.2.1]; exact hq,LeL.refl _⟩) (fun p hp => by rw [h.2.2.1]; exact hp)
theorem pI {xs bs : Nat → Bool} {mu : List Nat} : ∀ {l a b : List Oper}, sX xs bs mu l = (a, b) → l = a ++ b
 | [],_,_,h => by cases h; rfl
 | o :: r, a, b, h => by
   simp only [sX] at h
   split at h
   ·cases h; rfl
   ·cases hs : sX xs bs mu r with
    | mk a' b' =>
      rw [hs] at h
      cases h
      rw [pI hs]; rfl
theorem eF.als {σ σ' : AS} (h : eF σ σ') (m : List (Nat × Nat)) : eF (σ.als m) (σ'.als m) := ⟨h.1,h.2.1,by simp only [AS.als,h.2.2.1],h.2.2.2⟩
theorem zn {m : List (Nat × Nat)} : kV ((σ.to E.toEnc ρ).als m) ((σ.alsT m).to E.toEnc ρ) := fun F X tm hs => by
 refine hs.le2 rfl (fun t u' hu => ⟨u',hu,.refl _⟩) (fun q cs' hq => ⟨cs',hq,LeL.refl _⟩) (fun p hp => ?_)
 have e : ((σ.alsT m).to E.toEnc ρ).e = eTo ρ ((m.filter fun p => KQ σ p.2).map (fun p => (p.1,Root.s p.2)) ++ σ.e) := rfl
 rw [e] at hp
 simp only [eTo,List.map_append,List.map_map] at hp
 simp only [AS.als,TS.to,eTo]
 rcases List.mem_append.1 hp with hp | hp
 ·obtain ⟨q, hq, rfl⟩ := List.mem_map.1 hp
  exact List.mem_append_left _ (List.mem_map.2 ⟨q,(List.mem_filter.1 hq).1,rfl⟩)
 ·exact List.mem_append_right _ hp
theorem zH {kk : Nat} : ∀ {h : List (Nat × TB E.T)}, (∀ p ∈ h, a8 ρ p.2 = true → ρ p.1 = ρ kk → p.1 = kk) → hTo E.toEnc ρ (dq kk h) = dq (ρ kk) (hTo E.toEnc ρ h)
 | [],_ => rfl
 | p :: r, hi => by
   have ih := zH (kk := kk) (h := r) fun q hq => hi q (List.mem_cons_of_mem _ hq)
   obtain ⟨k,b⟩ := p
   have e1 : dq kk ((k,b) :: r) = if k = kk then dq kk r else (k,b) :: dq kk r := rfl
   cases hl : a8 ρ b with
   | false =>
     rw [dW _ _ hl,← ih,e1]
     split
     ·rfl
     ·rw [dW _ _ hl]
   | true =>
     rw [cM _ _ hl,e1]
     show _ = if ρ k = ρ kk then dq (ρ kk) (hTo E.toEnc ρ r) else (ρ k,b.to E.toEnc ρ) :: dq (ρ kk) (hTo E.toEnc ρ r)
     by_cases e : k = kk
     ·rw [if_pos e,if_pos (by rw [e]),ih]
     ·rw [if_neg e,if_neg (fun e2 => e (hi (k,b) List.mem_cons_self hl e2)),cM _ _ hl,← ih]
theorem m7 {α : Type} {kk : Nat} {p : Nat × α} : ∀ {h : List (Nat × α)}, p ∈ dq kk h → p ∈ h
 | [],h => by cases h
 | q :: r, h => by
   simp only [dq] at h
   split at h
   ·exact List.mem_cons_of_mem _ (m7 h)
   ·rcases List.mem_cons.1 h with rfl | h
    ·exact List.mem_cons_self
    ·exact List.mem_cons_of_mem _ (m7 h)
theorem uI {σ σ' : AS} {x : Operand} (h : ∀ t, Operand.tmp t = x → look σ.t t = look σ'.t t) : opV σ x = opV σ' x := by
 cases x with
 | tmp t => exact h t rfl
 | const v => rfl
 | func f => rfl
 | global g => rfl
theorem zR {σ1 σ2 : AS} (h1 : eF σ1 σ2) (H : List (Nat × List AV)) (kk : Nat) (cs : List AV) : eF ((σ1.withH H).setc kk cs) ((σ2.withH H).setc kk cs) :=
 ⟨h1.1,rfl,by simp only [AS.setc,AS.dropC,AS.withH,h1.2.2.1],h1.2.2.2⟩
theorem DU {id : Nat} {ops : List Oper} {body after : List Oper} {om oa : Oper} (hm : P.follows .mixedOrders = true) (hG : GOk P Y E G) (hi : Inj ρ σ.h) (he : σ.e = []) (hl : ops = body ++ om :: oa :: after) (h : (ER Y E G ops body om oa after σ).holds (OnX P E Q ρ ks ks)) : be P Q (.c (.region id ops.toArray true) :: ks) (σ.to E.toEnc ρ) := by
 obtain ⟨dst,op,ty,pos,af,g⟩ := om
 unfold ER at h
 simp only at h
 split at h
 ·rename_i t x y
  split at h
  ·rename_i kk p0 n by_ hx hz
   split at h
   ·rename_i hB
    simp only [Bool.and_eq_true] at hB
    obtain ⟨hB,hK0⟩ := hB
    have hdst : dst = none := by
     simp only [sH,Bool.and_eq_true] at hB
     have := hB.1.1.2.2
     simpa using this
    subst hdst
    obtain ⟨b0,hb0,hnv⟩ := Cp hK0
    have hn0 : hTo E.toEnc ρ (dq kk σ.h) = dq (ρ kk) (hTo E.toEnc ρ σ.h) := zH fun p hp hl e => (hi p hp (kk,b0) (bX hb0)).1 hl (sv hnv) e
    have hn1 : (σ.to E.toEnc ρ).withH (dq (ρ kk) (σ.to E.toEnc ρ).h) = (σ.withB (dq kk σ.h)).to E.toEnc ρ := by
     show AS.mk _ _ _ _ = AS.mk _ _ _ _
     rw [show (σ.withB (dq kk σ.h)).h = dq kk σ.h from rfl,hn0]; rfl
    refine Dv (k' := ρ kk) hm hl hB (by simp only [TS.to,he]; rfl) ?_
    rw [hn1]
    refine rq (Y := Y) (K := fun σ' => ∃ cs' : List AV,(∀ σ1 : AS,σ1.n = (σ.to E.toEnc ρ).n → σ1.e = [] → σ1.h = (σ.to E.toEnc ρ).h → (∀ t0,Operand.tmp t0 ∈ (Oper.mk none (.store t x y) ty pos af g).op.operands.toList → look σ1.t t0 = look σ'.t t0) → tJ P ⟨none,.store t x y,ty,pos,af,g⟩ σ1 (σ1.setc (ρ kk) cs')) ∧ be P Q (.o ops (body.length + 1) (oa :: after) :: ks) (((σ'.withH (σ.to E.toEnc ρ).h).setc (ρ kk) cs').als (dN body))) (fun σ1 σ2 h1 ⟨cs',q1,q2⟩ => ⟨cs',fun τ e1 e2 e3 e4 => q1 τ e1 e2 e3 fun t0 ht => (e4 t0 ht).trans (h1.2.2.2 t0),f9 rfl (qs (eF.als (zR h1 _ _ _) _)) q2⟩) hG ops (dq kk σ.h) (fun p hp q hq => hi p (m7 hp) q (m7 hq)) body (σ.withB (dq kk σ.h)) rfl ?_
    refine (bk h).mono fun σ' hσ (hh : σ'.h = dq kk σ.h) => ?_
    split at hσ
    ·rename_i k2 p hx2
     split at hσ
     ·rename_i hk2
      have hk2 := gS hk2
      subst hk2
      split at hσ
      ·rename_i cs hst
       unfold GI at hst
       split at hst
       ·rename_i cs0 u hb hy
        split at hst
        ·rename_i vs hvs
         split at hst
         ·rename_i hc
          cases hst
          simp only [Bool.and_eq_true] at hc
          obtain ⟨c1,c2,c3,c4⟩ := s9 (ρ := ρ) hvs
          have hb' : look σ.h k2 = some (.cs cs0) := hb
          have hy' : opT σ' y = some u := hy
          refine ⟨bG (cs0.map (TA.to E.toEnc ρ)) p (u.to E.toEnc ρ).rd.cells,fun τ e1 e2 e3 e4 => ?_,?_⟩
          ·refine fp (P := P) (T := Y) (ty := ty) (pos := pos) (af := af) (g := g) ?_ (by rw [e3]; exact io hi hb') ?_ c1 hz (by rw [c2, List.length_map]; exact hc.1) c3 c4 (by simpa using hc.2) (nX cs0)
           ·exact (uI fun t0 ht => e4 t0 (by rw [← ht]; simp [Op.operands])).trans (aH (ρ := ρ) hx2)
           ·exact (uI fun t0 ht => e4 t0 (by rw [← ht]; simp [Op.operands])).trans (aH (ρ := ρ) hy')
          ·have hle := rn (E := E) (ρ := ρ) ((look E.ct t).getD []) vs
           refine f9 rfl ?_ (f9 rfl (zn (σ := (σ'.withB σ.h).setc k2 (spl cs0 p (q9 ((look E.ct t).getD []) vs))) (m := dN body)) (mL (Y := Y) hG ops (oa :: after) (body.length + 1) _ ρ (fun i o ho => ?_) ?_ ?_ hσ))
           ·intro F X tm hs
            refine hs.le2 rfl (fun t u' hu => ⟨u',hu,.refl _⟩) (fun q cs' hq => ?_) (fun pp hp => ?_)
            ·have e : ((((σ'.withB σ.h).setc k2 (spl cs0 p (q9 ((look E.ct t).getD []) vs))).to E.toEnc ρ).als (dN body)).h = (ρ k2, (spl cs0 p (q9 ((look E.ct t).getD []) vs)).map (TA.to E.toEnc ρ)) :: hTo E.toEnc ρ σ.h := rfl
             rw [e,aj] at hq
             have e2 : ((((σ'.to E.toEnc ρ).withH (σ.to E.toEnc ρ).h).setc (ρ k2) (bG (cs0.map (TA.to E.toEnc ρ)) p (u.to E.toEnc ρ).rd.cells)).als (dN body)).h = (ρ k2,bG (cs0.map (TA.to E.toEnc ρ)) p (u.to E.toEnc ρ).rd.cells) :: hTo E.toEnc ρ σ.h := rfl
             rw [e2,aj]
             split at hq
             ·rename_i e3
              rw [if_pos e3]
              cases hq
              refine ⟨_,rfl,?_⟩
              rw [nz,c2]
              unfold bG
              rw [hle.length]
              exact ((LeL.refl _).append hle).append (LeL.refl _)
             ·rename_i e3
              rw [if_neg e3]
              exact ⟨cs',hq,LeL.refl _⟩
            ·simp only [AS.als] at hp ⊢
             rw [rl] at hp; exact hp
           ·rw [hl,List.getElem?_append_right (by omega),show body.length + 1 + i - body.length = i + 1 by omega]; simpa using ho
           ·rw [hl]; simp only [List.length_append,List.length_cons]; omega
           ·exact pb (σ := σ'.withB σ.h) hi hb _
         ·cases hst
        ·cases hst
       ·cases hst
      ·cases hσ
     ·cases hσ
    ·cases hσ
   ·cases h
  ·cases h
 ·cases h
theorem B1 {u : TV E.T} (h : Cy u = true) : ∃ x, u.to E.toEnc ρ = .v x := by
 unfold Cy at h
 split at h <;> first
  | (exact ⟨_,rfl⟩)
  | (cases h; done)
  | (obtain ⟨a,m,c,e⟩ := TA.vec_form E.toEnc ρ _ _ _; exact ⟨_,e⟩)
  | (obtain ⟨a,m,c,e⟩ := TA.vsl_form E.toEnc ρ _ _ _ _; exact ⟨_,e⟩)
def stA {T : Nat → Type} (ρ : Rn) (H : List (Nat × TB T)) (ids : List Nat) (b : Nat) : Bool := ids.any fun k => match look H k with
 | some x => a8 ρ x && Nat.beq (ρ k) b
 | none => false
theorem Bj {ids : List Nat} {H : List (Nat × TB E.T)} (hi : Inj ρ H) (hids : sU H ids = true) {p : Nat × TB E.T} (hp : p ∈ H) (hl : a8 ρ p.2 = true) : gH ids p.1 = stA ρ H ids (ρ p.1) := by
 rw [Bool.eq_iff_iff]
 unfold stA
 rw [cR,List.any_eq_true]
 constructor
 ·intro h
  refine ⟨p.1,h,?_⟩
  have := List.all_eq_true.1 hids p.1 h
  obtain ⟨b,hb⟩ := Option.isSome_iff_exists.1 this
  have h2 := (hi (p.1,b) (bX hb) p hp).2 rfl
  simp only at h2
  rw [hb]
  simp only [h2,hl,Bool.true_and]
  exact Nat.beq_refl _
 ·rintro ⟨k, hk, e⟩
  have := List.all_eq_true.1 hids k hk
  obtain ⟨b,hb⟩ := Option.isSome_iff_exists.1 this
  rw [hb] at e
  simp only [Bool.and_eq_true] at e
  have := (hi (k,b) (bX hb) p hp).1 e.1 hl (Nat.eq_of_beq_eq_true e.2)
  simp only at this
  rw [← this]; exact hk
theorem si {f : Nat × TB E.T → Bool} {g : Nat × List AV → Bool} {H : List (Nat × TB E.T)} (h : ∀ p ∈ H, a8 ρ p.2 = true → f p = g (ρ p.1, p.2.to E.toEnc ρ)) : hTo E.toEnc ρ (H.filter f) = (hTo E.toEnc ρ H).filter g := by
 unfold hTo
 rw [List.filter_map,List.filter_filter,List.filter_filter]
 congr 1
 refine List.filter_congr fun p hp => ?_
 cases hl : a8 ρ p.2 with
 | false => simp
 | true => simp only [Function.comp,Bool.true_and,Bool.and_true]; exact h p hp hl
theorem Dq {ids : List Nat} {H : List (Nat × TB E.T)} (hi : Inj ρ H) (hids : sU H ids = true) : hTo E.toEnc ρ (inH ids H) = (hTo E.toEnc ρ H).filter fun p => stA ρ H ids p.1 := si fun p hp hl => Bj hi hids hp hl
theorem HK {ids : List Nat} {H : List (Nat × TB E.T)} (hi : Inj ρ H) (hids : sU H ids = true) : hTo E.toEnc ρ (zI ids H) = (hTo E.toEnc ρ H).filter fun p => !stA ρ H ids p.1 := si fun p hp hl => by rw [Bj hi hids hp hl]
theorem BF {T : Nat → Type} {ids : List Nat} {h : List (Nat × TB T)} : ∀ p ∈ inH ids h,p ∈ h := fun p hp => (List.mem_filter.1 hp).1
theorem F3 {T : Nat → Type} {ids : List Nat} {h : List (Nat × TB T)} : ∀ p ∈ zI ids h,p ∈ h := fun p hp => (List.mem_filter.1 hp).1
theorem Inj.of_mem {T : Nat → Type} {ρ : Rn} {h h' : List (Nat × TB T)} (hi : Inj ρ h) (hs : ∀ p ∈ h',p ∈ h) : Inj ρ h' := hi.sub fun p hp => ⟨p,hs p hp,rfl,rfl⟩
def ldR (ρ : Rn) (ld : List (Nat × Nat × Nat)) : List (Nat × Nat × Nat) := ld.map fun p => (p.1,ρ p.2.1,p.2.2)
theorem D2 (ρ : Rn) (ld : List (Nat × Nat × Nat)) (d : Nat) : q8 (ldR ρ ld) d = (q8 ld d).map fun p => (p.1, ρ p.2.1, p.2.2) := by
 unfold q8 ldR
 rw [List.find?_map]; rfl
theorem BG {mB : Nat → Bool} {k : Nat} : (ww mB k σ).to E.toEnc ρ = bst mB k (σ.to E.toEnc ρ) := by
 unfold ww bst
 cases mB k <;> rfl
theorem EC {mB : Nat → Bool} {k : Nat} (hi : Inj ρ σ.h) : Inj ρ (ww mB k σ).h := by
 unfold ww
 cases mB k
 ·exact fun p hp => by cases hp
 ·exact hi
theorem vB {s : Nat} {o : Oper} : uY s o = true ↔ o.dst = some s := by
 unfold uY
 split
 ·rename_i d h; rw [h]; simp [Nat.beq_eq]
 ·rename_i h; rw [h]; simp
theorem Ds {fl : List Bool} {op : Op} {u : TV E.T} (h : mvN E l fl σ op = some u) : ∃ s, op = .move (.tmp s) ∧ opT σ (.tmp s) = some u ∧ ∀ (q : Nat) o', l[q]? = some o' → mNf fl q = true → o'.dst ≠ some s := by
 unfold mvN at h
 split at h
 ·rename_i s
  split at h
  ·rename_i ha
   refine ⟨s,rfl,h,fun q o' ho hm hd => ?_⟩
   have := List.all_eq_true.1 ha (o',q) (xf ho)
   simp only [hm,vB.2 hd] at this
   cases this
  ·cases h
 ·cases h
theorem zG {op : Op} {kk p : Nat} {c : TA E.T} (h : zS Y E σ op kk p = some c) : ∃ t x dsc cs, op = .load t x ∧ opT σ x = some (.a (.box kk p)) ∧ look Y.ty t = some dsc ∧ hQ dsc = true ∧ look σ.h kk = some (.cs cs) ∧ cs[p]? = some c := by
 unfold zS at h
 split at h
 ·rename_i t x
  split at h
  ·rename_i k2 p2 dsc cs hx h0 hb
   split at h
   ·rename_i hc
    simp only [Bool.and_eq_true] at hc
    have e1 := Nat.eq_of_beq_eq_true hc.1.1
    have e2 := Nat.eq_of_beq_eq_true hc.1.2
    subst e1 e2
    exact ⟨t,x,dsc,cs,rfl,hx,h0,hc.2,hb,h⟩
   ·cases h
  ·cases h
 ·cases h
theorem Ah {K : AS → Prop} {fl : List Bool} {mB : Nat → Bool} {ld : List (Nat × Nat × Nat)} {H : List (Nat × TB E.T)} (hG : GOk P Y E G) (hi : Inj ρ H) : ∀ (rest : List Oper) (k : Nat) (σ : TS E.T), σ.h = H → (evN Y E G l fl mB ld k rest σ).holds (fun σ' => K (σ'.to E.toEnc ρ)) → qC P l (mNf fl) mB (ldR ρ ld) K k rest (σ.to E.toEnc ρ)
 | [],k,σ,hh,h => h
 | o :: rest, k, σ, hh, h => by
   have hi' : Inj ρ σ.h := hh ▸ hi
   unfold evN at h
   unfold qC
   cases hm : mNf fl k with
   | false => rw [hm] at h; exact Ah hG hi rest (k + 1) σ hh h
   | true =>
     rw [hm] at h
     simp only at h
     obtain ⟨dst,op,ty,pos,af,g⟩ := o
     simp only at h
     split at h
     ·rename_i d
      split at h
      ·rename_i hd
       have fin : ∀ {u : TV E.T}, OpV P ⟨some d, op, ty, pos, af, none⟩ (bst mB k (σ.to E.toEnc ρ)) (u.to E.toEnc ρ) → HS P l (mNf fl) mB (ldR ρ ld) k (σ.to E.toEnc ρ) ⟨some d, op, ty, pos, af, none⟩ (u.to E.toEnc ρ) → (evN Y E G l fl mB ld (k + 1) rest (σ.put d u)).holds (fun σ' => K (σ'.to E.toEnc ρ)) → ∃ d' u', some d = some d' ∧ (none : Option (Nat × Bool)) = none ∧ Nat.ble (d' + 1) (σ.to E.toEnc ρ).n = true ∧ OpV P ⟨some d, op, ty, pos, af, none⟩ (bst mB k (σ.to E.toEnc ρ)) u' ∧ HS P l (mNf fl) mB (ldR ρ ld) k (σ.to E.toEnc ρ) ⟨some d, op, ty, pos, af, none⟩ u' ∧ qC P l (mNf fl) mB (ldR ρ ld) K (k + 1) rest ((σ.to E.toEnc ρ).put d' u') := fun {u} h1 h2 h3 => by
        refine ⟨d,u.to E.toEnc ρ,rfl,rfl,hd,h1,h2,?_⟩
        have := Ah hG hi rest (k + 1) (σ.put d u) hh h3
        rw [bO] at this
        exact this
       split at h
       ·rename_i d' kk p hld
        split at h
        ·rename_i c hmb hc
         obtain ⟨t,x,dsc,cs,rfl,hx,h0,h1,hb,hcp⟩ := zG hc
         have e : (TV.a c.rd : TV E.T).to E.toEnc ρ = (c.to E.toEnc ρ).rd := TA.rd_to _ _ _
         have hcs : (cs.map (TA.to E.toEnc ρ))[p]? = some (c.to E.toEnc ρ) := by simp [hcp]
         have hbk : bst mB k (σ.to E.toEnc ρ) = σ.to E.toEnc ρ := by unfold bst; rw [hmb]
         refine fin (u := .a c.rd) ?_ ⟨by rw [e]; exact cX _,fun d2 hd2 => ?_⟩ h
         ·rw [e, hbk]
          exact gU (T := Y) (aH (ρ := ρ) hx) (io hi' hb) hcs h0 h1 (TA.to_notMp _ _ _)
         ·cases hd2
          rw [D2,hld,e]
          refine ⟨hmb,?_⟩
          exact C4 (T := Y) (aH (ρ := ρ) hx) (io hi' hb) hcs h0 h1 (nX cs)
        ·cases h
       ·rename_i hld
        have hldn : ∀ d2,some d = some d2 → q8 (ldR ρ ld) d2 = none := fun d2 e => by cases e; rw [D2,hld]; rfl
        split at h
        ·rename_i u hu
         obtain ⟨s,rfl,hx,hs⟩ := Ds hu
         refine fin (u := u.rd) ?_ ⟨by rw [TV.rd_to]; exact cX _,fun d2 hd2 => ?_⟩ h
         ·rw [TV.rd_to]
          refine fq (x := .tmp s) ?_ (.inl rfl)
          have := aH (ρ := ρ) hx
          show look (bst mB k (σ.to E.toEnc ρ)).t s = _
          have e : (bst mB k (σ.to E.toEnc ρ)).t = (σ.to E.toEnc ρ).t := by unfold bst; cases mB k <;> rfl
          rw [e]; exact this
         ·rw [hldn d2 hd2]
          exact .inr ⟨s,rfl,hs⟩
        ·have hok := AJ (Y := Y) (σ := ww mB k σ) (d := some d) (ty := ty) (pos := pos) (af := af) (g := none) (EC hi') hG op
         cases hp : evP Y E G (ww mB k σ) op ty with
         | one u =>
           rw [hp] at h hok
           simp only at h
           split at h
           ·rename_i hdet
            obtain ⟨x,hx⟩ := B1 (ρ := ρ) hdet
            have hok' : OpV P ⟨some d,op,ty,pos,af,none⟩ ((ww mB k σ).to E.toEnc ρ) (u.to E.toEnc ρ) := hok
            rw [BG] at hok'
            exact fin hok' ⟨by rw [hx]; rfl,fun d2 hd2 => by rw [hldn d2 hd2]; exact .inl ⟨x,hx⟩⟩ h
           ·cases h
         | opt q u =>
           rw [hp] at h hok
           obtain ⟨z,hz,h⟩ := h
           simp only at h
           split at h
           ·rename_i hdet
            obtain ⟨x,hx⟩ := B1 (ρ := ρ) hdet
            have hok' : OpV P ⟨some d,op,ty,pos,af,none⟩ ((ww mB k σ).to E.toEnc ρ) ((u z).to E.toEnc ρ) := hok z hz
            rw [BG] at hok'
            exact fin hok' ⟨by rw [hx]; rfl,fun d2 hd2 => by rw [hldn d2 hd2]; exact .inl ⟨x,hx⟩⟩ h
           ·cases h
         | bad => rw [hp] at h; cases h
      ·cases h
     ·cases h
def OnS (R : AS → Prop) (RP : Value → List (Nat × List AV) → Prop) (ρ : Rn) : OL E.T → Prop
 | .st σ' => Inj ρ σ'.h → R (σ'.to E.toEnc ρ)
 | .pan v => RP v []
theorem u4 {R : AS → Prop} {RP : Value → List (Nat × List AV) → Prop} {d : Nat} {f : FuncId} {us : List (TV E.T)} {x : XR E.T} (hi : Inj ρ σ.h) (hx : x.ok P f us σ.h)
  (run : ∀ {post : AOut → List (Nat × List AV) → Prop} {ids : List Nat},aT P f (us.map (TV.to E.toEnc ρ)) (hTo E.toEnc ρ (cq σ.h ids)) post → (∀ u H',post (.ret u) H' → R ((dT (σ.to E.toEnc ρ) [] (hTo E.toEnc ρ (dropHH ids σ.h)) H').put d u)) → (∀ v H',post (.pan v) H' → RP v []) → sc P o (σ.to E.toEnc ρ) R RP)
  (h : (xM σ d x).holds (OnS R RP ρ)) : sc P o (σ.to E.toEnc ρ) R RP := by
 have goOn : ∀ {ids : List Nat} {h' : List (Nat × TB E.T)} {u : TV E.T}, bR σ.h ids = true → nvH (cq σ.h ids) = true → nvH h' = true → h'.map (·.1) = ids → OnS R RP ρ (.st ((σ.give ids h').put d u)) → R ((dT (σ.to E.toEnc ρ) [] (hTo E.toEnc ρ (dropHH ids σ.h)) (hTo E.toEnc ρ h')).put d (u.to E.toEnc ρ)) := fun {ids h' u} hg hk hv hm hq => by
  have := hq (yB hi hg hk hv hm)
  rw [bO,BZ] at this
  exact this
 cases x with
 | bad => cases h
 | mv ov ids mvs nw u hh => cases h
 | ret ov ids u hh =>
   unfold xM ud at h
   simp only at h
   split at h
   ·rename_i hg
    rw [Bool.and_eq_true] at hg
    obtain ⟨hg,hk⟩ := hg
    obtain ⟨z,hz,h⟩ := h
    obtain ⟨hm,hc⟩ := hx z hz
    simp only at h
    refine run (hc ρ hi) ?_ ?_
    ·rintro u' H' ⟨e, rfl⟩
     cases e
     split at h
     ·rename_i hv; exact goOn hg hk hv hm h
     ·cases h
    ·rintro v H' ⟨e, _⟩
     cases e
   ·cases h
 | may ov ids u hh =>
   unfold xM ud at h
   simp only at h
   split at h
   ·rename_i hg
    rw [Bool.and_eq_true] at hg
    obtain ⟨hg,hk⟩ := hg
    obtain ⟨p,hp,h⟩ := h
    obtain ⟨hm,hc⟩ := hx p hp
    cases p with
    | ok z =>
      refine run (hc ρ hi) ?_ ?_
      ·rintro u' H' ⟨e, rfl⟩
       cases e
       have h1 := h.1 z rfl
       simp only at h1
       split at h1
       ·rename_i hv; exact goOn hg hk hv (hm z rfl) h1
       ·cases h1
      ·rintro v H' ⟨e, _⟩
       cases e
    | pan v =>
      refine run (hc ρ hi) ?_ ?_
      ·intro u' H' e
       cases e
      ·intro v' H' e
       cases e
       exact h.2 v rfl
   ·cases h
theorem Js {R : AS → Prop} {RP : Value → List (Nat × List AV) → Prop} {all : Bool} (hi : Inj ρ σ.h) (hG : GOk P Y E G) (hR : all = true → Low R) (h : (evE Y E G all o σ).holds (OnS R RP ρ)) : sc P o (σ.to E.toEnc ρ) R RP := by
 have pure : ∀ {d : Nat}, o.dst = some d → Nat.ble (d + 1) σ.n = true → ((kU Y E G σ d o.op o.type).bind fun σ' => Tree.leaf (OL.st σ')).holds (OnS R RP ρ) → sc P o (σ.to E.toEnc ρ) R RP := fun {d} h1 h2 h3 => by
  refine sS (hD (Y := Y) (R := R) (A := fun ρ' => ρ' = ρ) hi hG rfl h1 h2 ?_)
  refine (bk h3).mono fun σ' hσ ρ' hi' e => ?_
  subst e
  exact hσ hi'
 unfold evE at h
 split at h
 ·cases h
 ·rename_i hg
  split at h
  ·rename_i f xs ats hop
   split at h
   ·rename_i d hf hdst
    split at h
    ·rename_i us hd hx
     obtain ⟨dst,op,ty,pos,af,g⟩ := o
     simp only at hop hdst hg
     subst hop hdst hg
     refine u4 hi (nb hG.x f _ σ.h) (fun {post ids} hc hr hp => ?_) h
     have hpa := kf (f0 (ρ := ρ) hx) (fF [] us (eN _ _)) (ee _ _)
     refine vJ hc hpa (fG _) (fun kk oo hm => absurd (List.eq_of_mem_replicate hm) (by simp)) (j8 hi ids) (fun kk cs hk => by rw [il]; exact mM hi ids kk cs hk) hd ?_ ?_ ?_
     ·intro u H' hp'
      rw [fu]
      exact hr u H' hp'
     ·intro v H' hp'
      exact ⟨[],fun k cs hk => by simp [aO] at hk,hp v H' hp'⟩
     ·intro H'
      rw [fu]; rfl
    ·cases h
   ·rename_i d hf hdst
    split at h
    ·rename_i hd
     exact pure hdst hd h
    ·cases h
   ·cases h
  ·split at h
   ·split at h
    ·rename_i hc
     refine sS (tn (Y := Y) (R := R) (A := fun ρ' => ρ' = ρ) hi hG (hR rfl) rfl (fun e => by rw [hc] at e; cases e) ?_)
     refine (bk h).mono fun σ' hσ ρ' hi' e => ?_
     subst e
     exact hσ hi'
    ·cases h
   ·rename_i d hdst
    split at h
    ·rename_i hd
     exact pure hdst hd h
    ·cases h
   ·cases h
theorem p9 {n : Nat} {RP : Value → List (Nat × List AV) → Prop} {K : AS → Prop} (hK : Low K) : ∀ l : List Oper, Low (lC P n RP K l)
 | [] => hK
 | o :: rest => fun σ σ' hn hs h => by
   refine ⟨hn.trans h.1,fun F X a hsim => ?_⟩
   rw [hn]
   exact h.2 F X a (hs _ _ _ hsim)
theorem BP {K : AS → Prop} {RP : Value → List (Nat × List AV) → Prop} {all : Bool} {n : Nat} (hG : GOk P Y E G) (hK : all = true → Low K) : ∀ (cs : List Nat) (σ : TS E.T), Inj ρ σ.h → (HB Y E G all n l cs σ).holds (OnS K RP ρ) → lC P n RP K (cs.filterMap fun i => l[i]?) (σ.to E.toEnc ρ)
 | [],σ,hi,h => h hi
 | c :: cs, σ, hi, h => by
   unfold HB at h
   split at h
   ·rename_i o hn ho
    rw [List.filterMap_cons,ho]
    refine ⟨Nat.eq_of_beq_eq_true hn,Js (Y := Y) hi hG (fun e => p9 (hK e) _) ?_⟩
    refine (bk h).mono fun x hx => ?_
    cases x with
    | st σ' => exact fun hi' => BP hG hK cs σ' hi' hx
    | pan v => exact hx
   ·cases h
theorem Hg (m : List (Nat × Nat)) : (σ.alsA m).to E.toEnc ρ = (σ.to E.toEnc ρ).als m := by
 have e : eTo ρ (m.map (fun p => (p.1, Root.s p.2)) ++ σ.e) = m.map (fun p => (p.1, Root.s p.2)) ++ eTo ρ σ.e := by
  unfold eTo
  rw [List.map_append,List.map_map]; rfl
 show AS.mk _ _ _ _ = AS.mk _ _ _ _
 congr 1
theorem Hq (ld : List (Nat × Nat × Nat)) : (σ.alcT ld).to E.toEnc ρ = (σ.to E.toEnc ρ).alc (ldR ρ ld) := by
 have e : eTo ρ (ld.map (fun p => (p.1, Root.c p.2.1 p.2.2)) ++ σ.e) = (ldR ρ ld).map (fun p => (p.1, Root.c p.2.1 p.2.2)) ++ eTo ρ σ.e := by
  unfold eTo ldR
  rw [List.map_append,List.map_map,List.map_map]; rfl
 show AS.mk _ _ _ _ = AS.mk _ _ _ _
 congr 1
theorem qFS : kV (σ.to E.toEnc ρ) (σ.ownE.to E.toEnc ρ) := fun F X tm hs => by
 refine hs.le2 rfl (fun t u' hu => ⟨u',hu,.refl _⟩) (fun q cs' hq => ⟨cs',hq,LeL.refl _⟩) (fun p hp => ?_)
 simp only [TS.to,TS.ownE,eTo,List.mem_map] at hp ⊢
 obtain ⟨q,hq,rfl⟩ := hp
 exact ⟨q,(List.mem_filter.1 hq).1,rfl⟩
theorem EQ {fl : List Bool} {ld : List (Nat × Nat × Nat)} (h : GQ l fl ld = true) : ((ldR ρ ld).map (·.1)).Nodup ∧ ∀ p ∈ ldR ρ ld, ∃ (q : Nat) (o : Oper), l[q]? = some o ∧ mNf fl q = true ∧ o.dst = some p.1 := by
 unfold GQ at h
 rw [Bool.and_eq_true] at h
 have e : (ldR ρ ld).map (·.1) = ld.map (·.1) := by unfold ldR; rw [List.map_map]; rfl
 refine ⟨by rw [e]; exact of_decide_eq_true h.1,fun p hp => ?_⟩
 obtain ⟨p0,hp0,rfl⟩ := List.mem_map.1 hp
 have := List.all_eq_true.1 h.2 p0 hp0
 obtain ⟨q,hq,hc⟩ := List.any_eq_true.1 this
 rw [Bool.and_eq_true] at hc
 have hq' : l[q.2]? = some q.1 := by
  have := List.mem_zipIdx_iff_getElem?.1 hq
  simpa using this
 exact ⟨q.2,q.1,hq',hc.1,vB.1 hc.2⟩
theorem zF {l : List Nat} {i : Nat} (h : ub l i = true) : i ∈ l := by
 induction l with
 | nil => cases h
 | cons a r ih =>
   simp only [ub] at h
   first
    | (split at h
       ·rename_i e; rw [Nat.eq_of_beq_eq_true e]; exact List.mem_cons_self
       ·exact List.mem_cons_of_mem _ (ih h))
    | (simp only [Bool.or_eq_true] at h
       rcases h with h | h
       ·have := Nat.eq_of_beq_eq_true h; subst this; exact List.mem_cons_self
       ·exact List.mem_cons_of_mem _ (ih h))
theorem sO {L : Type} {K : L → Prop} : ∀ {ts : List (Tree L)}, (JD ts).holds K → ∀ t ∈ ts, t.holds K
 | [],h,t,ht => by cases ht
 | [t], h, t', ht => by
   rw [List.mem_singleton] at ht
   subst ht; exact h
 | t :: t2 :: r, h, t', ht => by
   rcases List.mem_cons.1 ht with rfl | ht
   ·exact h.1 rfl
   ·exact sO (ts := t2 :: r) h.2 t' ht
def OnA (R : AS → Prop) (RP : Value → List (Nat × List AV) → Prop) (ρ : Rn) : OL E.T → Prop
 | .st σ' => ∀ ρ',Inj ρ' σ'.h → Agr ρ ρ' → R (σ'.to E.toEnc ρ')
 | .pan v => RP v []
theorem OnA.toS {R : AS → Prop} {RP : Value → List (Nat × List AV) → Prop} {x : OL E.T} (h : OnA R RP ρ x) : OnS R RP ρ x := by
 cases x with
 | st σ' => exact fun hi => h ρ hi (Agr.refl ρ)
 | pan v => exact h
theorem Fo {R : AS → Prop} {RP : Value → List (Nat × List AV) → Prop} (hi : Inj ρ σ.h) (hG : GOk P Y E G) (hR : Low R) (h : (evA Y E G o σ).holds (OnA R RP ρ)) : o.guard = none ∧ sc P o (σ.to E.toEnc ρ) R RP := by
 have old : ((q6 Y E G o σ).bind fun σ' => Tree.leaf (OL.st σ')).holds (OnA R RP ρ) → sc P o (σ.to E.toEnc ρ) R RP := fun h =>
  sS (tn (Y := Y) (R := R) (A := Agr ρ) hi hG hR (Agr.refl ρ) (fun _ d b hn => Agr.updB hn) ((bk h).mono fun σ' hσ => hσ))
 unfold evA at h
 split at h
 ·cases h
 ·rename_i hg
  refine ⟨hg,?_⟩
  split at h
  ·rename_i f xs ats hop
   split at h
   ·rename_i d hf hdst
    split at h
    ·rename_i us hd hx
     obtain ⟨dst,op,ty,pos,af,g⟩ := o
     simp only at hop hdst hg
     subst hop hdst hg
     refine u4 hi (nb hG.x f _ σ.h) (fun {post ids} hc hr hp => ?_) (h.mono fun x hx => hx.toS)
     have hpa := kf (f0 (ρ := ρ) hx) (fF [] us (eN _ _)) (ee _ _)
     refine vJ hc hpa (fG _) (fun kk oo hm => absurd (List.eq_of_mem_replicate hm) (by simp)) (j8 hi ids) (fun kk cs hk => by rw [il]; exact mM hi ids kk cs hk) hd ?_ ?_ ?_
     ·intro u H' hp'
      rw [fu]
      exact hr u H' hp'
     ·intro v H' hp'
      exact ⟨[],fun k cs hk => by simp [aO] at hk,hp v H' hp'⟩
     ·intro H'
      rw [fu]; rfl
    ·cases h
   ·exact old h
  ·exact old h
theorem DS {n0 : Nat} (hK : Low (fun τ => be P Q ks τ)) : ∀ (n : Nat) (done : List Nat), Low (zX P Q ks l n0 n done)
 | 0,done => fun σ σ' hn hs h => ⟨h.1,hK σ σ' hn hs h.2⟩
 | n + 1, done => fun σ σ' hn hs h => ⟨fun e => hK σ σ' hn hs (h.1 e), fun i hi o ho => by
   obtain ⟨h1,h2,h3⟩ := h.2 i hi o ho
   refine ⟨hn.trans h1,h2,fun F X a hsim => ?_⟩
   rw [hn]
   exact h3 F X a (hs _ _ _ hsim)⟩
theorem BC {n0 : Nat} (hG : GOk P Y E G) (hK : Low (fun τ => be P Q ks τ)) (l : List Oper) : ∀ (n : Nat) (done : List Nat) (σ : TS E.T) (ρ : Rn), Inj ρ σ.h → (Dl Y E G n0 l n done σ).holds (OnX P E Q ρ ks ks) → zX P Q ks l n0 n done (σ.to E.toEnc ρ)
 | 0, done, σ, ρ, hi, h => by
   unfold Dl at h
   split at h
   ·rename_i e; exact ⟨e,h ρ hi (Agr.refl ρ)⟩
   ·cases h
 | n + 1, done, σ, ρ, hi, h => by
   unfold Dl at h
   split at h
   ·rename_i e
    exact ⟨fun _ => h ρ hi (Agr.refl ρ),fun i hi' => by rw [e] at hi'; cases hi'⟩
   ·rename_i e
    refine ⟨fun e' => absurd e' (by simpa using e),fun i hi' o ho => ?_⟩
    have hb := sO h _ (List.mem_map_of_mem hi')
    simp only [ho] at hb
    split at hb
    ·rename_i o' hn e1
     have e2 : o = o' := Option.some.inj e1
     subst e2
     have := Fo (Y := Y) (R := zX P Q ks l n0 n (i :: done)) (RP := fun v H2 => Stk P Q ks (.panic [{ v := v, recovered := false }]) ⟨n0, [], H2, []⟩) hi hG (DS hK n _) ((bk hb).mono fun x hx => by
      cases x with
      | st σ' => exact fun ρ' hi2 ha => BC hG hK l n (i :: done) σ' ρ' hi2 (Tree.holds.mono (fun y hy => OnX.agr ha hy) hx)
      | pan v => exact hx _)
     exact ⟨Nat.eq_of_beq_eq_true hn,this.1,this.2⟩
    ·cases hb
theorem BA {id : Nat} {ops : List Oper} (hm : P.follows .mixedOrders = true) (hG : GOk P Y E G) (hi : Inj ρ σ.h) (h : (CA Y E G ops σ).holds (OnX P E Q ρ ks ks)) : be P Q (.c (.region id ops.toArray true) :: ks) (σ.to E.toEnc ρ) := by
 unfold CA at h
 split at h
 ·refine xe ?_
  refine JL hm ?_
  refine BC (Y := Y) hG (pr rfl) ops ops.length [] σ ρ hi (h.mono fun x hx => ?_)
  cases x with
  | st σ' => exact fun ρ' hi' ha => w4 rfl (hx ρ' hi' ha)
  | pan v => exact hx
 ·cases h
theorem BN {p : Nat → Prop} (hp : ∀ (q : Nat) oq, l[q]? = some oq → p q → ∀ d ∈ b9 oq, p d) : ∀ (n : Nat) (S : List Nat), (∀ j ∈ S, p j) → ∀ j ∈ Jy l n S, p j
 | 0,S,h => h
 | n + 1, S, h => BN hp n _ (by
   split
   ·rename_i o h1 h2
    intro j hj
    rcases List.mem_append.1 hj with hj | hj
    ·exact hp n o h2 (h n (zF h1)) j hj
    ·exact h j hj
   ·exact h)
theorem xY {K : AS → Prop} {RP : Value → List (Nat × List AV) → Prop} {n : Nat} (hG : GOk P Y E G) (hK : Low K) : ∀ (cs : List Nat) (σ : TS E.T) (ρ : Rn), Inj ρ σ.h → (B4 Y E G n l cs σ).holds (OnA K RP ρ) → lC P n RP K (cs.filterMap fun i => l[i]?) (σ.to E.toEnc ρ)
 | [],σ,ρ,hi,h => h ρ hi (Agr.refl ρ)
 | c :: cs, σ, ρ, hi, h => by
   unfold B4 at h
   split at h
   ·rename_i o hn ho
    rw [List.filterMap_cons,ho]
    refine ⟨Nat.eq_of_beq_eq_true hn,(Fo (Y := Y) hi hG (p9 hK _) ?_).2⟩
    refine (bk h).mono fun x hx => ?_
    cases x with
    | st σ' =>
      intro ρ' hi' ha
      refine xY hG hK cs σ' ρ' hi' (Tree.holds.mono (fun y hy => ?_) hx)
      cases y with
      | st τ => exact fun ρ'' hi'' ha' => hy ρ'' hi'' (ha.trans ha')
      | pan v => exact hy
    | pan v => exact hx
   ·cases h
theorem Fc {id : Nat} {ops : List Oper} {fl : List Bool} {ids cs1 cs2 : List Nat} {ld : List (Nat × Nat × Nat)} (hm : P.follows .mixedOrders = true) (hG : GOk P Y E G) (hi : Inj ρ σ.h) (he : σ.e = []) (h : (Fy Y E G ops σ fl ids cs1 cs2 ld).holds (OnX P E Q ρ ks ks)) : be P Q (.c (.region id ops.toArray true) :: ks) (σ.to E.toEnc ρ) := by
 unfold Fy at h
 split at h
 ·rename_i hB
  simp only [Bool.and_eq_true] at hB
  obtain ⟨⟨hB,hids⟩,hld⟩ := hB
  obtain ⟨hld1,hld2⟩ := EQ (ρ := ρ) hld
  refine xe ?_
  refine Gf (st := stA ρ σ.h ids) (mN := mNf fl) (mB := mBf ops cs2) (ld := ldR ρ ld) (cs1 := cs1) (cs2 := cs2) hm (Ic hB) (fun i c o hmi hmb hc ho => ?_) (by simp only [TS.to,he]; rfl) hld1 hld2 ?_
  ·unfold mBf at hmb
   cases cs2 with
   | nil => cases hc
   | cons c' r =>
     simp only [List.head?_cons,Option.some.injEq] at hc
     subst hc
     exact fun p hp hc => BN hp (c' + 1) [c'] (fun j hj => by rw [List.mem_singleton] at hj; subst hj; exact hc) i (zF hmb)
  ·have e1 : (σ.to E.toEnc ρ).withH ((σ.to E.toEnc ρ).h.filter fun p => stA ρ σ.h ids p.1) = (σ.withB (inH ids σ.h)).to E.toEnc ρ := by
    show AS.mk _ _ _ _ = AS.mk _ _ _ _
    rw [show (σ.withB (inH ids σ.h)).h = inH ids σ.h from rfl,Dq hi hids]; rfl
   rw [e1]
   refine Ah (Y := Y) hG (hi.of_mem BF) ops 0 _ rfl ?_
   refine (bk h).mono fun σN hN => ?_
   have e2 : ((σN.to E.toEnc ρ).withH ((σ.to E.toEnc ρ).h.filter fun p => !stA ρ σ.h ids p.1)).als (lU ops (mNf fl) 0 ops) = ((σN.withB (zI ids σ.h)).alsA (lU ops (mNf fl) 0 ops)).to E.toEnc ρ := by
    rw [Hg]
    congr 1
    show AS.mk _ _ _ _ = AS.mk _ _ _ _
    rw [show (σN.withB (zI ids σ.h)).h = zI ids σ.h from rfl,HK hi hids]; rfl
   rw [e2]
   refine BP (Y := Y) (all := false) hG (fun e => by cases e) cs1 _ (hi.of_mem F3) ?_
   refine (bk hN).mono fun x hx => ?_
   cases x with
   | pan v => exact ⟨[],fun k cs hk => by simp [aO] at hk,hx _⟩
   | st σ1 =>
     intro hi1
     simp only [wC] at hx
     split at hx
     ·rename_i hs
      simp only [Bool.and_eq_true] at hs
      have hin : Inj ρ (σ1.h ++ inH ids σ.h) := hi.sub fun p hp => by
       rcases List.mem_append.1 hp with hp | hp
       ·have := List.all_eq_true.1 hs.1.1 p.1 (List.mem_map_of_mem hp)
        obtain ⟨b,hb⟩ := Option.isSome_iff_exists.1 this
        have hno := List.all_eq_true.1 hs.1.2 p hp
        have hou : (p.1,b) ∈ zI ids σ.h := List.mem_filter.2 ⟨bX hb,hno⟩
        exact ⟨(p.1,b),bX hb,rfl,by rw [wP hs.2.1 hp]; exact wP hs.2.2 hou ρ⟩
       ·exact ⟨p,BF p hp,rfl,rfl⟩
      have e3 : ((σ1.to E.toEnc ρ).withH ((σ1.to E.toEnc ρ).h ++ (σ.to E.toEnc ρ).h.filter fun p => stA ρ σ.h ids p.1)).alc (ldR ρ ld) = ((σ1.withB (σ1.h ++ inH ids σ.h)).alcT ld).to E.toEnc ρ := by
       rw [Hq]
       congr 1
       show AS.mk _ _ _ _ = AS.mk _ _ _ _
       have : hTo E.toEnc ρ (σ1.h ++ inH ids σ.h) = hTo E.toEnc ρ σ1.h ++ hTo E.toEnc ρ (inH ids σ.h) := oL _ _ _ _
       rw [show (σ1.withB (σ1.h ++ inH ids σ.h)).h = σ1.h ++ inH ids σ.h from rfl,this,Dq hi hids]; rfl
      rw [e3]
      refine (p9 (pr rfl) _).low ?_ qFS rfl
      refine xY (Y := Y) hG (pr rfl) cs2 _ ρ hin ?_
      refine hx.mono fun y hy => ?_
      cases y with
      | pan v => exact hy _
      | st σ3 => exact fun ρ3 hi3 ha3 => w4 rfl (hy ρ3 hi3 ha3)
     ·cases hx
 ·exact BA (Y := Y) hm hG hi h
theorem AW {id : Nat} {ops : List Oper} (hm : P.follows .mixedOrders = true) (hG : GOk P Y E G) (hi : Inj ρ σ.h) (h : (Hm Y E G ops σ).holds (OnX P E Q ρ ks ks)) : be P Q (.c (.region id ops.toArray true) :: ks) (σ.to E.toEnc ρ) := by
 unfold Hm at h
 split at h
 ·rename_i he
  exact Fc (Y := Y) hm hG hi he h
 ·cases h
theorem Jx {id : Nat} {ops : Array Oper} {draw : Bool} (hm : P.follows .mixedOrders = true) (hG : GOk P Y E G) (hi : Inj ρ σ.h) (h : (evR Y E G ops.toList draw σ).holds (OnX P E Q ρ ks ks)) : be P Q (.c (.region id ops draw) :: ks) (σ.to E.toEnc ρ) := by
 have hops : ops = ops.toList.toArray := by simp
 unfold evR at h
 split at h
 ·rw [hops]
  refine iV ?_
  exact mL (Y := Y) hG ops.toList ops.toList 0 σ ρ (fun i o ho => by simpa using ho) (by simp) hi h
 ·split at h
  ·rename_i he
   split at h
   ·rename_i hB
    rw [hops]
    refine xe ?_
    refine BV hm hB (by simp only [TS.to,he]; rfl) ?_
    refine rq (Y := Y) (K := fun σ' => be P Q (.o [] 0 [] :: ks) σ') (fun σ1 σ2 h1 h2 => f9 rfl (qs h1) h2) hG ops.toList σ.h hi ops.toList σ rfl ?_
    exact (bk h).mono fun σ' hσ (hh : σ'.h = σ.h) => w4 rfl (hσ ρ (hh ▸ hi) (Agr.refl ρ))
   ·cases h
  ·rename_i body om after hsp he
   split at h
   ·rename_i hB
    have hl := pI hsp
    rw [hops]
    refine Ga hm hl hB (by simp only [TS.to,he]; rfl) ?_
    refine rq (Y := Y) (K := fun σ' => be P Q (.o ops.toList body.length (om :: after) :: ks) (σ'.als (dN body))) (fun σ1 σ2 h1 h2 => f9 rfl (qs (h1.als _)) h2) hG ops.toList σ.h hi body σ rfl ?_
    refine (bk h).mono fun σ' hσ (hh : σ'.h = σ.h) => ?_
    refine f9 rfl zn ?_
    refine mL (Y := Y) hG ops.toList (om :: after) body.length (σ'.alsT (dN body)) ρ (fun i o ho => ?_) ?_ (hh ▸ hi) hσ
    ·rw [hl,List.getElem?_append_right (by omega)]; simpa using ho
    ·rw [hl]; simp
   ·split at h
    ·split at h
     ·rw [hops]
      exact DU (Y := Y) hm hG hi he (pI hsp) h
     ·rw [hops]
      exact AW (Y := Y) hm hG hi h
    ·rw [hops]
     exact AW (Y := Y) hm hG hi h
  ·cases h
end
end Go.Proofs.Ytlhjbhgkhpbnfaa
namespace Go.Proofs.Ytlhjbhgkhpbnfaa
open Go.RowKit P
set_option linter.unusedVariables false
set_option linter.unusedSimpArgs false
def n4 (X : GW) (k : Nat) (cs : List AV) : Prop := X.g k = some cs.length ∧ ∃ (arr : Array Value) (e : TypeId) (fr : Nat × Nat),X.w.heap[k]? = some (.cells arr e fr) ∧ arr.size = cs.length ∧ ∀ (o : Nat) u x,cs[o]? = some u → arr[o]? = some x → Rel X u x
def AS.unbox (σ : AS) (k : Nat) : AS := { n := σ.n,t := σ.t,h := σ.h.filter fun p => !(p.1 == k),e := [] }
theorem SimE.freeze {F : Nat → Prop} {X : GW} {σ : AS} {tm : Array Value} {k : Nat} {cs : List AV} (h : SimE F X σ tm) (hb : look σ.h k = some cs) (hm : eq cs = false) :
  ∃ X' : GW,X'.w = X.w ∧ SimE F X' (σ.unbox k) tm ∧ n4 X' k cs ∧ Ext F X X' := by
 obtain ⟨b1,b2,arr,el,fr,b3,b4,b5,b6⟩ := (h.box k cs hb).cells hm
 have hkl : k < X.w.heap.size := (Array.getElem?_eq_some_iff.1 b3).1
 have hpres : jE X ⟨X.w, fun b => if b = k then some cs.length else X.g b⟩ := fun b m hbm => by
  have hbk : b ≠ k := fun e => by rw [e,b1] at hbm; cases hbm
  exact ⟨m,Nat.le_refl _,by show (if b = k then _ else _) = _; rw [if_neg hbk]; exact hbm,fun _ _ => rfl⟩
 have hown : ∀ {sz' : Nat} {l' : List (List AV)} {x : Value}, eP F X sz' l' x → eP F ⟨X.w, fun b => if b = k then some cs.length else X.g b⟩ sz' l' x := fun {sz' l' x} ho => by
  rcases ho with h1 | ⟨b,cap,cs',e',fr',h1,h2,h3,h4,h5,h6⟩
  ·exact .inl h1
  ·have hbk : b ≠ k := fun e => by rw [e, b1] at h2; cases h2
   exact .inr ⟨b,cap,cs',e',fr',h1,by show (if b = k then _ else _) = _; rw [if_neg hbk]; exact h2,h3,h4,h5,h6⟩
 have owns : ∀ r sz' l', (σ.unbox k).own r = some (sz', l') → σ.own r = some (sz', l') := fun r sz' l' ho => by
  cases r with
  | s t => exact ho
  | c k' o =>
    simp only [AS.unbox,AS.own] at ho
    cases hq : look (σ.h.filter fun p => !(p.1 == k)) k' with
    | none => rw [hq] at ho; cases ho
    | some cs' =>
      obtain ⟨q1,q2⟩ := gO hq
      rw [hq] at ho
      simp only [AS.own,q2]; exact ho
 refine ⟨⟨X.w,fun b => if b = k then some cs.length else X.g b⟩,rfl,⟨⟨h.size,fun b m hbm => ?_,h.fb,fun t u hu => (h.slot t u hu).mono hpres,fun k' cs' hk' => ?_,fun x r hx => by simp [AS.unbox,aO] at hx,fun r sz' l' ho => ?_,fun r r' s1 l1 s2 l2 a n1 c1 a' n2 c2 hne ho ho' hr hr' => ?_⟩,fun p hp => by cases hp⟩,⟨by show (if k = k then _ else _) = _; rw [if_pos rfl],arr,el,fr,b3,b4,fun o u x hu hx => (b6 o u x hu hx).mono hpres⟩,rfl,rfl,rfl,Nat.le_refl _,fun b hF => ⟨rfl,?_⟩,hpres⟩
 ·simp only at hbm
  split at hbm
  ·rename_i e; rw [e]; exact hkl
  ·exact h.gb b m hbm
 ·obtain ⟨q1, q2⟩ := gO hk'
  exact (h.box k' cs' q2).keep ⟨rfl,by show (if k' = k then _ else _) = _; rw [if_neg q1],(h.box k' cs' q2).nF⟩ hpres
 ·obtain ⟨x, k1, k2⟩ := h.own r sz' l' (owns r sz' l' ho)
  exact ⟨x,k1,hown k2⟩
 ·exact h.disj r r' s1 l1 s2 l2 a n1 c1 a' n2 c2 hne (owns _ _ _ ho) (owns _ _ _ ho') hr hr'
 ·show (if b = k then _ else _) = _
  rw [if_neg (fun e => b2 (by rw [← e]; exact hF))]
theorem n4.sl {X : GW} {k : Nat} {cs : List AV} (h : n4 X k cs) {sz : Nat} {L : List (List AV)} {sp : List AV} {c : Nat} (hcs : cs = L.flatten ++ sp) (hsz : ∀ r ∈ L, r.length = sz) (hc : L.length ≤ c) : Rel X (.sl false sz L) (.slice (some ⟨k, 0, none⟩) L.length c) := by
 obtain ⟨h1,arr,e,fr,h2,h3,h4⟩ := h
 have hcell : ∀ (i j : Nat) (r : List AV) (u : AV), L[i]? = some r → r[j]? = some u → ∃ x, arr[i * sz + j]? = some x ∧ Rel X u x := fun i j r u hi hj => by
  have k1 := sw hsz hi hj
  have k2 : cs[i * sz + j]? = some u := by rw [hcs,List.getElem?_append_left (List.getElem?_eq_some_iff.1 k1).1]; exact k1
  have k3 : i * sz + j < arr.size := by rw [h3]; exact (List.getElem?_eq_some_iff.1 k2).1
  exact ⟨arr[i * sz + j],Array.getElem?_eq_getElem k3,h4 _ _ _ k2 (Array.getElem?_eq_getElem k3)⟩
 refine .sl false sz L k 0 c cs.length (fun i j => arr.getD (i * sz + j) undef) h1 (by rw [hcs,List.length_append,oN hsz]; omega) hc (fun i r hi => hsz r (List.mem_of_getElem? hi)) (fun i j r u hi hj => ?_) (fun i j r u hi hj => ?_)
 ·obtain ⟨x, k1, k2⟩ := hcell i j r u hi hj
  show X.w.cell? ⟨k,0 + i * sz + j,none⟩ = _
  simp only [World.cell?,h2,Nat.zero_add,Array.getD_eq_getD_getElem?,k1]; rfl
 ·obtain ⟨x, k1, k2⟩ := hcell i j r u hi hj
  rw [Array.getD_eq_getD_getElem?,k1]
  exact k2
theorem n4.el {X : GW} {k : Nat} {cs : List AV} (h : n4 X k cs) : Rel X (.el cs) (.pointer (some ⟨k, 0, none⟩)) := by
 obtain ⟨h1,arr,e,fr,h2,h3,h4⟩ := h
 have hcell : ∀ (j : Nat) (u : AV), cs[j]? = some u → ∃ x, arr[j]? = some x ∧ Rel X u x := fun j u hj => by
  have k3 : j < arr.size := by rw [h3]; exact (List.getElem?_eq_some_iff.1 hj).1
  exact ⟨arr[j],Array.getElem?_eq_getElem k3,h4 _ _ _ hj (Array.getElem?_eq_getElem k3)⟩
 refine .el cs k 0 cs.length (fun j => arr.getD j undef) h1 (by omega) (fun j u hj => ?_) (fun j u hj => ?_)
 ·obtain ⟨x, k1, k2⟩ := hcell j u hj
  simp only [World.cell?,h2,Nat.zero_add,Array.getD_eq_getD_getElem?,k1]; rfl
 ·obtain ⟨x, k1, k2⟩ := hcell j u hj
  rw [Array.getD_eq_getD_getElem?,k1]
  exact k2
end Go.Proofs.Ytlhjbhgkhpbnfaa
namespace Go.Proofs.Ytlhjbhgkhpbnfaa
open Go.RowKit P
set_option linter.unusedVariables false
set_option linter.unusedSimpArgs false
def o5 {α : Type} (n : Nat) (l : List α) : Option (List α) := if n = l.length then some l else none
theorem vq {α : Type} {n : Nat} {l r : List α} (h : o5 n l = some r) : r = l ∧ n = l.length := by
 unfold o5 at h
 split at h
 ·rename_i e; cases h; exact ⟨rfl,e⟩
 ·cases h
inductive Cl where
 | v (t : Ty)
 | b (n : Nat)
 | a (n : Nat)
inductive Pl where
 | s (s : Nat)
 | c (k o : Nat)
inductive Gh where
 | nl (p : Pl) (i : Nat) (t : Ty)
 | cl (i : Nat) (c : Cl) (p : Pl)
def Id (E : Env) (i : Nat) (c : Cl) (b : TB E.T) (x : TA E.T) : Tree (TA E.T) :=
 match c,b,x with
 | .v t, .vec i' t' l, .vec t2 i2 n => match Nat.beq i' i && Nat.beq i2 i, gL (.sl t') (.sl t) l, decide (t2 = t) with
   | true,some l',true => .bnd (o5 n l') fun r => .leaf (.d (.sl t) r)
   | _,_,_ => .fail
 | .b n, .cs l, .box i2 0 => match Nat.beq i2 i, E.pk n (l.map TA.rd) with
   | true,some (z,[]) => .leaf (.d (.ptr (.nam n)) (some z))
   | _,_ => .fail
 | .a n, .row .bool l, .box i2 0 => match Nat.beq i2 i with
   | true => .bnd (o5 n l) fun r => .leaf (.d (.ptr (.bits n)) (some r))
   | false => .fail
 | _,_,_ => .fail
def ghT (E : Env) (g : Gh) (σ : TS E.T) : Tree (TS E.T) :=
 match g with
 | .nl (.s s) i t => match look σ.t s, σ.noId i && !big i with
   | some (.a (.raw (.slice none 0 0))),true => .leaf { n := σ.n,t := (s,.a (.vec t i 0)) :: σ.t,h := (i,.vec i t []) :: σ.h,e := [] }
   | _,_ => .fail
 | .nl (.c k o) i t => match look σ.h k, σ.noId i && !big i && !Nat.beq k i with
   | some (.cs cs), true => match cs[o]? with
     | some (.raw (.slice none 0 0)) => .leaf { n := σ.n,t := σ.t,h := (i,.vec i t []) :: (k,.cs (cs.set o (.vec t i 0))) :: σ.h,e := [] }
     | _ => .fail
   | _,_ => .fail
 | .cl i c (.s s) => match look σ.h i, look σ.t s with
   | some b,some (.a x) => (Id E i c b x).bind fun y => .leaf { n := σ.n,t := (s,.a y) :: σ.t,h := dropHH [i] σ.h,e := [] }
   | _,_ => .fail
 | .cl i c (.c k o) => match look σ.h i, look σ.h k, Nat.beq k i with
   | some b, some (.cs cs), false => match cs[o]?, cs.all TA.plain with
     | some x,true => (Id E i c b x).bind fun y => .leaf { n := σ.n,t := σ.t,h := (k,.cs (cs.set o y)) :: dropHH [i] σ.h,e := [] }
     | _,_ => .fail
   | _,_,_ => .fail
def Hj (E : Env) : List Gh → TS E.T → Tree (TS E.T)
 | [],σ => .leaf σ
 | g :: r,σ => (ghT E g σ).bind (Hj E r)
section
variable {E : Env} {ρ : Rn}
theorem Rel.el_le {X : GW} {cs cs' : List AV} {v : Value} (h : Rel X (.el cs) v) (hl : LeL cs cs') : Rel X (.el cs') v := by
 cases h with
 | el _ b off n c hg hn hm hr =>
   refine .el cs' b off n c hg (by rw [← hl.length]; exact hn) (fun j u hj => ?_) (fun j u hj => ?_)
   ·obtain ⟨u0, k1, k2⟩ := hl.get j u hj
    exact hm j u0 k1
   ·obtain ⟨u0, k1, k2⟩ := hl.get j u hj
    exact k2.rel (hr j u0 k1)
theorem GK {i : Nat} {c : Cl} {b : TB E.T} {x : TA E.T} {K : TA E.T → Prop} (h : (Id E i c b x).holds K) :
  ∃ y,K y ∧ y.plain = true ∧ ∀ ρ : Rn,eq (b.to E.toEnc ρ) = false ∧ ∀ X v,Rel X (x.to E.toEnc ρ) v → (a8 ρ b = true → n4 X (ρ i) (b.to E.toEnc ρ)) → Rel X (y.to E.toEnc ρ) v := by
 unfold Id at h
 split at h
 ·rename_i t i' t' l t2 i2 n
  split at h
  ·rename_i l' h1 h2 h3
   rw [Bool.and_eq_true] at h1
   have e1 := Nat.eq_of_beq_eq_true h1.1
   have e2 := Nat.eq_of_beq_eq_true h1.2
   have e3 := of_decide_eq_true h3
   obtain ⟨e4,rfl⟩ := di h2
   cases e4
   subst e1; subst e2; subst e3
   obtain ⟨r,hr,hk⟩ := h
   obtain ⟨e5,hn⟩ := vq hr
   subst e5
   refine ⟨_,hk,rfl,fun ρ => ⟨er gg,fun X v hv hf => ?_⟩⟩
   have e6 := bK hv
   subst e6
   show Rel X (.sl false (csz E.toEnc t2) (List.map (cells E.toEnc t2) r)) _
   unfold vecV
   split
   ·rename_i hc
    rw [Bool.and_eq_true] at hc
    have n0 := Nat.eq_of_beq_eq_true hc.2
    have : r = [] := List.length_eq_zero_iff.1 (hn.symm.trans n0)
    subst this
    exact .nl _ _ _ _
   ·rename_i hc
    have hlive : a8 ρ (TB.vec i2 t2 r : TB E.T) = true := by
     simp only [a8]
     cases hq : (ρ.k i2).nil && r.isEmpty with
     | false => rfl
     | true =>
       rw [Bool.and_eq_true] at hq
       exfalso; apply hc
       rw [hq.1]
       have : r = [] := List.isEmpty_iff.1 hq.2
       rw [hn,this]; rfl
    have := (hf hlive).sl (sz := csz E.toEnc t2) (L := List.map (cells E.toEnc t2) r) (sp := (ρ.k i2).sp.map AV.v) (c := n + (ρ.k i2).sp.length / csz E.toEnc t2) rfl (fun q hq => by
     obtain ⟨z,_,rfl⟩ := List.mem_map.1 hq
     exact dL _ _ _) (by rw [List.length_map,hn]; exact Nat.le_add_right _ _)
    rw [List.length_map,← hn] at this
    exact this
  ·cases h
 ·rename_i n l i2
  split at h
  ·rename_i z h1 h2
   have e1 := Nat.eq_of_beq_eq_true h1
   subst e1
   refine ⟨_,h,rfl,fun ρ => ⟨er fun u hu => ?_,fun X v hv hf => ?_⟩⟩
   ·obtain ⟨a, _, rfl⟩ := List.mem_map.1 hu
    exact TA.to_notMp _ _ _
   ·have e6 := bK hv
    subst e6
    have hp := E.pk_to n _ z [] ρ h2
    simp only [List.map_nil,List.append_nil] at hp
    have h3 := (hf rfl).el
    refine Rel.el_le (h3.el_le ?_) hp
    have := gj (E := E) (ρ := ρ) (l.map TA.rd)
    refine (gj (E := E) (ρ := ρ) l).trans ?_
    rw [List.map_map] at this
    exact this
  ·cases h
 ·rename_i n l i2
  split at h
  ·rename_i h1
   have e1 := Nat.eq_of_beq_eq_true h1
   subst e1
   obtain ⟨r,hr,hk⟩ := h
   obtain ⟨e5,hn⟩ := vq hr
   subst e5
   refine ⟨_,hk,rfl,fun ρ => ?_⟩
   have hfl := iR (E := E) (ρ := ρ) (ty := .bool) rfl r
   refine ⟨er fun u hu => ?_,fun X v hv hf => ?_⟩
   ·rw [hfl] at hu
    obtain ⟨a,_,rfl⟩ := List.mem_map.1 hu
    exact mU _ _
   ·have e6 := bK hv
    subst e6
    have h3 := (hf rfl).el
    have e7 : (TB.row .bool r : TB E.T).to E.toEnc ρ = cells E.toEnc (.bits n) r := by
     rw [hfl]
     show _ = (List.range n).map fun i => AV.v (.bool (List.getD r i false))
     apply List.ext_getElem
     ·simp; exact hn.symm
     ·intro j k1 k2
      simp only [List.getElem_map,List.getElem_range]
      have : j < List.length r := by simpa using k1
      have e8 : ∀ (q : List Bool) (hj : j < q.length), AV.v (.bool q[j]) = AV.v (.bool (q.getD j false)) := fun q hj => by
       rw [List.getD_eq_getElem?_getD,List.getElem?_eq_getElem hj]; rfl
      exact e8 r this
    rw [e7] at h3
    exact h3
  ·cases h
 ·cases h
theorem jm {α : Type} {k j : Nat} : ∀ {l : List (Nat × α)}, j ≠ k → look (l.filter fun p => !(p.1 == k)) j = look l j
 | [],_ => rfl
 | (a, b) :: r, h => by
   rw [List.filter_cons]
   by_cases e : a = k
   ·rw [if_neg (by simp [e]),jm h,aj,if_neg (fun e2 => h (e2.trans e))]
   ·rw [if_pos (by simpa using e),aj,aj,jm h]
theorem jr {T : Nat → Type} {i j : Nat} (h : j ≠ i) : ∀ {l : List (Nat × TB T)}, look (dropHH [i] l) j = look l j
 | [] => rfl
 | (a, b) :: r => by
   simp only [dropHH]
   cases hm : gH [i] a with
   | true =>
     have : a = i := by simpa using cR.1 hm
     rw [aj,if_neg (fun e => h (e.trans this))]
     exact jr h
   | false => rw [aj,aj,jr h]
theorem FB {σ : TS E.T} {i : Nat} {b : TB E.T} (hi : Inj ρ σ.h) (hb : look σ.h i = some b) (hm : eq (b.to E.toEnc ρ) = false) :
  Inj ρ (dropHH [i] σ.h) ∧ ∀ F X tm,SimE F X (σ.to E.toEnc ρ) tm → ∃ X' : GW,X'.w = X.w ∧ SimE F X' ((⟨σ.n,σ.t,dropHH [i] σ.h,[]⟩ : TS E.T).to E.toEnc ρ) tm ∧ (a8 ρ b = true → n4 X' (ρ i) (b.to E.toEnc ρ)) ∧ Ext F X X' := by
 have hi' : Inj ρ (dropHH [i] σ.h) := hi.sub fun p hp => ⟨p,ez p hp,rfl,rfl⟩
 refine ⟨hi',fun F X tm hs => ?_⟩
 cases hl : a8 ρ b with
 | true =>
   obtain ⟨X',h1,h2,h3,h4⟩ := hs.freeze (cp E.toEnc hi hb hl) hm
   refine ⟨X',h1,h2.le3 rfl (fun t u hu => ⟨u,hu,.inl (.refl _)⟩) (fun k cs' hk => ⟨cs',?_,LeL.refl _⟩) (fun p hp => by cases hp),fun _ => h3,h4⟩
   obtain ⟨j,b',k1,k2,k3,k4⟩ := fI hi' hk
   obtain ⟨k5,k6⟩ := gi k2
   subst k1; subst k3
   show look ((hTo E.toEnc ρ σ.h).filter _) _ = _
   rw [jm]
   ·exact cp E.toEnc hi k5 k4
   ·intro e
    have := (hi _ (bX k5) _ (bX hb)).1 k4 hl e
    exact k6 (by simp only at this; rw [this]; exact List.mem_singleton_self _)
 | false =>
   refine ⟨X,rfl,hs.le3 rfl (fun t u hu => ⟨u,hu,.inl (.refl _)⟩) (fun k cs' hk => ⟨cs',?_,LeL.refl _⟩) (fun p hp => by cases hp),(fun e => by cases e),Ext.refl F X⟩
   obtain ⟨j,b',k1,k2,k3,k4⟩ := fI hi' hk
   obtain ⟨k5,k6⟩ := gi k2
   subst k1; subst k3
   exact cp E.toEnc hi k5 k4
theorem J5 {l : List (TA E.T)} (h : l.all TA.plain = true) : fw (l.map (TA.to E.toEnc ρ)) := fun u hu => by
 obtain ⟨a,ha,rfl⟩ := List.mem_map.1 hu
 exact TA.plain_to _ _ (List.all_eq_true.1 h a ha)
theorem cZ.set {F : Nat → Prop} {X : GW} {k o : Nat} {cs : List AV} {x y : AV} (h : cZ F X k cs) (hx : cs[o]? = some x) (hr : ∀ v, Rel X x v → Rel X y v) : cZ F X k (cs.set o y) := by
 obtain ⟨b1,b2,arr,e,fr,b3,b4,b5,b6⟩ := h
 refine ⟨b1,b2,arr,e,fr,b3,by rw [List.length_set]; exact b4,b5,fun j u v hu hv => ?_⟩
 rw [List.getElem?_set] at hu
 split at hu
 ·rename_i e; subst e
  split at hu
  ·cases hu; exact hr v (b6 o x v hx hv)
  ·cases hu
 ·exact b6 j u v hu hv
def GhOk (σ τ : TS E.T) : Prop := ∀ ρ,Inj ρ σ.h → ∃ ρ',Agr ρ ρ' ∧ Inj ρ' τ.h ∧ ∀ F X tm,SimE F X (σ.to E.toEnc ρ) tm → ∃ X' : GW,X'.w = X.w ∧ SimE F X' (τ.to E.toEnc ρ') tm ∧ Ext F X X'
theorem GhOk.refl (σ : TS E.T) : GhOk σ σ := fun ρ hi => ⟨ρ,Agr.refl ρ,hi,fun F X tm hs => ⟨X,rfl,hs,Ext.refl F X⟩⟩
theorem GhOk.trans {σ τ υ : TS E.T} (h : GhOk σ τ) (k : GhOk τ υ) : GhOk σ υ := fun ρ hi => by
 obtain ⟨ρ1,a1,i1,s1⟩ := h ρ hi
 obtain ⟨ρ2,a2,i2,s2⟩ := k ρ1 i1
 refine ⟨ρ2,a1.trans a2,i2,fun F X tm hs => ?_⟩
 obtain ⟨X1,w1,q1,e1⟩ := s1 F X tm hs
 obtain ⟨X2,w2,q2,e2⟩ := s2 F X1 tm q1
 exact ⟨X2,w2.trans w1,q2,e1.trans e2⟩
theorem Ef {i : Nat} {x : Bk} (h : (!big i) = true) : Agr ρ (cI ρ i x) := fun j hj => by
 unfold cI
 simp only
 rw [if_neg (fun e => by rw [e] at hj; rw [hj] at h; cases h)]
theorem vb {i : Nat} {t : Ty} {h : List (Nat × TB E.T)} : hTo E.toEnc (cI ρ i ⟨0,true,[]⟩) ((i,.vec i t []) :: h) = hTo E.toEnc (cI ρ i ⟨0,true,[]⟩) h := dW E.toEnc h (by simp [a8,cI])
theorem J0 {g : Gh} {σ : TS E.T} {K : TS E.T → Prop} (h : (ghT E g σ).holds K) : ∃ τ, K τ ∧ GhOk σ τ := by
 unfold ghT at h
 split at h
 ·rename_i s i t
  split at h
  ·rename_i hl hc
   rw [Bool.and_eq_true] at hc
   refine ⟨_,h,fun ρ hi => ⟨cI ρ i ⟨0,true,[]⟩,Ef hc.2,fQ hi hc.1 fun e => ?_,fun F X tm hs => ⟨X,rfl,?_,Ext.refl F X⟩⟩⟩
   ·simp [a8,cI] at e
   ·rw [← TS.updB_to (y := ⟨0, true, []⟩) hc.1] at hs
    refine hs.le3 rfl (fun t' u hu => ?_) (fun k cs' hk => ⟨cs',by rw [← hk]; exact (congrArg (fun l => look l k) vb).symm,LeL.refl _⟩) (fun p hp => by cases hp)
    simp only [TS.to,bq,aj] at hu ⊢
    split at hu
    ·rename_i e; subst e
     cases hu
     refine ⟨_,by rw [hl]; rfl,.inl ?_⟩
     show Le1 (.v (.slice none 0 0)) (.v (vecV _ _ _))
     simp [vecV,cI,kR]
     exact .refl _
    ·exact ⟨u,hu,.inl (.refl _)⟩
  ·cases h
 ·rename_i k o i t
  split at h
  ·rename_i cs hl hc
   rw [Bool.and_eq_true,Bool.and_eq_true] at hc
   split at h
   ·rename_i ho
    have hki : k ≠ i := fun e => by rw [e] at hc; simp at hc
    refine ⟨_,h,fun ρ hi => ?_⟩
    have hn : (⟨σ.n, σ.t, (k, .cs (cs.set o (.raw (.slice none 0 0)))) :: σ.h, σ.e⟩ : TS E.T).noId i = true := by
     have h0 := hc.1.1
     unfold TS.noId at h0 ⊢
     simp only [Bool.and_eq_true] at h0 ⊢
     refine ⟨⟨h0.1.1,?_⟩,h0.2⟩
     have := List.all_eq_true.1 h0.1.2 _ (bX hl)
     simp only [List.all_cons,Bool.and_eq_true] at this ⊢
     refine ⟨⟨this.1,?_⟩,h0.1.2⟩
     have e : cs.set o (.raw (.slice none 0 0)) = cs := by
      apply List.ext_getElem?
      intro j
      rw [List.getElem?_set]
      split
      ·rename_i e; subst e
       split
       ·exact ho.symm
       ·rename_i hlt; rw [List.getElem?_eq_none (by omega)]
      ·rfl
     rw [e]; exact this.2
    have hi1 : Inj ρ ((k,.cs (cs.set o (.raw (.slice none 0 0)))) :: σ.h) := gJ hi hl rfl
    have hi2 := fQ (b := .vec i t []) (x := ⟨0,true,[]⟩) (σ := ⟨σ.n,σ.t,(k,.cs (cs.set o (.raw (.slice none 0 0)))) :: σ.h,σ.e⟩) hi1 hn (fun e => by simp [a8,cI] at e)
    refine ⟨cI ρ i ⟨0,true,[]⟩,Ef hc.1.2,hi2.sub fun p hp => ?_,fun F X tm hs => ⟨X,rfl,?_,Ext.refl F X⟩⟩
    ·rcases List.mem_cons.1 hp with rfl | hp
     ·exact ⟨_,List.mem_cons_self,rfl,rfl⟩
     ·rcases List.mem_cons.1 hp with rfl | hp
      ·exact ⟨_,List.mem_cons_of_mem _ List.mem_cons_self,rfl,rfl⟩
      ·exact ⟨p,List.mem_cons_of_mem _ (List.mem_cons_of_mem _ hp),rfl,rfl⟩
    ·rw [← TS.updB_to (y := ⟨0, true, []⟩) hc.1.1] at hs
     refine hs.le3 rfl (fun t' u hu => ⟨u,hu,.inl (.refl _)⟩) (fun k' cs' hk => ⟨cs',?_,LeL.refl _⟩) (fun p hp => by cases hp)
     have hk' : look (hTo E.toEnc (cI ρ i ⟨0,true,[]⟩) ((k,.cs (cs.set o (.vec t i 0))) :: σ.h)) k' = some cs' := by rw [← hk]; exact (congrArg (fun l => look l k') vb).symm
     rw [cM _ _ rfl,aj] at hk'
     split at hk'
     ·rename_i e
      subst e
      cases hk'
      have hi3 : Inj (cI ρ i ⟨0,true,[]⟩) σ.h := hi2.sub fun p hp => ⟨p,List.mem_cons_of_mem _ (List.mem_cons_of_mem _ hp),rfl,rfl⟩
      have := cp E.toEnc hi3 hl rfl
      refine this.trans (congrArg some ?_)
      show cs.map _ = (cs.set o (.vec t i 0)).map _
      apply List.ext_getElem?
      intro j
      rw [List.getElem?_map,List.getElem?_map,List.getElem?_set]
      split
      ·rename_i e; subst e
       have hlt := (List.getElem?_eq_some_iff.1 ho).1
       rw [ho,if_pos hlt]
       simp [TA.to,vecV,cI,kR]
      ·rfl
     ·exact hk'
   ·cases h
  ·cases h
 ·rename_i i c s
  split at h
  ·rename_i b x hb hx
   obtain ⟨y,hk,hy,hcl⟩ := GK (bk h)
   refine ⟨_,hk,fun ρ hi => ?_⟩
   obtain ⟨hm,hr⟩ := hcl ρ
   obtain ⟨hi',h1⟩ := FB hi hb hm
   refine ⟨ρ,Agr.refl ρ,hi',fun F X tm hs => ?_⟩
   obtain ⟨X',h2,h3,h4,h5⟩ := h1 F X tm hs
   refine ⟨X',h2,h3.retell rfl (fun t u hu => ?_) (fun k cs' hk => .inl ⟨cs',hk,LeL.refl _⟩) (fun p hp => by cases hp),h5⟩
   simp only [TS.to,bq,aj] at hu ⊢
   split at hu
   ·rename_i e; subst e
    cases hu
    right
    refine ⟨hr X' _ (h3.slot t _ ?_) h4,TA.plain_to _ _ hy⟩
    simp only [TS.to,bq,hx]; rfl
   ·exact .inl ⟨u,hu,.inl (.refl _)⟩
  ·cases h
 ·rename_i i c k o
  split at h
  ·rename_i b cs hb hcs hne
   have hki : k ≠ i := fun e => by rw [e,Nat.beq_refl] at hne; cases hne
   split at h
   ·rename_i x hx hp
    obtain ⟨y,hk,hy,hcl⟩ := GK (bk h)
    refine ⟨_,hk,fun ρ hi => ?_⟩
    obtain ⟨hm,hr⟩ := hcl ρ
    obtain ⟨hi',h1⟩ := FB hi hb hm
    have hlk : look (dropHH [i] σ.h) k = some (.cs cs) := by rw [jr hki]; exact hcs
    refine ⟨ρ,Agr.refl ρ,gJ hi' hlk rfl,fun F X tm hs => ?_⟩
    obtain ⟨X',h2,h3,h4,h5⟩ := h1 F X tm hs
    refine ⟨X',h2,h3.retell rfl (fun t u hu => .inl ⟨u,hu,.inl (.refl _)⟩) (fun k' cs' hk' => ?_) (fun p hp => by cases hp),h5⟩
    simp only [TS.to] at hk'
    rw [cM _ _ rfl,aj] at hk'
    split at hk'
    ·rename_i e; subst e
     cases hk'
     right
     have hbx := h3.box (ρ k) (cs.map (TA.to E.toEnc ρ)) (cp E.toEnc hi' hlk rfl)
     have hnm : eq (cs.map (TA.to E.toEnc ρ)) = false := er fun u hu => by
      obtain ⟨a,_,rfl⟩ := List.mem_map.1 hu
      exact TA.to_notMp _ _ _
     have e2 : (TB.cs (cs.set o y) : TB E.T).to E.toEnc ρ = (cs.map (TA.to E.toEnc ρ)).set o (y.to E.toEnc ρ) := by
      show (cs.set o y).map _ = _
      rw [List.map_set]
     rw [e2]
     refine ⟨((hbx.cells hnm).set (by rw [List.getElem?_map,hx]; rfl) fun v hv => hr X' v hv h4).box,?_⟩
     rw [← List.map_set]
     refine J5 (List.all_eq_true.2 fun a ha => ?_)
     rcases List.mem_or_eq_of_mem_set ha with h6 | h6
     ·exact List.all_eq_true.1 hp a h6
     ·rw [h6]; exact hy
    ·exact .inl ⟨cs',hk',LeL.refl _⟩
   ·cases h
  ·cases h
theorem A1 : ∀ {gs : List Gh} {σ : TS E.T} {K : TS E.T → Prop}, (Hj E gs σ).holds K → ∃ τ, K τ ∧ GhOk σ τ
 | [],σ,K,h => ⟨σ,h,GhOk.refl σ⟩
 | g :: r, σ, K, h => by
   obtain ⟨τ,h1,h2⟩ := J0 (bk h)
   obtain ⟨υ,h3,h4⟩ := A1 h1
   exact ⟨υ,h3,h2.trans h4⟩
end
def gV : List Nat → Bool
 | [] => true
 | a :: r => !gH r a && gV r
theorem sb : ∀ {l : List Nat}, gV l = true → l.Nodup
 | [],_ => List.nodup_nil
 | a :: r, h => by
   simp only [gV,Bool.and_eq_true,Bool.not_eq_true'] at h
   exact List.nodup_cons.2 ⟨fun hm => (by rw [cR.2 hm] at h; cases h.1),sb h.2⟩
def gu : List (Nat × Nat) → Nat → Option Nat
 | [],_ => none
 | (a, b) :: r, i => match Nat.beq i a with
   | true => some b
   | false => gu r i
def qQ (nm : List (Nat × Nat)) : List (Nat × Nat) := nm.map fun p => (p.2,p.1)
def nH (nm : List (Nat × Nat)) (i : Nat) : Nat := (gu nm i).getD i
def inK (nm : List (Nat × Nat)) (i : Nat) : Bool := (gu nm i).isSome
theorem g9 : ∀ {nm : List (Nat × Nat)} {i j : Nat}, gu nm i = some j → (i, j) ∈ nm
 | [],_,_,h => by cases h
 | (a, b) :: r, i, j, h => by
   simp only [gu] at h
   cases e : Nat.beq i a with
   | true => rw [e] at h; cases h; rw [Nat.eq_of_beq_eq_true e]; exact List.mem_cons_self
   | false => rw [e] at h; exact List.mem_cons_of_mem _ (g9 h)
theorem gh : ∀ {nm : List (Nat × Nat)} {i j : Nat}, gV (nm.map (·.2)) = true → (i, j) ∈ nm → gu (qQ nm) j = some i
 | [],_,_,_,h => by cases h
 | (a, b) :: r, i, j, hn, h => by
   simp only [List.map_cons,gV,Bool.and_eq_true,Bool.not_eq_true'] at hn
   simp only [qQ,List.map_cons,gu]
   rcases List.mem_cons.1 h with h2 | h2
   ·cases h2; rw [Nat.beq_refl]
   ·have hne : Nat.beq j b = false := by
     cases e : Nat.beq j b with
     | false => rfl
     | true =>
       have := Nat.eq_of_beq_eq_true e
       subst this
       have : gH (r.map (·.2)) j = true := cR.2 (List.mem_map.2 ⟨(i,j),h2,rfl⟩)
       rw [this] at hn; cases hn.1
    rw [hne]
    exact gh hn.2 h2
def LO {T : Nat → Type} (h : List (Nat × TB T)) (i : Nat) : Bool := (look h i).isSome
def sT {T : Nat → Type} (h : List (Nat × TB T)) : List (Nat × Nat) → List (Nat × Nat)
 | [] => []
 | p :: r => match LO h p.1 with
   | true => p :: sT h r
   | false => sT h r
def y8 (nm : List (Nat × Nat)) (j : Nat) : Nat := (gu (qQ nm) j).getD j
def okP (nm : List (Nat × Nat)) (i : Nat) : Bool := inK nm i || !gH (nm.map (·.2)) i
def okN (nm : List (Nat × Nat)) : Bool := gV (nm.map (·.2)) && nm.all fun p => !big p.2
def yK (ρ : Rn) (nm : List (Nat × Nat)) : Rn := ⟨fun j => match gu (qQ nm) j with | some i => ρ.k i | none => ρ.k j⟩
theorem qE {nm : List (Nat × Nat)} {i : Nat} (h : gH (nm.map (·.2)) i = false) : gu (qQ nm) i = none := by
 cases e : gu (qQ nm) i with
 | none => rfl
 | some j =>
   have := g9 e
   obtain ⟨p,hp,hq⟩ := List.mem_map.1 this
   cases hq
   rw [cR.2 (List.mem_map.2 ⟨p,hp,rfl⟩)] at h
   cases h
theorem jG {ρ : Rn} {nm : List (Nat × Nat)} (h : okN nm = true) : ∀ i, okP nm i = true → (yK ρ nm).k (nH nm i) = ρ.k i := fun i hi => by
 unfold okN at h
 rw [Bool.and_eq_true] at h
 unfold yK nH
 cases e : gu nm i with
 | some b => simp only [Option.getD_some,gh h.1 (g9 e)]
 | none =>
   unfold okP inK at hi
   rw [e] at hi
   simp only [Option.isSome_none,Bool.false_or,Bool.not_eq_true'] at hi
   simp only [Option.getD_none,qE hi]
theorem yH {nm : List (Nat × Nat)} (h : okN nm = true) : ∀ i j, okP nm i = true → okP nm j = true → nH nm i = nH nm j → i = j := fun i j hi hj e => by
 have h1 := jG (ρ := ⟨fun k => ⟨k,false,[]⟩⟩) h i hi
 have h2 := jG (ρ := ⟨fun k => ⟨k,false,[]⟩⟩) h j hj
 rw [e,h2] at h1
 exact (congrArg Bk.b h1).symm
theorem yS {ρ : Rn} {nm : List (Nat × Nat)} (h : okN nm = true) : Agr ρ (yK ρ nm) := fun i hi => by
 unfold okN at h
 rw [Bool.and_eq_true] at h
 unfold yK
 simp only
 rw [qE]
 cases hm : gH (nm.map (·.2)) i with
 | false => rfl
 | true =>
   obtain ⟨p,hp,e⟩ := List.mem_map.1 (cR.1 hm)
   have := List.all_eq_true.1 h.2 p hp
   rw [e,hi] at this; cases this
def TS.ren {T : Nat → Type} (m : Nat → Nat) (σ : TS T) : TS T := { n := σ.n,t := σ.t.map fun p => (p.1,p.2.ren m),h := nC m σ.h,e := [] }
def JI {T : Nat → Type} (nm : List (Nat × Nat)) (σ : TS T) : TS T := match nm with
 | [] => σ
 | _ => match okN nm && (σ.t.all fun q => q.2.ids (okP nm)) && qB (okP nm) σ.h with
   | true => σ.ren (nH nm)
   | false => σ
def qh (E : Enc) (σ σ' : TS E.T) : Prop := ∀ ρ,Inj ρ σ.h → ∃ ρ',Agr ρ ρ' ∧ Inj ρ' σ'.h ∧ kV (σ.to E ρ) (σ'.to E ρ')
theorem qh.of {E : Enc} {σ σ' : TS E.T} (h : oB E σ σ') : qh E σ σ' := fun ρ hi => ⟨ρ,Agr.refl ρ,h ρ hi⟩
theorem qh.trans {E : Enc} {σ σ1 σ2 : TS E.T} (h : qh E σ σ1) (k : qh E σ1 σ2) : qh E σ σ2 := fun ρ hi => by
 obtain ⟨ρ1,a1,i1,s1⟩ := h ρ hi
 obtain ⟨ρ2,a2,i2,s2⟩ := k ρ1 i1
 exact ⟨ρ2,a1.trans a2,i2,s1.trans s2⟩
theorem F5 {E : Env} (nm : List (Nat × Nat)) (σ : TS E.T) : qh E.toEnc σ (JI nm σ) := by
 unfold JI
 split
 ·exact qh.of (oB.refl σ)
 ·split
  ·rename_i hc
   simp only [Bool.and_eq_true] at hc
   obtain ⟨⟨h1,h2⟩,h3⟩ := hc
   intro ρ hi
   refine ⟨yK ρ nm,yS h1,pB (jG h1) (yH h1) h3 hi,fun F X tm hs => ?_⟩
   have et : tTo E.toEnc (yK ρ nm) (σ.t.map fun p => (p.1, p.2.ren (nH nm))) = tTo E.toEnc ρ σ.t := by
    unfold tTo
    rw [List.map_map]
    exact List.map_congr_left fun p hp => by
     simp only [Function.comp]
     rw [TV.ren_to (jG h1) (List.all_eq_true.1 h2 p hp)]
   have eh : hTo E.toEnc (yK ρ nm) (nC (nH nm) σ.h) = hTo E.toEnc ρ σ.h := pv (jG h1) h3
   refine hs.le3 rfl (fun t u hu => ⟨u,?_,.inl (.refl _)⟩) (fun k cs hk => ⟨cs,?_,LeL.refl _⟩) (fun p hp => by cases hp)
   ·simp only [TS.to,TS.ren,et] at hu; exact hu
   ·simp only [TS.to,TS.ren,eh] at hk; exact hk
  ·exact qh.of (oB.refl σ)
def CU {T : Nat → Type} (nm : List (Nat × Nat)) (u : TV T) (h : List (Nat × TB T)) : TV T × List (Nat × TB T) := match nm with
 | [] => (u,h)
 | _ => match okN nm && u.ids (okP nm) && qB (okP nm) h with
   | true => (u.ren (nH nm),nC (nH nm) h)
   | false => (u,h)
theorem Ih {E : Env} (nm : List (Nat × Nat)) {u : TV E.T} {h : List (Nat × TB E.T)} {ρ : Rn} (hi : Inj ρ h) : ∃ ρ', Agr ρ ρ' ∧ Inj ρ' (CU nm u h).2 ∧ (CU nm u h).1.to E.toEnc ρ' = u.to E.toEnc ρ ∧ hTo E.toEnc ρ' (CU nm u h).2 = hTo E.toEnc ρ h := by
 unfold CU
 split
 ·exact ⟨ρ,Agr.refl ρ,hi,rfl,rfl⟩
 ·split
  ·rename_i hc
   simp only [Bool.and_eq_true] at hc
   obtain ⟨⟨h1,h2⟩,h3⟩ := hc
   exact ⟨yK ρ nm,yS h1,pB (jG h1) (yH h1) h3 hi,TV.ren_to (jG h1) h2,pv (jG h1) h3⟩
  ·exact ⟨ρ,Agr.refl ρ,hi,rfl,rfl⟩
end Go.Proofs.Ytlhjbhgkhpbnfaa
namespace Go.Proofs.Ytlhjbhgkhpbnfaa
open Go.RowKit P
set_option linter.unusedSimpArgs false
set_option linter.unusedVariables false
inductive It2 where
 | c (c : Code)
 | b (id : Nat)
 | l (c : Code)
 | r (id : Nat) (ops : Array Oper) (draw : Bool)
 | k (c : Code)
inductive RL (T : Nat → Type) where
 | ret (u : TV T) (h : List (Nat × TB T))
 | pan (v : Value)
inductive Lf (T : Nat → Type) where
 | go (ks : List It2) (σ : TS T)
 | done (r : RL T)
def Jk : List Nat → Nat → Bool
 | [],_ => false
 | k :: r,i => match Nat.beq i k with | true => true | false => Jk r i
structure Kp where
 t : List (Nat × Bool)
 p : List (Nat × Nat)
 h : List (Nat × (Option Nat × List Nat))
 m : List (Nat × Nat)
structure Lvs where
 r : List (Nat × Kp)
 l : List (Nat × Kp)
 cut : List Nat
 p : List (Nat × Nat)
 own : Bool
 ph : List (Nat × (Option Nat × List Nat))
 kb : List Nat
 g : List (Nat × List Gh)
 m : List (Nat × Nat)
def BJ (E : Env) (i : Nat) (u : TV E.T) : TV E.T :=
 match u with
 | .ag l => match E.pk i l with
   | some (z,[]) => .ag (E.unp i z)
   | _ => u
 | u => u
def Bg (E : Env) (ps : List (Nat × Nat)) : List (Nat × TV E.T) → List (Nat × TV E.T)
 | [] => []
 | (k,u) :: r => (k,match look ps k with | some i => BJ E i u | none => u) :: Bg E ps r
def Fg {T : Nat → Type} : TA T → TA T
 | .tt => .d .bool true
 | .ff => .d .bool false
 | x => x
def BR {T : Nat → Type} (ws : List Nat) : Nat → List (TA T) → List (TA T)
 | _,[] => []
 | i,x :: r => (match Jk ws i with | true => Fg x.rd | false => Fg x) :: BR ws (i + 1) r
def sC (E : Env) (m : Option Nat × List Nat) (b : TB E.T) : TB E.T :=
 match b with
 | .cs l => match m with
   | (some i, _) => match E.pk i l with
     | some (z,[]) => .cs (E.unp i z)
     | _ => b
   | (none,ws) => .cs (BR ws 0 l)
 | b => b
def vN (E : Env) (ms : List (Nat × (Option Nat × List Nat))) : List (Nat × TB E.T) → List (Nat × TB E.T)
 | [] => []
 | (k,b) :: r => (k,match look ms k with | some m => sC E m b | none => b) :: vN E ms r
def mq : Code → Nat
 | .region id _ _ => id
 | .seq a _ => mq a
 | .cond _ a _ => mq a
 | .block _ c => mq c
 | .loop c => mq c
 | _ => 0
def xW : Code → Nat
 | .seq a _ => xW a
 | .cond _ a _ => xW a
 | .block _ c => xW c
 | .loop c => xW c + 1
 | _ => 0
def mO (c : Code) : Nat := mq c + 1000 * xW c
def TS.pack (E : Env) (σ : TS E.T) (k : Kp) : TS E.T := { n := σ.n,t := Bg E k.p σ.t,h := vN E k.h σ.h,e := σ.e }
def lh (E : Env) (lv : List (Nat × Kp)) (id : Nat) (σ : TS E.T) : TS E.T :=
 match look lv id with
 | some k => (JI (sT σ.h k.m) (σ.canon k.t (k.h.map fun p => y8 (sT σ.h k.m) p.1))).pack E k
 | none => σ
def KG (g : List (Nat × List Gh)) (id : Nat) : List Gh := match look g id with
 | some l => l
 | none => []
def oE (id : Nat) : List It2 → Option (List It2)
 | [] => none
 | .c _ :: ks => oE id ks
 | .l _ :: ks => oE id ks
 | .b j :: ks => match Nat.beq id j with
   | true => some ks
   | false => oE id ks
 | _ :: _ => none
def Kw {T : Nat → Type} : TV T → Option (TC T)
 | .a x => match nrm (.a x.rd) with
   | .a y => some (.a y)
   | _ => none
 | .ag l => some (.ag l)
 | _ => none
def zE {P : Program} {T : Nat → Type} (Y : Tys P) (σ : TS T) : ResultVar → Option (TC T)
 | .tmp s => match look σ.t s with
   | some u => Kw u
   | none => none
 | .cell s ty => match look σ.t s with
   | some (.a (.box k 0)) => match look σ.h k, look Y.ty ty with
     | some (.cs cs), some (.struct _) => match look Y.sz ty with
       | some (n, _) => match Nat.beq n cs.length with
         | true => some (.ag (cs.map TA.rd))
         | false => none
       | none => none
     | some (.cs [c]), some d => match hQ d with
       | true => some (.a (Fg c.rd))
       | false => none
     | _,_ => none
   | _ => none
def LF {T : Nat → Type} : TC T → TV T
 | .a x => .a x
 | .ag l => .ag l
def Kz {P : Program} {T : Nat → Type} (Y : Tys P) (own : Bool) (rs : List ResultVar) (σ : TS T) : Option (TV T) :=
 match rs with
 | [.tmp t] => match look σ.t t with
   | some u => some (qM (!own) u)
   | none => none
 | [r] => match zE Y σ r with
   | some x => some (LF x)
   | none => none
 | [r, r'] => match zE Y σ r, zE Y σ r' with
   | some x,some x' => some (.tu [x,x'])
   | _,_ => none
 | [r, r', r''] => match zE Y σ r, zE Y σ r', zE Y σ r'' with
   | some x,some x',some x'' => some (.tu [x,x',x''])
   | _,_,_ => none
 | [] => some (.tu [])
 | _ => none
section
variable {P : Program} (Y : Tys P) (E : Env) (G : Gam E) (lv : Lvs) (rs : List ResultVar)
def Ig (σ : TS E.T) : Tree (Lf E.T) := match Kz Y lv.own rs (σ.pack E ⟨[], lv.p, lv.ph, []⟩) with
 | some u => .leaf (.done (.ret (CU (sT σ.h lv.m) u (cq (σ.pack E ⟨[],lv.p,lv.ph,[]⟩).h (lv.kb.map (y8 (sT σ.h lv.m))))).1 (CU (sT σ.h lv.m) u (cq (σ.pack E ⟨[],lv.p,lv.ph,[]⟩).h (lv.kb.map (y8 (sT σ.h lv.m))))).2))
 | none => .fail
def stp : List It2 → TS E.T → Tree (Lf E.T)
 | [],σ => Ig Y E lv rs σ
 | .b _ :: ks,σ => .leaf (.go ks σ)
 | .l c :: ks,σ => .leaf (.go (.k c :: ks) (lh E lv.l (mO c) σ))
 | .k c :: ks,σ => .leaf (.go (.c c :: .l c :: ks) σ)
 | .r _ ops draw :: ks, σ => (evR Y E G ops.toList draw σ).bind fun
   | .st σ' => .leaf (.go ks σ')
   | .pan v => .leaf (.done (.pan v))
 | .c c :: ks, σ => match c with
   | .skip => .leaf (.go ks σ)
   | .label _ => .leaf (.go ks σ)
   | .seq a b => .leaf (.go (.c a :: .c b :: ks) σ)
   | .block id c => .leaf (.go (.c c :: .b id :: ks) σ)
   | .loop c => .leaf (.go (.l c :: ks) σ)
   | .cond (.tmp t) a b => match look σ.t t with
     | some (.a .tt) => .leaf (.go (.c a :: ks) σ)
     | some (.a .ff) => .leaf (.go (.c b :: ks) σ)
     | some (.a (.d .bool v)) => .cond v (.leaf (.go (.c a :: ks) (σ.know t .tt))) (.leaf (.go (.c b :: ks) (σ.know t .ff)))
     | _ => .fail
   | .exit id => match oE id ks with
     | some ks' => .leaf (.go ks' σ)
     | none => .fail
   | .ret => Ig Y E lv rs σ
   | .region id ops draw => (Hj E (KG lv.g id) (lh E lv.r id σ)).bind fun τ => .leaf (.go (.r id ops draw :: ks) τ)
   | _ => .fail
def KF : List Nat → Nat → Bool
 | [],_ => false
 | k :: r,i => match Nat.beq i k with | true => true | false => KF r i
def Jq (cut : List Nat) : List It2 → Bool
 | .k _ :: _ => true
 | .r id _ _ :: _ => KF cut id
 | _ => false
def evM : Nat → Bool → List It2 → TS E.T → Tree (Lf E.T)
 | 0,_,ks,σ => .leaf (.go ks σ)
 | m + 1, fst, ks, σ => match fst, Jq lv.cut ks with
   | false,true => .leaf (.go ks σ)
   | _, _ => (stp Y E G lv rs ks σ).bind fun
     | .go ks' σ' => evM m false ks' σ'
     | .done r => .leaf (.done r)
def y5 {T : Nat → Type} (F : List It2 → TS T → Prop) (K : RL T → Prop) : Lf T → Prop
 | .go ks σ => F ks σ
 | .done r => K r
def Fin (K : RL E.T → Prop) : Nat → List It2 → TS E.T → Prop
 | 0,_,_ => False
 | n + 1,ks,σ => (stp Y E G lv rs ks σ).holds (y5 (Fin K n) K)
def fT (K : RL E.T → Prop) (ks : List It2) (σ : TS E.T) : Prop := ∃ n,Fin Y E G lv rs K n ks σ
def KA (K : RL E.T → Prop) : Lf E.T → Prop
 | .go ks σ => fT Y E G lv rs K ks σ
 | .done r => K r
end
section
variable {P : Program} {Y : Tys P} {E : Env} {G : Gam E} {lv : Lvs} {rs : List ResultVar} {K : RL E.T → Prop}
theorem gR {L : Type} {R : Nat → L → Prop} (hR : ∀ n m x, n ≤ m → R n x → R m x) : ∀ {t : Tree L}, t.holds (fun x => ∃ n, R n x) → ∃ n, t.holds (R n)
 | .leaf x,h => h
 | .cond true s t, h => by
   obtain ⟨n,h⟩ := gR hR (h.1 rfl)
   exact ⟨n,fun _ => h,fun e => by cases e⟩
 | .cond false s t, h => by
   obtain ⟨n,h⟩ := gR hR (h.2 rfl)
   exact ⟨n,(fun e => by cases e),fun _ => h⟩
 | .bnd o k, ⟨z, h1, h2⟩ => by
   obtain ⟨n,h⟩ := gR hR h2
   exact ⟨n,z,h1,h⟩
 | .sm (.ok z) k p, h => by
   obtain ⟨n,h⟩ := gR hR (h.1 z rfl)
   exact ⟨n,(fun z' e => by cases e; exact h),fun v e => by cases e⟩
 | .sm (.pan v) k p, h => by
   obtain ⟨n,h⟩ := gR hR (h.2 v rfl)
   exact ⟨n,(fun z' e => by cases e),fun v' e => by cases e; exact h⟩
 | .nl [] s t, h => by
   obtain ⟨n,h1⟩ := gR hR (h.1 rfl)
   obtain ⟨m,h2⟩ := gR hR h.2
   exact ⟨n + m,fun _ => h1.mono fun x => hR _ _ x (by omega),h2.mono fun x => hR _ _ x (by omega)⟩
 | .nl (_ :: _) s t, h => by
   obtain ⟨m,h2⟩ := gR hR h.2
   exact ⟨m,(fun e => by cases e),h2⟩
 | .fail,h => h.elim
theorem Gs : ∀ (n : Nat) (ks : List It2) (σ : TS E.T), Fin Y E G lv rs K n ks σ → Fin Y E G lv rs K (n + 1) ks σ
 | 0,_,_,h => h.elim
 | n + 1, ks, σ, h => Tree.holds.mono (fun x hx => by
   cases x with
   | go ks' σ' => exact Gs n ks' σ' hx
   | done r => exact hx) h
theorem El {n m : Nat} (h : n ≤ m) {ks : List It2} {σ : TS E.T} (hf : Fin Y E G lv rs K n ks σ) : Fin Y E G lv rs K m ks σ := by
 induction h with
 | refl => exact hf
 | step _ ih => exact Gs _ _ _ ih
theorem CJ {ks : List It2} {σ : TS E.T} (h : (stp Y E G lv rs ks σ).holds (KA Y E G lv rs K)) : fT Y E G lv rs K ks σ := by
 have h' : (stp Y E G lv rs ks σ).holds (fun x => ∃ n, y5 (Fin Y E G lv rs K n) K x) := h.mono fun x hx => by
  cases x with
  | go ks' σ' => exact hx
  | done r => exact ⟨0,hx⟩
 obtain ⟨n, hn⟩ := gR (R := fun n x => y5 (Fin Y E G lv rs K n) K x) (fun n m x hnm hx => by
  cases x with
  | go ks' σ' => exact El hnm hx
  | done r => exact hx) h'
 exact ⟨n + 1,hn⟩
theorem Eh : ∀ (m : Nat) (fst : Bool) (ks : List It2) (σ : TS E.T), (evM Y E G lv rs m fst ks σ).holds (KA Y E G lv rs K) → fT Y E G lv rs K ks σ
 | 0,_,ks,σ,h => h
 | m + 1, fst, ks, σ, h => by
   simp only [evM] at h
   split at h
   ·exact h
   ·refine CJ ((bk h).mono fun x hx => ?_)
    cases x with
    | go ks' σ' => exact Eh m false ks' σ' hx
    | done r => exact hx
def QX (P : Program) (fn : Func) (post : AOut → List (Nat × List AV) → Prop) : Exit → AS → Prop
 | .ret,σ | .normal,σ => ∀ (F : Nat → Prop) (X : GW) (tm : Array Value),SimE F X σ tm → ∃ v u H',(results fn tm).run P X.w = .ok v X.w ∧ post (.ret u) H' ∧ SimE F X ⟨1,[(0,u)],H',[]⟩ #[v]
 | .panic chain,σ => ∃ v,chain = [⟨v,false,false⟩] ∧ post (.pan v) σ.h
 | _,_ => False
theorem vV {P : Program} {fn : Func} {f : FuncId} {c : Code} {us : List AV} {H : List (Nat × List AV)} {post : AOut → List (Nat × List AV) → Prop} (hf : P.funcs[f]? = some fn) (hn : (fn.name == "runtime.NumGoroutine") = false) (hb : fn.body = some c) (hus : Nat.ble us.length fn.ntmps = true)
  (h : be P (QX P fn post) [.c c] ⟨fn.ntmps,slotsOf 0 us,H,[]⟩) : aT P f us H post := by
 refine ⟨⟨fn,hf,hn,by rw [hb]; rfl⟩,fun F X vs hs => calls_of_wp hf hb ?_⟩
 have hle := Nat.le_of_ble_eq_true hus
 have h2 := h F X { tmps := vs ++ Array.replicate (fn.ntmps - vs.size) undef,defers := [] } (hs.enter hle) [] rfl
 refine wp_mono h2 fun e a' w' hp => ?_
 obtain ⟨p1,X',σ',p2,p3,p4,p5⟩ := hp
 subst p2
 have fin : QX P fn post .ret σ' → a'.defers = [] ∧ ∃ v, (results fn a'.tmps).run P X'.w = .ok v X'.w ∧ (∃ (X'' : GW) (out : AOut) (H' : List (Nat × List AV)), X''.w = X'.w ∧ post out H' ∧ mr F X'' (.returned v) out H' ∧ Ext F X X'') := by
  intro hq
  obtain ⟨v,u,H2,k1,k2,k3⟩ := hq F X' a'.tmps p4
  exact ⟨p1,v,k1,X',.ret u,H2,rfl,k2,⟨v,rfl,k3⟩,p5⟩
 cases e with
 | normal => exact fin p3
 | ret => exact fin p3
 | panic chain =>
   obtain ⟨v,rfl,p3⟩ := p3
   exact ⟨p1,X',.pan v,σ'.h,rfl,p3,⟨rfl,p4.panEnd⟩,p5⟩
 | exit id => exact p3.elim
 | goto l => exact p3.elim
 | outgrown => exact p3.elim
def da (E : Env) (ρ0 : Rn) (K : RL E.T → Prop) : AOut → List (Nat × List AV) → Prop := fun out H => ∃ r ρ, K r ∧ Agr ρ0 ρ ∧ match r with
 | .ret u h => out = .ret (u.to E.toEnc ρ) ∧ H = hTo E.toEnc ρ h ∧ Inj ρ h
 | .pan v => out = .pan v ∧ H = []
def tr (Y : Tys P) (E : Env) (G : Gam E) (lv : Lvs) (rs : List ResultVar) (K : RL E.T → Prop) (ρ0 : Rn) (n : Nat) : List It2 → List It
 | [] => []
 | .c c :: ks => .c c :: tr Y E G lv rs K ρ0 n ks
 | .b id :: ks => .b id :: tr Y E G lv rs K ρ0 n ks
 | .l c :: ks => .l (fun σ' => ∃ m τ ρ,m < n ∧ (Agr ρ0 ρ ∧ Inj ρ τ.h) ∧ kV σ' (τ.to E.toEnc ρ) ∧ Fin Y E G lv rs K m (.k c :: ks) τ) :: tr Y E G lv rs K ρ0 n ks
 | .r id ops draw :: ks => .c (.region id ops draw) :: tr Y E G lv rs K ρ0 n ks
 | .k c :: ks => .c (.loop c) :: tr Y E G lv rs K ρ0 n ks
inductive ItLe : List It → List It → Prop
 | nil : ItLe [] []
 | same (i : It) {ks ks' : List It} : ItLe ks ks' → ItLe (i :: ks) (i :: ks')
 | l {I J : AS → Prop} {ks ks' : List It} : (∀ σ,I σ → J σ) → ItLe ks ks' → ItLe (.l I :: ks) (.l J :: ks')
theorem ItLe.refl : ∀ ks, ItLe ks ks
 | [] => .nil
 | i :: ks => .same i (ItLe.refl ks)
theorem qD {ρ0 : Rn} {n m : Nat} (h : m ≤ n) : ∀ ks, ItLe (tr Y E G lv rs K ρ0 m ks) (tr Y E G lv rs K ρ0 n ks)
 | [] => .nil
 | .c c :: ks => .same _ (qD h ks)
 | .b id :: ks => .same _ (qD h ks)
 | .l c :: ks => .l (fun σ ⟨q,τ,ρ,h1,h2⟩ => ⟨q,τ,ρ,Nat.lt_of_lt_of_le h1 h,h2⟩) (qD h ks)
 | .r id ops draw :: ks => .same _ (qD h ks)
 | .k c :: ks => .same _ (qD h ks)
theorem Ke {Q : Exit → AS → Prop} : ∀ {ks ks' : List It}, ItLe ks ks' → ∀ e σ, Stk P Q ks e σ → Stk P Q ks' e σ := by
 intro ks ks' h
 induction h with
 | nil => exact fun _ _ h => h
 | same i h ih =>
   intro e σ hs
   cases i with
   | c c =>
     cases e with
     | normal => exact Awp.mono hs (fun e σ => ih e σ)
     | _ => exact ih _ _ hs
   | b id =>
     cases e with
     | exit id' =>
       simp only [Stk] at hs ⊢
       split
       ·rename_i e; rw [if_pos e] at hs; exact ih _ _ hs
       ·rename_i e; rw [if_neg e] at hs; exact ih _ _ hs
     | _ => exact ih _ _ hs
   | l I =>
     cases e with
     | normal => exact hs
     | _ => exact ih _ _ hs
   | o l k r =>
     cases e with
     | normal => exact fun F X a hsim D hd => fz (fun e a w hp => hp.mono fun e σ => ih e σ) _ _ _ (hs F X a hsim D hd)
     | _ => exact ih _ _ hs
 | l hIJ h ih =>
   intro e σ hs
   cases e with
   | normal => exact hIJ σ hs
   | _ => exact ih _ _ hs
theorem Ad {Q : Exit → AS → Prop} {ks ks' : List It} {σ : AS} (h : ItLe ks ks') (hr : be P Q ks σ) : be P Q ks' σ := Ke h _ _ hr
theorem mS {Q : Exit → AS → Prop} {ρ0 : Rn} {n : Nat} : ∀ (ks : List It2) {σ : AS}, Q .ret σ → Stk P Q (tr Y E G lv rs K ρ0 n ks) .ret σ
 | [],σ,h => h
 | .c c :: ks,σ,h => mS ks h
 | .b id :: ks,σ,h => mS ks h
 | .l c :: ks,σ,h => mS ks h
 | .r id ops draw :: ks,σ,h => mS ks h
 | .k c :: ks,σ,h => mS ks h
theorem mZ {Q : Exit → AS → Prop} {ρ0 : Rn} {n : Nat} {v : Value} : ∀ (ks : List It2), (∀ n, Q (.panic [⟨v, false, false⟩]) ⟨n, [], [], []⟩) → AC P Q (tr Y E G lv rs K ρ0 n ks) v
 | [],h => h
 | .c c :: ks,h => mZ ks h
 | .b id :: ks,h => mZ ks h
 | .l c :: ks,h => mZ ks h
 | .r id ops draw :: ks,h => mZ ks h
 | .k c :: ks,h => mZ ks h
theorem oY {Q : Exit → AS → Prop} {ρ0 : Rn} {n id : Nat} : ∀ (ks : List It2) {ks' : List It2} {σ : AS}, oE id ks = some ks' → be P Q (tr Y E G lv rs K ρ0 n ks') σ → Stk P Q (tr Y E G lv rs K ρ0 n ks) (.exit id) σ
 | [],_,_,h,_ => by cases h
 | .c c :: ks,_,_,h,hr => oY ks h hr
 | .l c :: ks,_,_,h,hr => oY ks h hr
 | .b j :: ks, ks', σ, h, hr => by
   simp only [oE] at h
   simp only [tr,Stk]
   split at h
   ·rename_i e
    cases h
    rw [if_pos (gS e)]
    exact hr
   ·rename_i e
    rw [if_neg (fun e2 => by subst e2; rw [Nat.beq_refl] at e; cases e)]
    exact oY ks h hr
 | .r _ _ _ :: _,_,_,h,_ => by cases h
 | .k _ :: _,_,_,h,_ => by cases h
theorem Ib {ρ : Rn} {u : TV E.T} {x : TC E.T} (h : Kw u = some x) : x.to E.toEnc ρ = (u.to E.toEnc ρ).rd := by
 unfold Kw at h
 split at h
 ·rename_i a
  split at h
  ·rename_i y hy
   cases h
   have := li E.toEnc ρ (.a a.rd : TV E.T)
   rw [hy] at this
   exact this.trans (TA.rd_to _ _ _)
  ·cases h
 ·cases h; rfl
 ·cases h
theorem yT (i : Nat) (u : TV E.T) (ρ : Rn) : LeV (u.to E.toEnc ρ) ((BJ E i u).to E.toEnc ρ) := by
 unfold BJ
 split
 ·split
  ·rename_i l _ z hz
   have h := E.pk_to i _ z [] ρ hz
   simp only [List.map_nil,List.append_nil] at h
   refine .inr ⟨fun X v hv => ?_,rfl⟩
   have e : (TV.ag (E.unp i z) : TV E.T).to E.toEnc ρ = .ag (E.enc i z) := by
    show AV.ag ((E.unp i z).map _) = _
    rw [E.unp_to]
   rw [e]
   exact u9 hv ((gj (ρ := ρ) l).trans h)
  ·exact .inl (.refl _)
 ·exact .inl (.refl _)
theorem sK (ps : List (Nat × Nat)) (ρ : Rn) : ∀ (t : List (Nat × TV E.T)) (k : Nat) (u' : AV), look (tTo E.toEnc ρ (Bg E ps t)) k = some u' → ∃ u, look (tTo E.toEnc ρ t) k = some u ∧ LeV u u'
 | [],k,u',h => by cases h
 | (j, u) :: r, k, u', h => by
   simp only [Bg,tTo,List.map_cons,aj] at h ⊢
   split at h
   ·rename_i e
    rw [if_pos e]
    cases h
    refine ⟨_,rfl,?_⟩
    split
    ·exact yT _ u ρ
    ·exact .inl (.refl _)
   ·rename_i e
    rw [if_neg e]
    exact sK ps ρ r k u' h
theorem yU (ws : List Nat) (ρ : Rn) : ∀ (i : Nat) (l : List (TA E.T)), LeL (l.map (TA.to E.toEnc ρ)) ((BR ws i l).map (TA.to E.toEnc ρ))
 | _,[] => .nil
 | i, x :: r => by
   have hn : ∀ y : TA E.T,(Fg y).to E.toEnc ρ = y.to E.toEnc ρ := fun y => by cases y <;> rfl
   simp only [BR,List.map_cons]
   refine .cons ?_ (yU ws ρ (i + 1) r)
   split
   ·rw [hn,TA.rd_to]; exact mz _
   ·rw [hn]; exact .refl _
theorem Dh (m : Option Nat × List Nat) (b : TB E.T) (ρ : Rn) : LeL (b.to E.toEnc ρ) ((sC E m b).to E.toEnc ρ) := by
 unfold sC
 split
 ·rename_i l
  split
  ·rename_i i ws
   split
   ·rename_i z hz
    have h := E.pk_to i _ z [] ρ hz
    simp only [List.map_nil,List.append_nil] at h
    show LeL (l.map _) ((E.unp i z).map _)
    rw [E.unp_to]
    exact (gj (ρ := ρ) l).trans h
   ·exact LeL.refl _
  ·exact yU _ ρ 0 l
 ·exact LeL.refl _
theorem qT (m : Option Nat × List Nat) (b : TB E.T) : pD b (sC E m b) := by
 unfold sC
 split
 ·split
  ·split
   ·exact fun _ => rfl
   ·exact .refl _
  ·exact fun _ => rfl
 ·exact .refl _
theorem uM (ms : List (Nat × (Option Nat × List Nat))) : ∀ (h : List (Nat × TB E.T)), ∀ p ∈ vN E ms h, ∃ q ∈ h, q.1 = p.1 ∧ pD q.2 p.2
 | [],p,hp => by cases hp
 | (j, b) :: r, p, hp => by
   rcases List.mem_cons.1 hp with rfl | hp
   ·refine ⟨_, List.mem_cons_self, rfl, ?_⟩
    simp only
    split
    ·exact qT _ b
    ·exact .refl _
   ·obtain ⟨q, h1, h2, h3⟩ := uM ms r p hp
    exact ⟨q,List.mem_cons_of_mem _ h1,h2,h3⟩
theorem og (ms : List (Nat × (Option Nat × List Nat))) (ρ : Rn) : ∀ (h : List (Nat × TB E.T)) (k : Nat) (cs' : List AV), look (hTo E.toEnc ρ (vN E ms h)) k = some cs' → ∃ cs, look (hTo E.toEnc ρ h) k = some cs ∧ LeL cs cs'
 | [],k,u',h => by cases h
 | (j, b) :: r, k, cs', h => by
   have key : ∀ b' : TB E.T, pD b b' → LeL (b.to E.toEnc ρ) (b'.to E.toEnc ρ) → look (hTo E.toEnc ρ ((j, b') :: vN E ms r)) k = some cs' → ∃ cs, look (hTo E.toEnc ρ ((j, b) :: r)) k = some cs ∧ LeL cs cs' := fun b' hsm hle h => by
    cases hl : a8 ρ b with
    | false =>
      rw [dW _ _ (by rw [← hsm ρ]; exact hl)] at h
      rw [dW _ _ hl]
      exact og ms ρ r k cs' h
    | true =>
      rw [cM _ _ (by rw [← hsm ρ]; exact hl),aj] at h
      rw [cM _ _ hl,aj]
      split at h
      ·rename_i e
       rw [if_pos e]
       cases h
       exact ⟨_,rfl,hle⟩
      ·rename_i e
       rw [if_neg e]
       exact og ms ρ r k cs' h
   simp only [vN] at h
   split at h
   ·exact key _ (qT _ b) (Dh _ b ρ) h
   ·exact key _ (.refl _) (LeL.refl _) h
theorem yQ (σ : TS E.T) (k : Kp) : oB E.toEnc σ (σ.pack E k) := fun ρ hi => by
 refine ⟨hi.sub fun p hp => let ⟨q,h1,h2,h3⟩ := uM k.h σ.h p hp; ⟨q,h1,h2,h3 ρ⟩,fun F X tm hs => ?_⟩
 exact hs.le3 rfl (fun t u' hu => sK k.p ρ σ.t t u' hu) (fun q cs' hq => og k.h ρ σ.h q cs' hq) (fun p hp => hp)
theorem HU (y : TA E.T) (ρ : Rn) : (Fg y).to E.toEnc ρ = y.to E.toEnc ρ := by cases y <;> rfl
theorem Hv (x : TC E.T) (ρ : Rn) : (LF x).to E.toEnc ρ = x.to E.toEnc ρ := by cases x <;> rfl
theorem nA {ρ : Rn} {σ : TS E.T} (hi : Inj ρ σ.h) {r : ResultVar} {x : TC E.T} (h : zE Y σ r = some x) : jq Y (tTo E.toEnc ρ σ.t) (hTo E.toEnc ρ σ.h) r = some (x.to E.toEnc ρ) := by
 unfold zE at h
 split at h
 ·split at h
  ·rename_i u hu
   simp only [jq,bq,hu,Option.map_some,Ib h]
  ·cases h
 ·split at h
  ·rename_i s ty _ k hs
   have hs' : look (tTo E.toEnc ρ σ.t) s = some (.v (.pointer (some ⟨ρ k,0,none⟩))) := by simp only [bq,hs,Option.map_some]; rfl
   split at h
   ·rename_i cs fs hh hy
    have hh' : look (hTo E.toEnc ρ σ.h) (ρ k) = some (cs.map (TA.to E.toEnc ρ)) := cp E.toEnc hi hh rfl
    split at h
    ·rename_i n b hz
     split at h
     ·rename_i hn
      cases h
      rw [wd hs' hh' hy hz (by simpa using hn) (nX cs)]
      simp only [TC.to,List.map_map]
      exact congrArg (fun l => some (AV.ag l)) (List.map_congr_left fun y _ => (TA.rd_to _ _ y).symm)
     ·cases h
    ·cases h
   ·rename_i c d hno hh hy
    have hh' : look (hTo E.toEnc ρ σ.h) (ρ k) = some [c.to E.toEnc ρ] := cp E.toEnc hi hh rfl
    split at h
    ·rename_i h1
     cases h
     rw [CP hs' hh' hy h1 (TA.to_notMp _ _ c)]
     simp only [TC.to,HU,TA.rd_to]
    ·cases h
   ·cases h
  ·cases h
theorem GJ {own : Bool} {fn : Func} {ρ : Rn} {σ : TS E.T} {u : TV E.T} (hrs : fn.results.toList = rs) (hi : Inj ρ σ.h) (h : Kz Y own rs σ = some u) (F : Nat → Prop) (X : GW) (tm : Array Value) (hs : SimE F X (σ.to E.toEnc ρ) tm) {H2 : List (Nat × List AV)} (hH : ∀ k cs, look H2 k = some cs → look (σ.to E.toEnc ρ).h k = some cs) : ∃ v, (results fn tm).run P X.w = .ok v X.w ∧ SimE F X ⟨1, [(0, u.to E.toEnc ρ)], H2, []⟩ #[v] := by
 have cells : vK Y (tTo E.toEnc ρ σ.t) (hTo E.toEnc ρ σ.h) rs = some (u.to E.toEnc ρ) → ∃ v, (results fn tm).run P X.w = .ok v X.w ∧ SimE F X ⟨1, [(0, u.to E.toEnc ρ)], H2, []⟩ #[v] := fun hc => by
  obtain ⟨k0,v,k1,k2⟩ := FM (F := F) (tm := tm) (fn := fn) hs.slot hs.box (hrs ▸ hc)
  exact ⟨v,k1,hs.retEnd hH k2 k0⟩
 unfold Kz at h
 split at h
 ·rename_i t
  split at h
  ·rename_i u0 hu
   cases h
   have hr : Ap fn.results.toList (σ.to E.toEnc ρ) = some (u0.to E.toEnc ρ) := by rw [hrs]; simp only [Ap,TS.to,bq,hu,Option.map_some]
   obtain ⟨v,k1,k2⟩ := xp (P := P) (fn := fn) hs hr
   refine ⟨v,k1,k2.le2 rfl (fun s u' hu' => ?_) (fun q cs' hq => ⟨cs',hH q cs' hq,LeL.refl _⟩) (fun p hp => by cases hp)⟩
   simp only [aj] at hu'
   split at hu'
   ·rename_i e; subst e; cases hu'
    refine ⟨_,bT,?_⟩
    cases own with
    | true => simp only [Bool.not_true,qM,li]; exact .refl _
    | false => simp only [Bool.not_false,qM,li,TV.rd_to]; exact mz _
   ·cases hu'
  ·cases h
 ·split at h
  ·rename_i x hx
   cases h
   refine cells ?_
   rw [Hv]
   exact nA hi hx
  ·cases h
 ·split at h
  ·rename_i x x' hx hx'
   cases h
   exact cells (by simp only [vK,nA hi hx,nA hi hx']; rfl)
  ·cases h
 ·split at h
  ·rename_i x x' x'' hx hx' hx''
   cases h
   exact cells (by simp only [vK,nA hi hx,nA hi hx',nA hi hx'']; rfl)
  ·cases h
 ·cases h; exact cells rfl
 ·cases h
theorem n6 {T : Nat → Type} {h : List (Nat × TB T)} : ∀ {ids : List Nat}, ∀ p ∈ cq h ids, ∃ q ∈ h, q.1 = p.1 ∧ pD q.2 p.2
 | [],p,hp => by cases hp
 | k :: ks, p, hp => by
   simp only [cq] at hp
   split at hp
   ·rename_i b hb
    rcases List.mem_cons.1 hp with rfl | hp
    ·exact ⟨_,bX hb,rfl,.refl _⟩
    ·exact n6 p hp
   ·exact n6 p hp
theorem Dd {fn : Func} (hrs : fn.results.toList = rs) {ρ0 ρ : Rn} (ha : Agr ρ0 ρ) {σ : TS E.T} (hi : Inj ρ σ.h) {e : Exit} (he : e = .ret ∨ e = .normal) {F : List It2 → TS E.T → Prop} (h : (Ig Y E lv rs σ).holds (y5 F K)) : QX P fn (da E ρ0 K) e (σ.to E.toEnc ρ) := by
 unfold Ig at h
 split at h
 ·rename_i u hu
  obtain ⟨k1,k2⟩ := yQ σ ⟨[],lv.p,lv.ph,[]⟩ ρ hi
  have : ∀ (F : Nat → Prop) (X : GW) (tm : Array Value), SimE F X (σ.to E.toEnc ρ) tm → ∃ v u H', (results fn tm).run P X.w = .ok v X.w ∧ da E ρ0 K (.ret u) H' ∧ SimE F X ⟨1, [(0, u)], H', []⟩ #[v] := fun F X tm hs => by
   obtain ⟨v,k3,k4⟩ := GJ (Y := Y) hrs k1 hu F X tm (k2 F X tm hs) (H2 := hTo E.toEnc ρ (cq (σ.pack E ⟨[],lv.p,lv.ph,[]⟩).h (lv.kb.map (y8 (sT σ.h lv.m))))) (j8 k1 _)
   obtain ⟨ρ',q1,q2,q3,q4⟩ := Ih (E := E) (sT σ.h lv.m) (u := u) (h := cq (σ.pack E ⟨[],lv.p,lv.ph,[]⟩).h (lv.kb.map (y8 (sT σ.h lv.m)))) (ρ := ρ) (k1.sub fun p hp => let ⟨q,h1,h2,h3⟩ := n6 p hp; ⟨q,h1,h2,h3 ρ⟩)
   exact ⟨v,_,_,k3,⟨_,ρ',h,ha.trans q1,by rw [q3],q4.symm,q2⟩,k4⟩
  rcases he with rfl | rfl
  ·exact this
  ·exact this
 ·cases h
theorem l9 (lvl : List (Nat × Kp)) (id : Nat) (σ : TS E.T) : qh E.toEnc σ (lh E lvl id σ) := by
 unfold lh
 split
 ·exact ((qh.of (CS σ _ _)).trans (F5 _ _)).trans (qh.of (yQ _ _))
 ·exact qh.of (oB.refl σ)
theorem Ho {fn : Func} {ρ0 : Rn} (hrs : fn.results.toList = rs) (hm : P.follows .mixedOrders = true) (hG : GOk P Y E G) : ∀ (n : Nat) (ks : List It2) (σ : TS E.T) (ρ : Rn), Agr ρ0 ρ → Inj ρ σ.h → Fin Y E G lv rs K n ks σ → be P (QX P fn (da E ρ0 K)) (tr Y E G lv rs K ρ0 n ks) (σ.to E.toEnc ρ) := by
 intro n
 induction n using Nat.strongRecOn with
 | _ n ih =>
   intro ks σ ρ ha hi h
   cases n with
   | zero => cases h
   | succ n =>
     have up : ∀ {ks : List It2} {σ : TS E.T} {ρ : Rn},Agr ρ0 ρ → Inj ρ σ.h → Fin Y E G lv rs K n ks σ → be P (QX P fn (da E ρ0 K)) (tr Y E G lv rs K ρ0 (n + 1) ks) (σ.to E.toEnc ρ) := fun ha hi h => Ad (qD (Nat.le_succ n) _) (ih n (Nat.lt_succ_self n) _ _ _ ha hi h)
     cases ks with
     | nil => exact Dd hrs ha (F := Fin Y E G lv rs K n) hi (.inr rfl) h
     | cons it ks =>
       cases it with
       | b id => exact p7 (up (ks := ks) ha hi h)
       | l c =>
         have h' : Fin Y E G lv rs K n (.k c :: ks) (lh E lv.l (mO c) σ) := h
         obtain ⟨ρ',q1,k1,k2⟩ := l9 lv.l (mO c) σ ρ hi
         exact ⟨n,_,ρ',Nat.lt_succ_self n,⟨ha.trans q1,k1⟩,k2,h'⟩
       | k c =>
         refine EP (fun y : Nat × TS E.T × Rn => y.2.1.to E.toEnc y.2.2) (fun y => (Agr ρ0 y.2.2 ∧ Inj y.2.2 y.2.1.h) ∧ Fin Y E G lv rs K y.1 (.k c :: ks) y.2.1 ∧ y.1 ≤ n + 1) (fun y => y.1) (n + 1,σ,ρ) (fun _ _ _ h => h) ⟨⟨ha,hi⟩,h,Nat.le_refl _⟩ ?_
         rintro ⟨m,τ,ρ'⟩ ⟨⟨ha',hi'⟩,hf,hle⟩
         cases m with
         | zero => cases hf
         | succ m =>
           have hf' : Fin Y E G lv rs K m (.c c :: .l c :: ks) τ := hf
           have hr := ih m (by simp only at hle; omega) _ τ ρ' ha' hi' hf'
           refine Ad (.same _ (.l ?_ (qD (by simp only at hle; omega) ks))) hr
           rintro σ' ⟨q,τ',ρ'',h1,h2,h3,h4⟩
           exact ⟨(q,τ',ρ''),h3,⟨h2,h4,by simp only at hle ⊢; omega⟩,by simp only; omega⟩
       | r id ops draw =>
         refine Jx (Y := Y) hm hG hi ?_
         have h' : ((evR Y E G ops.toList draw σ).bind fun
          | .st σ' => Tree.leaf (Lf.go ks σ')
          | .pan v => .leaf (.done (.pan v))).holds (y5 (Fin Y E G lv rs K n) K) := h
         refine (bk h').mono fun x hx => ?_
         cases x with
         | st σ' => exact fun ρ' hi' ha' => up (ha.trans ha') hi' hx
         | pan v => exact mZ ks fun n => ⟨v,rfl,⟨.pan v,ρ0,hx,Agr.refl ρ0,rfl,rfl⟩⟩
       | c c =>
         cases c with
         | skip => exact np (up (ks := ks) ha hi h)
         | label q => exact DY (up (ks := ks) ha hi h)
         | seq a b => exact pE (up (ks := .c a :: .c b :: ks) ha hi h)
         | block id c => exact kP (up (ks := .c c :: .b id :: ks) ha hi h)
         | loop c =>
           have h' : Fin Y E G lv rs K n (.l c :: ks) σ := h
           cases n with
           | zero => cases h'
           | succ n' =>
             have h2 : Fin Y E G lv rs K n' (.k c :: ks) (lh E lv.l (mO c) σ) := h'
             obtain ⟨ρ',q1,k1,k2⟩ := l9 lv.l (mO c) σ ρ hi
             refine rD k2 ?_
             exact Ad (qD (by omega) (.k c :: ks)) (ih n' (by omega) (.k c :: ks) _ ρ' (ha.trans q1) k1 h2)
         | cond x a b =>
           cases x with
           | tmp t =>
             have h' : (match look σ.t t with
              | some (.a .tt) => Tree.leaf (Lf.go (.c a :: ks) σ)
              | some (.a .ff) => .leaf (.go (.c b :: ks) σ)
              | some (.a (.d .bool v)) => .cond v (.leaf (.go (.c a :: ks) (σ.know t .tt))) (.leaf (.go (.c b :: ks) (σ.know t .ff)))
              | _ => .fail).holds (y5 (Fin Y E G lv rs K n) K) := h
             split at h'
             ·rename_i hl
              exact eX (b := true) (by simp only [TS.to,bq,hl]; rfl) rfl (up (ks := .c a :: ks) ha hi h')
             ·rename_i hl
              exact ey (b := false) (by simp only [TS.to,bq,hl]; rfl) rfl (up (ks := .c b :: ks) ha hi h')
             ·rename_i v hl
              cases hv : v with
              | true => exact eX (b := v) (by simp only [TS.to,bq,hl]; rfl) hv (rD (kN (x := .tt) (b := v) (by rw [hv]; rfl) hl) (up (ks := .c a :: ks) (σ := σ.know t .tt) ha hi (h'.1 hv)))
              | false => exact ey (b := v) (by simp only [TS.to,bq,hl]; rfl) hv (rD (kN (x := .ff) (b := v) (by rw [hv]; rfl) hl) (up (ks := .c b :: ks) (σ := σ.know t .ff) ha hi (h'.2 hv)))
             ·cases h'
           | _ => cases h
         | exit id =>
           have h' : (match oE id ks with
            | some ks' => Tree.leaf (Lf.go ks' σ)
            | none => .fail).holds (y5 (Fin Y E G lv rs K n) K) := h
           split at h'
           ·rename_i ks' hks
            exact mQ (oY ks hks (up ha hi h'))
           ·cases h'
         | ret =>
           exact JG (mS ks (Dd hrs ha (F := Fin Y E G lv rs K n) hi (.inl rfl) h))
         | region id ops draw =>
           obtain ⟨ρ1,q0,k1,k2⟩ := l9 lv.r id σ ρ hi
           refine rD k2 ?_
           have h' : ((Hj E (KG lv.g id) (lh E lv.r id σ)).bind fun τ => Tree.leaf (Lf.go (.r id ops draw :: ks) τ)).holds (y5 (Fin Y E G lv rs K n) K) := h
           obtain ⟨τ,q1,q2⟩ := A1 (bk h')
           obtain ⟨ρ',q3,q4,q5⟩ := q2 ρ1 k1
           exact Fk (up (ks := .r id ops draw :: ks) ((ha.trans q0).trans q3) q4 q1) q5
         | _ => cases h
def slotsT {T : Nat → Type} : Nat → List (TV T) → List (Nat × TV T)
 | _,[] => []
 | k,u :: us => (k,u) :: slotsT (k + 1) us
theorem uO {ρ : Rn} : ∀ (us : List (TV E.T)) (k : Nat), tTo E.toEnc ρ (slotsT k us) = slotsOf k (us.map (TV.to E.toEnc ρ))
 | [],_ => rfl
 | u :: us,k => by simp only [slotsT,tTo,List.map_cons,slotsOf]; exact congrArg _ (uO us (k + 1))
theorem eW {f : FuncId} {fn : Func} (c : Code) (n : Nat) (hm : P.follows .mixedOrders = true) (hG : GOk P Y E G) (hf : P.funcs[f]? = some fn) (hn : (fn.name == "runtime.NumGoroutine") = false) (hb : fn.body = some c) (hnt : fn.ntmps = n) (hrs : fn.results.toList = rs) {us : List (TV E.T)} (hus : Nat.ble us.length n = true) {h0 : List (Nat × TB E.T)}
  (h : fT Y E G lv rs K [.c c] ⟨n,slotsT 0 us,h0,[]⟩) (ρ : Rn) (hi : Inj ρ h0) : aT P f (us.map (TV.to E.toEnc ρ)) (hTo E.toEnc ρ h0) (da E ρ K) := by
 subst hnt
 refine vV hf hn hb (by simpa using hus) ?_
 obtain ⟨m,hm'⟩ := h
 have hr := Ho hrs hm hG m _ _ ρ (Agr.refl ρ) hi hm'
 have hst : (TS.to E.toEnc ρ (⟨fn.ntmps, slotsT 0 us, h0, []⟩ : TS E.T)) = ⟨fn.ntmps, slotsOf 0 (us.map (TV.to E.toEnc ρ)), hTo E.toEnc ρ h0, []⟩ := by
  simp only [TS.to,uO]; rfl
 rw [hst] at hr
 exact hr
theorem qK {f : FuncId} {fn : Func} (c : Code) (n : Nat) (hm : P.follows .mixedOrders = true) (hG : GOk P Y E G) (hf : P.funcs[f]? = some fn) (hn : (fn.name == "runtime.NumGoroutine") = false) (hb : fn.body = some c) (hnt : fn.ntmps = n) (hrs : fn.results.toList = rs) {us : List (TV E.T)} (hus : Nat.ble us.length n = true)
  (h : fT Y E G lv rs K [.c c] ⟨n,slotsT 0 us,[],[]⟩) (ρ : Rn) : aT P f (us.map (TV.to E.toEnc ρ)) [] (da E ρ K) :=
 eW c n hm hG hf hn hb hnt hrs hus h ρ (fun p hp => by cases hp)
theorem da.ret {ρ : Rn} {u : TV E.T} (hu : (u.ids big) = true) {out : AOut} {H : List (Nat × List AV)} (h : da E ρ (fun r => r = .ret u []) out H) : out = .ret (u.to E.toEnc ρ) ∧ H = [] := by
 obtain ⟨r,ρ',rfl,ha,h1,h2,_⟩ := h
 exact ⟨by rw [h1,TV.ids_to ha hu],h2⟩
theorem da.retH {ρ : Rn} {u : TV E.T} {hh : List (Nat × TB E.T)} (hu : (u.ids big) = true) (hb : qB big hh = true) {out : AOut} {H : List (Nat × List AV)} (h : da E ρ (fun r => r = .ret u hh) out H) : out = .ret (u.to E.toEnc ρ) ∧ H = hTo E.toEnc ρ hh := by
 obtain ⟨r,ρ',rfl,ha,h1,h2,_⟩ := h
 exact ⟨by rw [h1,TV.ids_to ha hu],by rw [h2,wN ha hb]⟩
def tK (id : Nat) : Code → List It2 → Option (List It2)
 | .region j ops draw, ks => match Nat.beq id j with
   | true => some (.r j ops draw :: ks)
   | false => none
 | .seq a b, ks => match tK id a (.c b :: ks) with
   | some x => some x
   | none => tK id b ks
 | .cond _ a b, ks => match tK id a ks with
   | some x => some x
   | none => tK id b ks
 | .block i c,ks => tK id c (.b i :: ks)
 | .loop c,ks => tK id c (.l c :: ks)
 | _,_ => none
def sE (key : Nat) : Code → List It2 → Option (List It2)
 | .seq a b, ks => match sE key a (.c b :: ks) with
   | some x => some x
   | none => sE key b ks
 | .cond _ a b, ks => match sE key a ks with
   | some x => some x
   | none => sE key b ks
 | .block i c,ks => sE key c (.b i :: ks)
 | .loop c, ks => match Nat.beq key (mO c) with
   | true => some (.k c :: ks)
   | false => sE key c (.l c :: ks)
 | _,_ => none
def atR (id : Nat) (c : Code) : List It2 := (tK id c []).getD []
def atL (key : Nat) (c : Code) : List It2 := (sE key c []).getD []
def Tree.map1 {L R : Type} : Tree (L × Option R) → Tree L
 | .leaf x => .leaf x.1
 | .cond b t f => .cond b t.map1 f.map1
 | .bnd o k => .bnd o fun z => (k z).map1
 | .sm x k p => .sm x (fun z => (k z).map1) fun v => (p v).map1
 | .nl l t f => .nl l t.map1 f.map1
 | .fail => .fail
def Tree.run {L R : Type} : Tree (L × Option R) → Option R
 | .leaf x => x.2
 | .cond b t f => bif b then t.run else f.run
 | .bnd o k => o.bind fun z => (k z).run
 | .sm x k p => match x with
   | .ok z => (k z).run
   | .pan v => (p v).run
 | .nl _ _ f => f.run
 | .fail => none
def Tree.all {L R : Type} (K : L × Option R → Prop) : Tree (L × Option R) → Prop
 | .leaf x => K x
 | .cond _ t f => t.all K ∧ f.all K
 | .bnd _ k => ∀ z,(k z).all K
 | .sm _ k p => (∀ z,(k z).all K) ∧ ∀ v,(p v).all K
 | .nl l t f => (l = [] → ∀ r,f.run = some r → t.run = some r) ∧ t.all K ∧ f.all K
 | .fail => True
theorem fE {L R : Type} {K : L → Prop} {r : R} : ∀ {t : Tree (L × Option R)}, t.run = some r → t.all (fun p => p.2 = some r → K p.1) → t.map1.holds K
 | .leaf x,h,ha => ha h
 | .cond true t f,h,ha => ⟨fun _ => fE h ha.1,fun e => by cases e⟩
 | .cond false t f,h,ha => ⟨(fun e => by cases e),fun _ => fE h ha.2⟩
 | .bnd none k,h,ha => by cases h
 | .bnd (some z) k,h,ha => ⟨z,rfl,fE h (ha z)⟩
 | .nl l t f,h,ha => ⟨fun e => fE (ha.1 e _ h) ha.2.1,fE h ha.2.2⟩
 | .sm (.ok z) k p,h,ha => ⟨(fun z' e => by cases e; exact fE h (ha.1 z)),fun v e => by cases e⟩
 | .sm (.pan v) k p,h,ha => ⟨(fun z' e => by cases e),fun v' e => by cases e; exact fE h (ha.2 v)⟩
 | .fail,h,ha => by cases h
theorem aQ {R : Type} {r : R} {g : Option R} {m : Nat} {ks : List It2} {σ : TS E.T} {t : Tree (Lf E.T × Option R)} (hev : evM Y E G lv rs m true ks σ = t.map1) (hrun : g = t.run) (hg : g = some r) (ha : t.all (fun p => p.2 = some r → KA Y E G lv rs K p.1)) : fT Y E G lv rs K ks σ :=
 Eh m true ks σ (by rw [hev]; exact fE (hrun ▸ hg) ha)
theorem JX {α β : Type} {off n : Nat} {l : List α} {k : List α → Option β} {r : β} (e : (l.drop off).take n = []) (h : (CZ off n l).bind k = some r) : k [] = some r := by
 obtain ⟨m,hm,h⟩ := Option.bind_eq_some_iff.1 h
 have := (uQ hm).2
 rw [e] at this
 subst this
 exact h
theorem bc {R : Type} {enc : R → RL E.T} {r r' : R} {u : RL E.T} (e : u = enc r') (h : some r' = some r) : u = enc r := by cases h; exact e
end
def ai : Nat → Func → Code
 | 0, fn => match fn.body with
   | some c => c
   | none => .skip
 | n + 1,fn => ai n fn
def kT {T : Nat → Type} (t : Ty) : TV T → Option (Den T t)
 | .a x => asD t x
 | _ => none
def JU (E : Env) (i : Nat) : TV E.T → Option (E.T i)
 | .ag l => match E.pk i l with
   | some (z,[]) => some z
   | _ => none
 | _ => none
theorem eo {E : Env} {t : Ty} {u : TV E.T} {x : Den E.T t} (h : kT t u = some x) (ρ : Rn) : LeV (u.to E.toEnc ρ) ((TV.a (.d t x) : TV E.T).to E.toEnc ρ) := by
 unfold kT at h
 split at h
 ·rename_i a
  have := tx E.toEnc ρ h
  rw [TA.rd_to] at this
  exact .inl ((mz _).trans this)
 ·cases h
theorem G6 {E : Env} {i : Nat} {u : TV E.T} {z : E.T i} (h : JU E i u = some z) (ρ : Rn) : LeV (u.to E.toEnc ρ) ((TV.ag (E.unp i z) : TV E.T).to E.toEnc ρ) := by
 unfold JU at h
 split at h
 ·rename_i l
  split at h
  ·rename_i z' hz
   cases h
   have := yT (E := E) i (.ag l) ρ
   unfold BJ at this
   simp only [hz] at this
   exact this
  ·cases h
 ·cases h
theorem zk {P : Program} {E : Env} {f : FuncId} {us us' : List (TV E.T)} {ρ : Rn} {post : AOut → List (Nat × List AV) → Prop} (h : aT P f (us'.map (TV.to E.toEnc ρ)) [] post) (hl : us.length = us'.length) (hr : ∀ (i : Nat) u u', us[i]? = some u → us'[i]? = some u' → LeV (u.to E.toEnc ρ) (u'.to E.toEnc ρ)) : aT P f (us.map (TV.to E.toEnc ρ)) [] post :=
 h.args (by simpa using hl) fun i u u' hu hu' => by
  simp only [List.getElem?_map,Option.map_eq_some_iff] at hu hu'
  obtain ⟨v,hv,rfl⟩ := hu
  obtain ⟨v',hv',rfl⟩ := hu'
  exact hr i v v' hv hv'
def te (E : Env) (ρ : Rn) : List (TV E.T) → List (TV E.T) → Prop
 | [],[] => True
 | u :: us,u' :: us' => LeV (u.to E.toEnc ρ) (u'.to E.toEnc ρ) ∧ te E ρ us us'
 | _,_ => False
theorem te.get {E : Env} {ρ : Rn} : ∀ {us us' : List (TV E.T)}, te E ρ us us' → us.length = us'.length ∧ ∀ (i : Nat) u u', us[i]? = some u → us'[i]? = some u' → LeV (u.to E.toEnc ρ) (u'.to E.toEnc ρ)
 | [],[],_ => ⟨rfl,fun i u u' h => by simp at h⟩
 | u :: us, u' :: us', h => by
   obtain ⟨h1,h2⟩ := te.get h.2
   refine ⟨by simp [h1],fun i v v' hv hv' => ?_⟩
   cases i with
   | zero => simp at hv hv'; subst hv hv'; exact h.1
   | succ i => exact h2 i v v' (by simpa using hv) (by simpa using hv')
 | [],_ :: _,h => h.elim
 | _ :: _,[],h => h.elim
theorem fH {P : Program} {E : Env} {f : FuncId} {us us' : List (TV E.T)} {ρ : Rn} {post : AOut → List (Nat × List AV) → Prop} (hr : te E ρ us us') (h : aT P f (us'.map (TV.to E.toEnc ρ)) [] post) : aT P f (us.map (TV.to E.toEnc ρ)) [] post := zk h hr.get.1 hr.get.2
abbrev w64 (n : Int) : Int := IntKind.wrap .i64 n
abbrev toB (n : Int) : UInt8 := UInt8.ofNat n.toNat
abbrev b2i (b : UInt8) : Int := ((UInt8.toNat b : Nat) : Int)
end Go.Proofs.Ytlhjbhgkhpbnfaa
namespace Go.Proofs.Ytlhjbhgkhpbnfaa
open Go.RowKit P
set_option linter.unusedSimpArgs false
set_option linter.unusedVariables false
def J1 : List Nat → Nat → Nat → Nat
 | [],_,_ => 0
 | i :: r, k, j => match Nat.beq j k with
   | true => i
   | false => J1 r (k + 1) j
def nmS (ids : List Nat) (j : Nat) : Nat := match Nat.ble 200000 j with
 | true => J1 ids 200000 j
 | false => J1 ids 100000 j
def lO (ρ : Rn) (ids : List Nat) : Rn := ⟨fun j => ρ.k (nmS ids j)⟩
def AL {E : Env} (us : List (TV E.T)) (ρ ρ' : Rn) : Nat → List (TV E.T) → Prop
 | k,[] => us.length = k
 | k,u' :: r => (∀ u,us[k]? = some u → LeV (u.to E.toEnc ρ) (u'.to E.toEnc ρ')) ∧ AL us ρ ρ' (k + 1) r
theorem AL.get {E : Env} {us : List (TV E.T)} {ρ ρ' : Rn} : ∀ {us' : List (TV E.T)} {k : Nat}, AL us ρ ρ' k us' → us.length = k + us'.length ∧ ∀ (i : Nat) u u', us[k + i]? = some u → us'[i]? = some u' → LeV (u.to E.toEnc ρ) (u'.to E.toEnc ρ')
 | [],k,h => ⟨h,fun i u u' _ h' => by simp at h'⟩
 | v :: r, k, h => by
   obtain ⟨h1,h2⟩ := AL.get (us' := r) h.2
   refine ⟨by simp only [List.length_cons]; omega,fun i u u' hu hu' => ?_⟩
   cases i with
   | zero => simp at hu'; subst hu'; exact h.1 u hu
   | succ i => exact h2 i u u' (by rw [show k + 1 + i = k + (i + 1) by omega]; exact hu) (by simpa using hu')
def BL {E : Env} (hs : List (Nat × TB E.T)) (ρ ρ' : Rn) : List Nat → List (Nat × TB E.T) → Prop
 | [],[] => True
 | i :: is,q :: r => ρ' q.1 = ρ i ∧ (∃ b,look hs i = some b ∧ LeL (b.to E.toEnc ρ) (q.2.to E.toEnc ρ') ∧ a8 ρ b = a8 ρ' q.2) ∧ BL hs ρ ρ' is r
 | _,_ => False
theorem BL.look {E : Env} {hs : List (Nat × TB E.T)} {ρ ρ' : Rn} : ∀ {ids : List Nat} {h0 : List (Nat × TB E.T)}, BL hs ρ ρ' ids h0 → ∀ k cs', look (hTo E.toEnc ρ' h0) k = some cs' → ∃ cs, Go.Proofs.Ytlhjbhgkhpbnfaa.look (hTo E.toEnc ρ (cq hs ids)) k = some cs ∧ LeL cs cs'
 | [],[],_,k,cs',h => by cases h
 | i :: is, q :: r, h, k, cs', hk => by
   obtain ⟨h1,⟨b,h2,h3,h5⟩,h4⟩ := h
   obtain ⟨qn,qb⟩ := q
   simp only at h1 h3 h5
   simp only [cq,h2]
   cases hl : a8 ρ b with
   | false =>
     rw [dW _ _ (by rw [← h5]; exact hl)] at hk
     rw [dW _ _ hl]
     exact BL.look h4 k cs' hk
   | true =>
     rw [cM _ _ (by rw [← h5]; exact hl),aj,h1] at hk
     rw [cM _ _ hl,aj]
     split at hk
     ·rename_i e
      rw [if_pos e]
      cases hk
      exact ⟨_,rfl,h3⟩
     ·rename_i e
      rw [if_neg e]
      exact BL.look h4 k cs' hk
 | [],_ :: _,h,_,_,_ => h.elim
 | _ :: _,[],h,_,_,_ => h.elim
theorem F7 {P : Program} {E : Env} {f : FuncId} {us us' : List (TV E.T)} {hs h0 : List (Nat × TB E.T)} {ids : List Nat} {ρ ρ' : Rn} {post post' : AOut → List (Nat × List AV) → Prop} (ha : AL us ρ ρ' 0 us') (hb : BL hs ρ ρ' ids h0) (hc : aT P f (us'.map (TV.to E.toEnc ρ')) (hTo E.toEnc ρ' h0) post) (hp : ∀ out H, post out H → post' out H) : aT P f (us.map (TV.to E.toEnc ρ)) (hTo E.toEnc ρ (cq hs ids)) post' := by
 have h1 : aT P f (us.map (TV.to E.toEnc ρ)) (hTo E.toEnc ρ (cq hs ids)) post := by
  obtain ⟨hl,hr⟩ := ha.get
  refine ⟨hc.1,fun F X vs hs' => hc.2 F X vs ?_⟩
  refine hs'.le3 (by simp [hl]) (fun t u' hu => ?_) (fun k cs' hk => hb.look k cs' hk) (fun p hp => hp)
  obtain ⟨_,h2⟩ := cn (us'.map (TV.to E.toEnc ρ')) 0 t u' hu
  simp only [Nat.sub_zero,List.getElem?_map,Option.map_eq_some_iff] at h2
  obtain ⟨v',hv',rfl⟩ := h2
  have hlt : t < us.length := by rw [hl]; have := (List.getElem?_eq_some_iff.1 hv').1; omega
  have e : us[0 + t]? = some us[t] := by simp [hlt]
  refine ⟨us[t].to E.toEnc ρ,?_,hr t _ _ e hv'⟩
  have key : ∀ (us : List AV) (k t : Nat) (u : AV), us[t]? = some u → look (slotsOf k us) (k + t) = some u := by
   intro us
   induction us with
   | nil => intro k t u h; simp at h
   | cons a us ih =>
     intro k t u h
     simp only [slotsOf,aj]
     cases t with
     | zero => simp at h; subst h; simp
     | succ t =>
       rw [if_neg (by omega),show k + (t + 1) = (k + 1) + t by omega]
       exact ih (k + 1) t u (by simpa using h)
  simpa using key (us.map (TV.to E.toEnc ρ)) 0 t (us[t].to E.toEnc ρ) (by simp [hlt])
 exact h1.mono hp
theorem sP {T : Nat → Type} {hs : List (Nat × TB T)} : ∀ {ids : List Nat}, bR hs ids = true → ids.Nodup
 | [],_ => List.nodup_nil
 | i :: r, h => by
   simp only [bR] at h
   split at h
   ·rename_i hm
    exact List.nodup_cons.2 ⟨fun hi => (by rw [cR.2 hi] at hm; cases hm),sP h⟩
   ·cases h
theorem BL.mem {E : Env} {hs : List (Nat × TB E.T)} {ρ ρ' : Rn} : ∀ {ids : List Nat} {h0 : List (Nat × TB E.T)}, BL hs ρ ρ' ids h0 → ids.length = h0.length ∧ ∀ (j : Nat) (h1 : j < ids.length) (h2 : j < h0.length), ρ' h0[j].1 = ρ ids[j] ∧ ∃ b, Go.Proofs.Ytlhjbhgkhpbnfaa.look hs ids[j] = some b ∧ a8 ρ b = a8 ρ' h0[j].2
 | [],[],_ => ⟨rfl,fun j h1 => by simp at h1⟩
 | i :: is, q :: r, h => by
   obtain ⟨h1,⟨b,h2,h3,h5⟩,h4⟩ := h
   obtain ⟨k1,k2⟩ := BL.mem h4
   refine ⟨by simp [k1],fun j hj1 hj2 => ?_⟩
   cases j with
   | zero => exact ⟨h1,b,h2,h5⟩
   | succ j => exact k2 j (by simpa using hj1) (by simpa using hj2)
 | [],_ :: _,h => absurd h id
 | _ :: _,[],h => absurd h id
theorem BL.inj {E : Env} {hs h0 : List (Nat × TB E.T)} {ρ ρ' : Rn} {ids : List Nat} (hi : Inj ρ hs) (hg : bR hs ids = true) (hb : BL hs ρ ρ' ids h0) (hn : gV (h0.map (·.1)) = true) : Inj ρ' h0 := by
 obtain ⟨hl,hm⟩ := hb.mem
 have hnd := List.pairwise_iff_getElem.1 (sP hg)
 have hn0 := List.pairwise_iff_getElem.1 (sb hn)
 intro p hp q hq
 obtain ⟨a,ha,rfl⟩ := List.getElem_of_mem hp
 obtain ⟨b,hb',rfl⟩ := List.getElem_of_mem hq
 obtain ⟨e1,b1,l1,m1⟩ := hm a (by omega) ha
 obtain ⟨e2,b2,l2,m2⟩ := hm b (by omega) hb'
 constructor
 ·intro v1 v2 e
  have := (hi _ (bX l1) _ (bX l2)).1 (by rw [m1]; exact v1) (by rw [m2]; exact v2) (by rw [← e1,← e2]; exact e)
  simp only at this
  rcases Nat.lt_trichotomy a b with hlt | heq | hgt
  ·exact absurd this (hnd _ _ (by omega) (by omega) hlt)
  ·subst heq; rfl
  ·exact absurd this.symm (hnd _ _ (by omega) (by omega) hgt)
 ·intro e
  rcases Nat.lt_trichotomy a b with hlt | heq | hgt
  ·exact absurd (by rw [List.getElem_map,List.getElem_map]; exact e) (hn0 a b (by simpa using ha) (by simpa using hb') hlt)
  ·subst heq; rfl
  ·exact absurd (by rw [List.getElem_map,List.getElem_map]; exact e.symm) (hn0 b a (by simpa using hb') (by simpa using ha) hgt)
theorem Ky {P : Program} {E : Env} {f : FuncId} {us us' : List (TV E.T)} {hs h0 : List (Nat × TB E.T)} {ids : List Nat} {ρ ρ' : Rn} {post post' : AOut → List (Nat × List AV) → Prop} (hi : Inj ρ hs) (hg : bR hs ids = true) (hn : gV (h0.map (·.1)) = true) (ha : AL us ρ ρ' 0 us') (hb : BL hs ρ ρ' ids h0) (hc : Inj ρ' h0 → aT P f (us'.map (TV.to E.toEnc ρ')) (hTo E.toEnc ρ' h0) post) (hp : ∀ out H, post out H → post' out H) : aT P f (us.map (TV.to E.toEnc ρ)) (hTo E.toEnc ρ (cq hs ids)) post' :=
 F7 ha hb (hc (hb.inj hi hg hn)) hp
def Cr (ρ ρ' : Rn) : List Nat → List Nat → Prop
 | i :: is,k :: ks => (big k = false ∨ ρ'.k k = ρ.k i) ∧ Cr ρ ρ' is ks
 | [],[] => True
 | _,_ => False
def mvL : List Nat → List Nat → List Nat
 | i :: is, k :: ks => match big k with
   | true => mvL is ks
   | false => i :: mvL is ks
 | _,_ => []
theorem Cr.get {ρ ρ' : Rn} : ∀ {ids ks : List Nat}, Cr ρ ρ' ids ks → ∀ i ∈ ids, i ∉ mvL ids ks → ∃ k, (k, i) ∈ ks.zip ids ∧ big k = true ∧ ρ'.k k = ρ.k i
 | [],[],_,i,hi,_ => by cases hi
 | j :: is, k :: ks, h, i, hi, hn => by
   simp only [mvL] at hn
   cases hb : big k with
   | true =>
     rw [hb] at hn
     rcases List.mem_cons.1 hi with rfl | hi
     ·exact ⟨k,List.mem_cons_self,hb,h.1.resolve_left (by rw [hb]; decide)⟩
     ·obtain ⟨k', h1, h2, h3⟩ := Cr.get h.2 i hi hn
      exact ⟨k',List.mem_cons_of_mem _ h1,h2,h3⟩
   | false =>
     rw [hb] at hn
     rcases List.mem_cons.1 hi with rfl | hi
     ·exact absurd List.mem_cons_self hn
     ·obtain ⟨k', h1, h2, h3⟩ := Cr.get h.2 i hi fun hc => hn (List.mem_cons_of_mem _ hc)
      exact ⟨k',List.mem_cons_of_mem _ h1,h2,h3⟩
 | [],_ :: _,h,_,_,_ => absurd h id
 | _ :: _,[],h,_,_,_ => absurd h id
def mi {T : Nat → Type} {Z : Type} (u : Z → TV T) (h : Z → List (Nat × TB T)) : PR Z → RL T
 | .ok z => .ret (u z) (h z)
 | .pan v => .pan v
theorem fN {P : Program} {E : Env} {f : FuncId} {us us' : List (TV E.T)} {hs h0 : List (Nat × TB E.T)} {ids ks : List Nat} {ex : List (Nat × Nat)} {ρ ρ' : Rn} {Z : Type} {p : PR Z} {uc u : Z → TV E.T} {hc h : Z → List (Nat × TB E.T)} (hi : Inj ρ hs) (hg : bR hs ids = true) (hn : gV (h0.map (·.1)) = true) (ha : AL us ρ ρ' 0 us') (hb : BL hs ρ ρ' ids h0) (hf : Cr ρ ρ' ids ks) (hv : gV ((ks.zip ids ++ ex).map (·.2)) = true)
  (hk : Inj ρ' h0 → aT P f (us'.map (TV.to E.toEnc ρ')) (hTo E.toEnc ρ' h0) (da E ρ' fun r => r = mi uc hc p))
  (hu : ∀ z,(uc z).ren (nH (ks.zip ids ++ ex)) = u z ∧ nC (nH (ks.zip ids ++ ex)) (hc z) = h z ∧ (uc z).ids (inK (ks.zip ids ++ ex)) = true ∧ qB (inK (ks.zip ids ++ ex)) (hc z) = true) :
  aT P f (us.map (TV.to E.toEnc ρ)) (hTo E.toEnc ρ (cq hs ids)) fun out H => match (generalizing := false) p with
   | .ok z => ∃ ρ3 : Rn,(∀ i ∈ ids,i ∉ mvL ids ks → ρ3.k i = ρ.k i) ∧ out = .ret ((u z).to E.toEnc ρ3) ∧ H = hTo E.toEnc ρ3 (h z) ∧ Inj ρ3 (h z)
   | .pan v => out = .pan v := by
 refine F7 ha hb (hk (hb.inj hi hg hn)) ?_
 rintro out H ⟨r,ρ2,rfl,hagr,hr⟩
 cases p with
 | pan v => exact hr.1
 | ok z =>
   obtain ⟨h1,h2,h3⟩ := hr
   obtain ⟨k1,k2,k3,k4⟩ := hu z
   have key : ∀ j, inK (ks.zip ids ++ ex) j = true → (⟨fun i => match gu (qQ (ks.zip ids ++ ex)) i with | some j => ρ2.k j | none => ρ.k i⟩ : Rn).k (nH (ks.zip ids ++ ex) j) = ρ2.k j := fun j hj => by
    unfold inK at hj
    obtain ⟨b,hb⟩ := Option.isSome_iff_exists.1 hj
    have := gh hv (g9 hb)
    simp only [nH,hb,Option.getD_some,this]
   have kinj : ∀ i j, inK (ks.zip ids ++ ex) i = true → inK (ks.zip ids ++ ex) j = true → nH (ks.zip ids ++ ex) i = nH (ks.zip ids ++ ex) j → i = j := fun i j hi hj e => by
    unfold inK at hi hj
    obtain ⟨a,ha⟩ := Option.isSome_iff_exists.1 hi
    obtain ⟨b,hb⟩ := Option.isSome_iff_exists.1 hj
    simp only [nH,ha,hb,Option.getD_some] at e
    subst e
    have e1 := gh hv (g9 ha)
    have e2 := gh hv (g9 hb)
    rw [e1] at e2; cases e2; rfl
   refine ⟨⟨fun i => match gu (qQ (ks.zip ids ++ ex)) i with | some j => ρ2.k j | none => ρ.k i⟩,fun i hi hm => ?_,?_,?_,?_⟩
   ·obtain ⟨k, q1, q2, q3⟩ := hf.get i hi hm
    have := gh hv (List.mem_append_left ex q1)
    simp only [this]
    rw [hagr k q2,q3]
   ·rw [h1,← k1,TV.ren_to key k3]
   ·rw [h2,← k2,pv key k4]
   ·rw [← k2]; exact pB key kinj k4 h3
def bnX {T : Nat → Type} {α : Type} (o : Option α) (k : α → XR T) : XR T := match o with
 | some x => k x
 | none => .bad
theorem aA {P : Program} {E : Env} {f : FuncId} {us : List (TV E.T)} {hs : List (Nat × TB E.T)} {α : Type} {o : Option α} {k : α → XR E.T} (h : ∀ x, o = some x → (k x).ok P f us hs) : (bnX o k).ok P f us hs := by
 cases o with
 | none => trivial
 | some x => exact h x rfl
def gdX {T : Nat → Type} (b : Bool) (x : XR T) : XR T := match b with
 | true => x
 | false => .bad
theorem a7 {P : Program} {E : Env} {f : FuncId} {us : List (TV E.T)} {hs : List (Nat × TB E.T)} {b : Bool} {x : XR E.T} (h : b = true → x.ok P f us hs) : (gdX b x).ok P f us hs := by
 cases b with
 | false => trivial
 | true => exact h rfl
section
variable {E : Env} {us : List (TV E.T)} {hs : List (Nat × TB E.T)} {l : List (TA E.T)} {k i j : Nat} {t : Ty} {ρ ρ' : Rn}
def fx {α : Type} (us : List α) (n : Nat) : Bool := Nat.beq us.length n
theorem ce {α : Type} {us : List α} {n : Nat} (h : fx us n = true) : us.length = n := Nat.eq_of_beq_eq_true h
def aD {T : Nat → Type} (t : Ty) (us : List (TV T)) (k : Nat) : Option (Den T t) := match us[k]? with
 | some u => kT t u
 | none => none
def aS (E : Env) (i : Nat) (us : List (TV E.T)) (k : Nat) : Option (E.T i) := match us[k]? with
 | some u => JU E i u
 | none => none
def aB {T : Nat → Type} (us : List (TV T)) (k : Nat) : Option Nat := match us[k]? with
 | some (.a (.box i 0)) => some i
 | _ => none
theorem lZ {x : Den E.T t} (h : aD t us k = some x) : ∀ u, us[k]? = some u → LeV (u.to E.toEnc ρ) ((TV.a (.d t x) : TV E.T).to E.toEnc ρ') := fun u hu => by
 unfold aD at h
 rw [hu] at h
 exact eo h ρ
theorem FW {n : Nat} {x : E.T n} (h : aS E n us k = some x) : ∀ u, us[k]? = some u → LeV (u.to E.toEnc ρ) ((TV.ag (E.unp n x) : TV E.T).to E.toEnc ρ') := fun u hu => by
 unfold aS at h
 rw [hu] at h
 have := G6 h ρ
 have e : (TV.ag (E.unp n x) : TV E.T).to E.toEnc ρ' = (TV.ag (E.unp n x) : TV E.T).to E.toEnc ρ := by
  show AV.ag ((E.unp n x).map _) = AV.ag ((E.unp n x).map _)
  rw [E.unp_to,E.unp_to]
 rw [e]
 exact this
theorem iF (h : aB us k = some i) (e : ρ' j = ρ i) : ∀ u, us[k]? = some u → LeV (u.to E.toEnc ρ) ((TV.a (.box j 0) : TV E.T).to E.toEnc ρ') := fun u hu => by
 unfold aB at h
 rw [hu] at h
 split at h
 ·rename_i i' hu'
  cases hu'; cases h
  left
  show Le1 (.v (.pointer (some ⟨ρ i,0,none⟩))) (.v (.pointer (some ⟨ρ' j,0,none⟩)))
  rw [e]; exact .refl _
 ·cases h
def bS (E : Env) (n : Nat) (hs : List (Nat × TB E.T)) (i : Nat) : Option (E.T n) := match look hs i with
 | some (.cs l) => match E.pk n l with
   | some (z,[]) => some z
   | _ => none
 | _ => none
theorem DR {n : Nat} {z : E.T n} (h : bS E n hs i = some z) : ∃ b, look hs i = some b ∧ LeL (b.to E.toEnc ρ) ((TB.cs (E.unp n z) : TB E.T).to E.toEnc ρ') ∧ a8 ρ b = a8 ρ' (TB.cs (E.unp n z) : TB E.T) := by
 unfold bS at h
 split at h
 ·rename_i l hl
  split at h
  ·rename_i z' hz
   cases h
   refine ⟨_,hl,?_,rfl⟩
   have hp := E.pk_to n _ z [] ρ hz
   simp only [List.map_nil,List.append_nil] at hp
   show LeL (l.map _) ((E.unp n z).map _)
   rw [E.unp_to]
   exact (gj (ρ := ρ) l).trans hp
  ·cases h
 ·cases h
def bC {T : Nat → Type} (hs : List (Nat × TB T)) (i : Nat) : Option (List (TA T)) := match look hs i with
 | some (.cs l) => some l
 | _ => none
def cD {T : Nat → Type} (t : Ty) (l : List (TA T)) (k : Nat) : Option (Den T t) := match l[k]? with
 | some a => asD t a.rd
 | none => none
def CL {E : Env} (l : List (TA E.T)) (ρ ρ' : Rn) : Nat → List (TA E.T) → Prop
 | k,[] => l.length = k
 | k,u' :: r => (∀ u,l[k]? = some u → Le1 (u.to E.toEnc ρ) (u'.to E.toEnc ρ')) ∧ CL l ρ ρ' (k + 1) r
theorem CL.le : ∀ {l' : List (TA E.T)} {l : List (TA E.T)} {k : Nat}, CL l ρ ρ' k l' → LeL ((l.drop k).map (TA.to E.toEnc ρ)) (l'.map (TA.to E.toEnc ρ'))
 | [], l, k, h => by
   have h' : l.length = k := h
   rw [List.drop_eq_nil_of_le (by omega)]; exact .nil
 | u' :: r, l, k, h => by
   have hlen : ∀ (r : List (TA E.T)) (k : Nat), CL l ρ ρ' k r → l.length = k + r.length := by
    intro r
    induction r with
    | nil => intro k h; exact h
    | cons a r ih => intro k h; have := ih _ h.2; simp only [List.length_cons]; omega
   have hk : k < l.length := by have := hlen _ _ h; simp only [List.length_cons] at this; omega
   rw [List.drop_eq_getElem_cons hk]
   exact .cons (h.1 _ (List.getElem?_eq_getElem hk)) (CL.le h.2)
theorem ko {l' : List (TA E.T)} (h : bC hs i = some l) (hc : CL l ρ ρ' 0 l') : ∃ b, look hs i = some b ∧ LeL (b.to E.toEnc ρ) ((TB.cs l' : TB E.T).to E.toEnc ρ') ∧ a8 ρ b = a8 ρ' (TB.cs l' : TB E.T) := by
 unfold bC at h
 split at h
 ·rename_i l0 hl
  cases h
  refine ⟨_,hl,?_,rfl⟩
  show LeL (l.map _) (l'.map _)
  simpa using hc.le
 ·cases h
theorem df {x : Den E.T t} (h : cD t l k = some x) : ∀ u, l[k]? = some u → Le1 (u.to E.toEnc ρ) ((TA.d t x : TA E.T).to E.toEnc ρ') := fun u hu => by
 unfold cD at h
 rw [hu] at h
 have := tx E.toEnc ρ h
 rw [TA.rd_to,TA.rd_to] at this
 have e : ((u.to E.toEnc ρ).rd).rd = (u.to E.toEnc ρ).rd := by rw [← TA.rd_to,← TA.rd_to]; cases u <;> rfl
 rw [e] at this
 exact (mz _).trans this
theorem da.pan {v : Value} {out : AOut} {H : List (Nat × List AV)} (h : da E ρ (fun r => r = .pan v) out H) : out = .pan v := by
 obtain ⟨r,ρ',rfl,ha,h1,h2⟩ := h
 exact h1
def bV {T : Nat → Type} (t : Ty) (hs : List (Nat × TB T)) (i : Nat) : Option (List (Den T t)) := lH hs t i
theorem i6 {x : List (Den E.T t)} (h : bV t hs i = some x) (e : ρ'.k j = ρ.k i) : ∃ b, look hs i = some b ∧ LeL (b.to E.toEnc ρ) ((TB.vec j t x : TB E.T).to E.toEnc ρ') ∧ a8 ρ b = a8 ρ' (TB.vec j t x : TB E.T) := by
 have hb := fy (σ := ⟨0,[],hs,[]⟩) h
 refine ⟨_,hb,?_,?_⟩
 ·simp only [TB.to,e]; exact LeL.refl _
 ·simp only [a8,e]
def isV {T : Nat → Type} (t : Ty) : TA T → Option (Nat × Nat)
 | .vec t' i n => match decide (t' = t) with
   | true => some (i,n)
   | false => none
 | _ => none
theorem yc {T : Nat → Type} {t : Ty} {p : Nat × Nat} {a : TA T} (h : isV t a = some p) : a = .vec t p.1 p.2 := by
 unfold isV at h
 split at h
 ·split at h
  ·rename_i hb
   have := of_decide_eq_true hb
   subst this
   cases h; rfl
  ·cases h
 ·cases h
def cV {T : Nat → Type} (t : Ty) (l : List (TA T)) (k : Nat) : Option (Nat × Nat) := match l[k]? with
 | some a => isV t a
 | none => none
theorem KN {n : Nat} (h : cV t l k = some (i, n)) (e : ρ'.k j = ρ.k i) : ∀ u, l[k]? = some u → Le1 (u.to E.toEnc ρ) ((TA.vec t j n : TA E.T).to E.toEnc ρ') := fun u hu => by
 unfold cV at h
 rw [hu] at h
 rw [yc h]
 simp only [TA.to,e]; exact .refl _
def aV {T : Nat → Type} (t : Ty) (us : List (TV T)) (k : Nat) : Option (Nat × Nat) := match us[k]? with
 | some (.a a) => isV t a
 | _ => none
theorem Lj {n : Nat} (h : aV t us k = some (i, n)) (e : ρ'.k j = ρ.k i) : ∀ u, us[k]? = some u → LeV (u.to E.toEnc ρ) ((TV.a (.vec t j n) : TV E.T).to E.toEnc ρ') := fun u hu => by
 unfold aV at h
 rw [hu] at h
 split at h
 ·rename_i a hu'
  cases hu'
  rw [yc h]
  left
  simp only [TV.to,TA.to,e]; exact .refl _
 ·cases h
def cVi {T : Nat → Type} (t : Ty) (l : List (TA T)) (k : Nat) : Option Nat := match cV t l k with
 | some p => some p.1
 | none => none
def cVn {T : Nat → Type} (t : Ty) (l : List (TA T)) (k : Nat) : Option Nat := match cV t l k with
 | some p => some p.2
 | none => none
theorem g8 {n : Nat} (h : cVi t l k = some i) (h2 : cVn t l k = some n) (e : ρ'.k j = ρ.k i) : ∀ u, l[k]? = some u → Le1 (u.to E.toEnc ρ) ((TA.vec t j n : TA E.T).to E.toEnc ρ') := by
 unfold cVi at h; unfold cVn at h2
 cases hc : cV t l k with
 | none => rw [hc] at h; cases h
 | some p =>
   rw [hc] at h h2
   cases h; cases h2
   exact KN hc e
def aVi {T : Nat → Type} (t : Ty) (us : List (TV T)) (k : Nat) : Option Nat := match aV t us k with
 | some p => some p.1
 | none => none
def aVn {T : Nat → Type} (t : Ty) (us : List (TV T)) (k : Nat) : Option Nat := match aV t us k with
 | some p => some p.2
 | none => none
theorem Jz {n : Nat} (h : aVi t us k = some i) (h2 : aVn t us k = some n) (e : ρ'.k j = ρ.k i) : ∀ u, us[k]? = some u → LeV (u.to E.toEnc ρ) ((TV.a (.vec t j n) : TV E.T).to E.toEnc ρ') := by
 unfold aVi at h; unfold aVn at h2
 cases hc : aV t us k with
 | none => rw [hc] at h; cases h
 | some p =>
   rw [hc] at h h2
   cases h; cases h2
   exact Lj hc e
def aM {T : Nat → Type} (us : List (TV T)) (k : Nat) : Option Nat := match us[k]? with
 | some (.a (.mpr i)) => some i
 | _ => none
theorem I5 (h : aM us k = some i) (e : ρ' j = ρ i) : ∀ u, us[k]? = some u → LeV (u.to E.toEnc ρ) ((TV.a (.mpr j) : TV E.T).to E.toEnc ρ') := fun u hu => by
 unfold aM at h
 rw [hu] at h
 split at h
 ·rename_i i' hu'
  cases hu'; cases h
  left
  show Le1 (.v (.map (some (ρ i)))) (.v (.map (some (ρ' j))))
  rw [e]; exact .refl _
 ·cases h
def bI {T : Nat → Type} (t : Ty) (hs : List (Nat × TB T)) (i : Nat) : Option (List (Int × Den T t)) := match look hs i with
 | some (.imap t' l) => if h : t' = t then some (h ▸ l) else none
 | _ => none
theorem IV {x : List (Int × Den E.T t)} (h : bI t hs i = some x) : ∃ b, look hs i = some b ∧ LeL (b.to E.toEnc ρ) ((TB.imap t x : TB E.T).to E.toEnc ρ') ∧ a8 ρ b = a8 ρ' (TB.imap t x : TB E.T) := by
 unfold bI at h
 split at h
 ·rename_i t' l hl
  split at h
  ·rename_i e; subst e; cases h; exact ⟨_,hl,LeL.refl _,rfl⟩
  ·cases h
 ·cases h
def aN {T : Nat → Type} (us : List (TV T)) (k : Nat) : Bool := match us[k]? with
 | some (.a (.raw (.slice none 0 0))) => true
 | _ => false
theorem K9 (h : aN us k = true) : ∀ u, us[k]? = some u → LeV (u.to E.toEnc ρ) ((TV.a (.raw (.slice none 0 0)) : TV E.T).to E.toEnc ρ') := fun u hu => by
 unfold aN at h
 rw [hu] at h
 split at h
 ·rename_i hu'
  cases hu'
  exact .inl (.refl _)
 ·cases h
def isU {T : Nat → Type} (t : Ty) : TA T → Option (Nat × Nat × Nat)
 | .vsl t' i off n => match decide (t' = t) with
   | true => some (i,off,n)
   | false => none
 | .vec t' i n => match decide (t' = t) with
   | true => some (i,0,n)
   | false => none
 | _ => none
theorem IL (b : Bk) (sz n : Nat) : vecV b sz n = lA b sz 0 n := by
 unfold vecV lA
 rw [Nat.zero_add]
 split
 ·rfl
 ·rw [Nat.zero_mul,ite_self]
theorem GC {E : Env} {ρ : Rn} {t : Ty} {p : Nat × Nat × Nat} {a : TA E.T} (h : isU t a = some p) : a.to E.toEnc ρ = (TA.vsl t p.1 p.2.1 p.2.2 : TA E.T).to E.toEnc ρ := by
 unfold isU at h
 split at h
 ·split at h
  ·rename_i hb
   have := of_decide_eq_true hb
   subst this
   cases h; rfl
  ·cases h
 ·split at h
  ·rename_i hb
   have := of_decide_eq_true hb
   subst this
   cases h
   simp only [TA.to,IL]
  ·cases h
 ·cases h
def aU {T : Nat → Type} (t : Ty) (us : List (TV T)) (k : Nat) : Option (Nat × Nat × Nat) := match us[k]? with
 | some (.a a) => isU t a
 | _ => none
def aUi {T : Nat → Type} (t : Ty) (us : List (TV T)) (k : Nat) : Option Nat := match aU t us k with
 | some p => some p.1
 | none => none
def aUo {T : Nat → Type} (t : Ty) (us : List (TV T)) (k : Nat) : Option Nat := match aU t us k with
 | some p => some p.2.1
 | none => none
def aUn {T : Nat → Type} (t : Ty) (us : List (TV T)) (k : Nat) : Option Nat := match aU t us k with
 | some p => some p.2.2
 | none => none
theorem KI {off n : Nat} (h : aUi t us k = some i) (h2 : aUo t us k = some off) (h3 : aUn t us k = some n) (e : ρ'.k j = ρ.k i) : ∀ u, us[k]? = some u → LeV (u.to E.toEnc ρ) ((TV.a (.vsl t j off n) : TV E.T).to E.toEnc ρ') := fun u hu => by
 unfold aUi at h; unfold aUo at h2; unfold aUn at h3
 cases hc : aU t us k with
 | none => rw [hc] at h; cases h
 | some p =>
   rw [hc] at h h2 h3
   cases h; cases h2; cases h3
   unfold aU at hc
   rw [hu] at hc
   split at hc
   ·rename_i a hu'
    cases hu'
    left
    have e2 : (TV.a a : TV E.T).to E.toEnc ρ = (TV.a (.vsl t p.1 p.2.1 p.2.2) : TV E.T).to E.toEnc ρ := GC hc
    rw [e2]
    simp only [TV.to,TA.to,e]; exact .refl _
   ·cases hc
end
end Go.Proofs.Ytlhjbhgkhpbnfaa
namespace Go.Proofs.Ytlhjbhgkhpbnfaa
open Go.RowKit P
def fD (n : String) (t o b : Nat) : Field := ⟨n,t,o,false,"","",b⟩
def TTy : List (Nat × TypeDesc) := [(1,(.func #[] #[] false)),(2,(.int .i64)),(3,(.int .i64)),(4,.bool),(5,(.int .u8)),(6,(.int .u8)),(9,.string),(10,.string),(11,.string),(12,(.int .u64)),(15,(.pointer 141)),(16,(.pointer 144)),(17,(.pointer 151)),(20,(.interface #[])),(21,(.int .i32)),(22,(.slice 9)),(23,(.int .i64)),(25,(.func #[9,9] #[4,22,23] false)),(26,(.slice 109)),(27,(.struct #[fD "Err" 23 0 0,fD "At" 3 1 8])),(28,(.struct #[fD "Err" 23 0 0,fD "At" 3 1 8])),(30,(.func #[9] #[26,3,28] false)),(31,(.func #[] #[4] false)),(33,(.func #[26,3,9] #[4,22] false)),(34,(.func #[22,22] #[4] false)),(35,(.func #[9,9] #[4] false)),(37,(.func #[9,9,22] #[9,23] false)),(38,(.slice 3)),(40,(.func #[9] #[22,38,4] false)),(42,(.func #[9,9,22,3] #[9,3] false)),(43,(.func #[9,23,23,9] #[4] false)),(44,(.func #[9,9,22] #[4] false)),(45,(.func #[3,3] #[3] false)),(46,(.slice 5)),(47,(.func #[38] #[9] false)),(48,(.func #[38,38] #[4] false)),(49,(.func #[9,9,9] #[4] false)),(50,(.func #[3,3,9] #[4] false)),(52,(.func #[9] #[3,28] false)),(53,(.func #[9] #[4] false)),(54,(.pointer 93)),(56,(.func #[9] #[54,28] false)),(57,(.func #[9] #[4,22] false)),(58,(.pointer 60)),(59,(.struct #[fD "M" 9 0 0,fD "At" 3 1 16,fD "Groups" 3 2 24,fD "F" 28 3 32])),(60,(.struct #[fD "M" 9 0 0,fD "At" 3 1 16,fD "Groups" 3 2 24,fD "F" 28 3 32])),(61,(.func #[] #[26] false)),(62,(.func #[23,3] #[] false)),(63,(.pointer 66)),(64,(.slice 71)),(65,(.struct #[fD "Spots" 64 0 0])),(66,(.struct #[fD "Spots" 64 0 0])),(67,(.func #[26,3] #[3] false)),(68,(.func #[71] #[3] false)),(69,(.slice 4)),(70,(.struct #[fD "Kind" 3 0 0,fD "A" 3 1 8,fD "B" 3 2 16,fD "Number" 3 3 24,fD "Set" 69 4 32])),(71,(.struct #[fD "Kind" 3 0 0,fD "A" 3 1 8,fD "B" 3 2 16,fD "Number" 3 3 24,fD "Set" 69 4 32])),(72,(.pointer 74)),(73,(.struct #[fD "L" 63 0 0,fD "Text" 9 1 8,fD "Bad" 69 2 24,fD "From" 38 3 48,fD "To" 38 4 72])),(74,(.struct #[fD "L" 63 0 0,fD "Text" 9 1 8,fD "Bad" 69 2 24,fD "From" 38 3 48,fD "To" 38 4 72])),(75,(.func #[3,3] #[4] false)),(76,(.slice 83)),(78,(.func #[9] #[76,4] false)),(79,(.pointer 81)),(80,(.struct #[⟨"addr",79,0,false,"","strings",0⟩,⟨"buf",46,1,false,"","strings",8⟩])),(81,(.struct #[⟨"addr",79,0,false,"","strings",0⟩,⟨"buf",46,1,false,"","strings",8⟩])),(82,(.struct #[⟨"text",9,0,false,"","gleaner/mask",0⟩,⟨"group",3,1,false,"","gleaner/mask",16⟩])),(83,(.struct #[⟨"text",9,0,false,"","gleaner/mask",0⟩,⟨"group",3,1,false,"","gleaner/mask",16⟩])),(84,(.func #[] #[3] false)),(85,(.interface #[("Error",89)])),(86,(.interface #[("Error",89)])),(88,(.func #[9] #[3,86] false)),(89,(.func #[] #[9] false)),(90,(.func #[5] #[4] false)),(91,(.slice 101)),(92,(.struct #[fD "Groups" 3 0 0,⟨"steps",91,1,false,"","gleaner/mask",8⟩])),(93,(.struct #[fD "Groups" 3 0 0,⟨"steps",91,1,false,"","gleaner/mask",8⟩])),(95,(.pointer 97)),(96,(.struct #[⟨"m",9,0,false,"","gleaner/mask",0⟩,⟨"at",3,1,false,"","gleaner/mask",16⟩,⟨"groups",3,2,false,"","gleaner/mask",24⟩,⟨"steps",91,3,false,"","gleaner/mask",32⟩])),(97,(.struct #[⟨"m",9,0,false,"","gleaner/mask",0⟩,⟨"at",3,1,false,"","gleaner/mask",16⟩,⟨"groups",3,2,false,"","gleaner/mask",24⟩,⟨"steps",91,3,false,"","gleaner/mask",32⟩])),(98,(.func #[101] #[3] false)),(99,(.pointer 136)),(100,(.struct #[⟨"kind",3,0,false,"","gleaner/mask",0⟩,⟨"a",3,1,false,"","gleaner/mask",8⟩,⟨"b",3,2,false,"","gleaner/mask",16⟩,⟨"set",99,3,false,"","gleaner/mask",24⟩])),(101,(.struct #[⟨"kind",3,0,false,"","gleaner/mask",0⟩,⟨"a",3,1,false,"","gleaner/mask",8⟩,⟨"b",3,2,false,"","gleaner/mask",16⟩,⟨"set",99,3,false,"","gleaner/mask",24⟩])),(102,(.func #[38,3] #[38] false)),(103,(.slice 107)),(104,(.func #[103,105,107,3] #[103] false)),(105,(.map 3 4)),(106,(.struct #[⟨"at",3,0,false,"","gleaner/mask",0⟩,⟨"slots",38,1,false,"","gleaner/mask",8⟩])),(107,(.struct #[⟨"at",3,0,false,"","gleaner/mask",0⟩,⟨"slots",38,1,false,"","gleaner/mask",8⟩])),(108,(.func #[9,38] #[22] false)),(109,(.slice 111)),(110,(.struct #[fD "Group" 4 0 0,fD "Set" 69 1 8,fD "Number" 3 2 32,fD "Rows" 26 3 40,fD "Sign" 5 4 64])),(111,(.struct #[fD "Group" 4 0 0,fD "Set" 69 1 8,fD "Number" 3 2 32,fD "Rows" 26 3 40,fD "Sign" 5 4 64])),(112,(.func #[] #[111] false)),(113,(.func #[26] #[4] false)),(114,(.func #[111,3] #[3] false)),(115,(.func #[9,5] #[3] false)),(116,(.pointer 5)),(117,(.func #[3] #[91] false)),(118,(.func #[91,3] #[] false)),(119,(.int .u64)),(121,(.func #[119,119] #[119,119] false)),(122,(.func #[38] #[38] false)),(123,(.func #[5] #[69] false)),(125,(.func #[124] #[124] false)),(127,(.func #[] #[5,4] false)),(128,(.func #[91] #[91] false)),(129,(.int .u32)),(131,(.func #[129,129] #[129,129] false)),(132,(.int .u64)),(134,(.func #[132,132] #[132,132] false)),(135,(.array 256 4)),(136,(.array 256 4)),(137,(.func #[5] #[99] false)),(138,(.func #[] #[99] false)),(139,(.func #[] #[5] false)),(142,(.array 0 16)),(145,(.int .u8)),(146,(.int .u8)),(147,(.func #[124,124] #[4] false)),(148,(.int .i32)),(149,(.int .i32)),(150,(.struct #[fD "Size_" 12 0 0,fD "PtrBytes" 12 1 8,fD "Hash" 129 2 16,fD "TFlag" 145 3 20,fD "Align_" 5 4 21,fD "FieldAlign_" 5 5 22,fD "Kind_" 146 6 23,fD "Equal" 147 7 24,fD "GCData" 116 8 32,fD "Str" 148 9 40,fD "PtrToThis" 149 10 44])),(151,(.struct #[fD "Size_" 12 0 0,fD "PtrBytes" 12 1 8,fD "Hash" 129 2 16,fD "TFlag" 145 3 20,fD "Align_" 5 4 21,fD "FieldAlign_" 5 5 22,fD "Kind_" 146 6 23,fD "Equal" 147 7 24,fD "GCData" 116 8 32,fD "Str" 148 9 40,fD "PtrToThis" 149 10 44]))]
def TSz : List (Nat × (Nat × Nat)) := [(1,(1,8)),(2,(1,8)),(3,(1,8)),(4,(1,1)),(5,(1,1)),(6,(1,1)),(9,(1,16)),(10,(1,16)),(11,(1,16)),(12,(1,8)),(15,(1,8)),(16,(1,8)),(17,(1,8)),(20,(1,16)),(21,(1,4)),(22,(1,24)),(23,(1,8)),(25,(1,8)),(26,(1,24)),(27,(2,16)),(28,(2,16)),(30,(1,8)),(31,(1,8)),(33,(1,8)),(34,(1,8)),(35,(1,8)),(37,(1,8)),(38,(1,24)),(40,(1,8)),(42,(1,8)),(43,(1,8)),(44,(1,8)),(45,(1,8)),(46,(1,24)),(47,(1,8)),(48,(1,8)),(49,(1,8)),(50,(1,8)),(52,(1,8)),(53,(1,8)),(54,(1,8)),(56,(1,8)),(57,(1,8)),(58,(1,8)),(59,(5,48)),(60,(5,48)),(61,(1,8)),(62,(1,8)),(63,(1,8)),(64,(1,24)),(65,(1,24)),(66,(1,24)),(67,(1,8)),(68,(1,8)),(69,(1,24)),(70,(5,56)),(71,(5,56)),(72,(1,8)),(73,(5,96)),(74,(5,96)),(75,(1,8)),(76,(1,24)),(78,(1,8)),(79,(1,8)),(80,(2,32)),(81,(2,32)),(82,(2,24)),(83,(2,24)),(84,(1,8)),(85,(1,16)),(86,(1,16)),(88,(1,8)),(89,(1,8)),(90,(1,8)),(91,(1,24)),(92,(2,32)),(93,(2,32)),(95,(1,8)),(96,(4,56)),(97,(4,56)),(98,(1,8)),(99,(1,8)),(100,(4,32)),(101,(4,32)),(102,(1,8)),(103,(1,24)),(104,(1,8)),(105,(1,8)),(106,(2,32)),(107,(2,32)),(108,(1,8)),(109,(1,24)),(110,(5,72)),(111,(5,72)),(112,(1,8)),(113,(1,8)),(114,(1,8)),(115,(1,8)),(116,(1,8)),(117,(1,8)),(118,(1,8)),(119,(1,8)),(121,(1,8)),(122,(1,8)),(123,(1,8)),(125,(1,8)),(127,(1,8)),(128,(1,8)),(129,(1,4)),(131,(1,8)),(132,(1,8)),(134,(1,8)),(135,(256,256)),(136,(256,256)),(137,(1,8)),(138,(1,8)),(139,(1,8)),(142,(0,0)),(145,(1,1)),(146,(1,1)),(147,(1,8)),(148,(1,4)),(149,(1,4)),(150,(11,48)),(151,(11,48))]
def A0 : Value := .agg #[.bool false,.bool false,.bool false,.bool false,.bool false,.bool false,.bool false,.bool false,.bool false,.bool false,.bool false,.bool false,.bool false,.bool false,.bool false,.bool false,.bool false,.bool false,.bool false,.bool false,.bool false,.bool false,.bool false,.bool false,.bool false,.bool false,.bool false,.bool false,.bool false,.bool false,.bool false,.bool false,.bool false,.bool false,.bool false,.bool false,.bool false,.bool false,.bool false,.bool false,.bool false,.bool false,.bool false,.bool false,.bool false,.bool false,.bool false,.bool false,.bool false,.bool false,.bool false,.bool false,.bool false,.bool false,.bool false,.bool false,.bool false,.bool false,.bool false,.bool false,.bool false,.bool false,.bool false,.bool false,.bool false,.bool false,.bool false,.bool false,.bool false,.bool false,.bool false,.bool false,.bool false,.bool false,.bool false,.bool false,.bool false,.bool false,.bool false,.bool false,.bool false,.bool false,.bool false,.bool false,.bool false,.bool false,.bool false,.bool false,.bool false,.bool false,.bool false,.bool false,.bool false,.bool false,.bool false,.bool false,.bool false,.bool false,.bool false,.bool false,.bool false,.bool false,.bool false,.bool false,.bool false,.bool false,.bool false,.bool false,.bool false,.bool false,.bool false,.bool false,.bool false,.bool false,.bool false,.bool false,.bool false,.bool false,.bool false,.bool false,.bool false,.bool false,.bool false,.bool false,.bool false,.bool false,.bool false,.bool false,.bool false,.bool false,.bool false,.bool false,.bool false,.bool false,.bool false,.bool false,.bool false,.bool false,.bool false,.bool false,.bool false,.bool false,.bool false,.bool false,.bool false,.bool false,.bool false,.bool false,.bool false,.bool false,.bool false,.bool false,.bool false,.bool false,.bool false,.bool false,.bool false,.bool false,.bool false,.bool false,.bool false,.bool false,.bool false,.bool false,.bool false,.bool false,.bool false,.bool false,.bool false,.bool false,.bool false,.bool false,.bool false,.bool false,.bool false,.bool false,.bool false,.bool false,.bool false,.bool false,.bool false,.bool false,.bool false,.bool false,.bool false,.bool false,.bool false,.bool false,.bool false,.bool false,.bool false,.bool false,.bool false,.bool false,.bool false,.bool false,.bool false,.bool false,.bool false,.bool false,.bool false,.bool false,.bool false,.bool false,.bool false,.bool false,.bool false,.bool false,.bool false,.bool false,.bool false,.bool false,.bool false,.bool false,.bool false,.bool false,.bool false,.bool false,.bool false,.bool false,.bool false,.bool false,.bool false,.bool false,.bool false,.bool false,.bool false,.bool false,.bool false,.bool false,.bool false,.bool false,.bool false,.bool false,.bool false,.bool false,.bool false,.bool false,.bool false,.bool false,.bool false,.bool false,.bool false,.bool false,.bool false,.bool false,.bool false,.bool false,.bool false,.bool false,.bool false,.bool false,.bool false,.bool false,.bool false,.bool false]
def GV : Value := A0
def TZr : List (Nat × Value) := [(1,.nilFunc),(2,.int .i64 0),(3,.int .i64 0),(4,.bool false),(5,.int .u8 0),(6,.int .u8 0),(9,.string ByteArray.empty),(10,.string ByteArray.empty),(11,.string ByteArray.empty),(12,.int .u64 0),(15,.pointer none),(16,.pointer none),(17,.pointer none),(20,.nilIface),(21,.int .i32 0),(22,.slice none 0 0),(23,.int .i64 0),(25,.nilFunc),(26,.slice none 0 0),(27,.agg #[.int .i64 0,.int .i64 0]),(28,.agg #[.int .i64 0,.int .i64 0]),(30,.nilFunc),(31,.nilFunc),(33,.nilFunc),(34,.nilFunc),(35,.nilFunc),(37,.nilFunc),(38,.slice none 0 0),(40,.nilFunc),(42,.nilFunc),(43,.nilFunc),(44,.nilFunc),(45,.nilFunc),(46,.slice none 0 0),(47,.nilFunc),(48,.nilFunc),(49,.nilFunc),(50,.nilFunc),(52,.nilFunc),(53,.nilFunc),(54,.pointer none),(56,.nilFunc),(57,.nilFunc),(58,.pointer none),(59,.agg #[.string ByteArray.empty,.int .i64 0,.int .i64 0,.int .i64 0,.int .i64 0]),(60,.agg #[.string ByteArray.empty,.int .i64 0,.int .i64 0,.int .i64 0,.int .i64 0]),(61,.nilFunc),(62,.nilFunc),(63,.pointer none),(64,.slice none 0 0),(65,.agg #[.slice none 0 0]),(66,.agg #[.slice none 0 0]),(67,.nilFunc),(68,.nilFunc),(69,.slice none 0 0),(70,.agg #[.int .i64 0,.int .i64 0,.int .i64 0,.int .i64 0,.slice none 0 0]),(71,.agg #[.int .i64 0,.int .i64 0,.int .i64 0,.int .i64 0,.slice none 0 0]),(72,.pointer none),(73,.agg #[.pointer none,.string ByteArray.empty,.slice none 0 0,.slice none 0 0,.slice none 0 0]),(74,.agg #[.pointer none,.string ByteArray.empty,.slice none 0 0,.slice none 0 0,.slice none 0 0]),(75,.nilFunc),(76,.slice none 0 0),(78,.nilFunc),(79,.pointer none),(80,.agg #[.pointer none,.slice none 0 0]),(81,.agg #[.pointer none,.slice none 0 0]),(82,.agg #[.string ByteArray.empty,.int .i64 0]),(83,.agg #[.string ByteArray.empty,.int .i64 0]),(84,.nilFunc),(85,.nilIface),(86,.nilIface),(88,.nilFunc),(89,.nilFunc),(90,.nilFunc),(91,.slice none 0 0),(92,.agg #[.int .i64 0,.slice none 0 0]),(93,.agg #[.int .i64 0,.slice none 0 0]),(95,.pointer none),(96,.agg #[.string ByteArray.empty,.int .i64 0,.int .i64 0,.slice none 0 0]),(97,.agg #[.string ByteArray.empty,.int .i64 0,.int .i64 0,.slice none 0 0]),(98,.nilFunc),(99,.pointer none),(100,.agg #[.int .i64 0,.int .i64 0,.int .i64 0,.pointer none]),(101,.agg #[.int .i64 0,.int .i64 0,.int .i64 0,.pointer none]),(102,.nilFunc),(103,.slice none 0 0),(104,.nilFunc),(105,.map none),(106,.agg #[.int .i64 0,.slice none 0 0]),(107,.agg #[.int .i64 0,.slice none 0 0]),(108,.nilFunc),(109,.slice none 0 0),(110,.agg #[.bool false,.slice none 0 0,.int .i64 0,.slice none 0 0,.int .u8 0]),(111,.agg #[.bool false,.slice none 0 0,.int .i64 0,.slice none 0 0,.int .u8 0]),(112,.nilFunc),(113,.nilFunc),(114,.nilFunc),(115,.nilFunc),(116,.pointer none),(117,.nilFunc),(118,.nilFunc),(119,.int .u64 0),(121,.nilFunc),(122,.nilFunc),(123,.nilFunc),(125,.nilFunc),(127,.nilFunc),(128,.nilFunc),(129,.int .u32 0),(131,.nilFunc),(132,.int .u64 0),(134,.nilFunc),(135,A0),(136,GV),(137,.nilFunc),(138,.nilFunc),(139,.nilFunc),(142,.agg #[]),(145,.int .u8 0),(146,.int .u8 0),(147,.nilFunc),(148,.int .i32 0),(149,.int .i32 0),(150,.agg #[.int .u64 0,.int .u64 0,.int .u32 0,.int .u8 0,.int .u8 0,.int .u8 0,.int .u8 0,.nilFunc,.pointer none,.int .i32 0,.int .i32 0]),(151,.agg #[.int .u64 0,.int .u64 0,.int .u32 0,.int .u8 0,.int .u8 0,.int .u8 0,.int .u8 0,.nilFunc,.pointer none,.int .i32 0,.int .i32 0])]
set_option maxRecDepth 100000 in
theorem Ko : TTy.map (fun p => Try.prog.underlying p.1) = TTy.map (fun p => some p.2) := by kernel_rfl
set_option maxRecDepth 100000 in
theorem Ki : (TSz.all fun p => (Try.prog.info? p.1).any fun i => i.size == p.2.1 && i.bytes == p.2.2 && i.zero.any (fun z => z.cells.size == p.2.1)) = true := by kernel_rfl
set_option maxRecDepth 100000 in
theorem HZ : TZr.map (fun p => (Try.prog.info? p.1).bind (·.zero)) = TZr.map (fun p => some p.2) := by kernel_rfl
set_option maxRecDepth 100000 in
def TT : Tys Try.prog where
 ty := TTy
 sz := TSz
 zr := TZr
 tyOk := fun t d h => List.map_inj_left.1 Ko _ (bX h)
 szOk := fun t s b h => by
  have h1 := List.all_eq_true.1 Ki _ (bX h)
  simp only [Option.any_eq_true_iff_get,Bool.and_eq_true,beq_iff_eq] at h1
  obtain ⟨hs,⟨h2,h3⟩,hz,h4⟩ := h1
  exact ⟨_,(Option.some_get hs).symm,h2,h3,_,(Option.some_get hz).symm,h4⟩
 zrOk := fun t z h => by
  have h1 := List.map_inj_left.1 HZ _ (bX h)
  simp only [Option.bind_eq_some_iff] at h1
  exact h1
theorem mixed : Try.prog.follows .mixedOrders = true := by kernel_rfl
end Go.Proofs.Ytlhjbhgkhpbnfaa
namespace Go.Proofs.Ytlhjbhgkhpbnfaa
open Go.RowKit P
set_option linter.unusedVariables false
set_option linter.unusedSimpArgs false
structure VboundsError where
 x : Int
 y : Int
 signed : Bool
 code : UInt8
structure VerrorAddressString where
 msg : List UInt8
 addr : Int
structure VFault where
 Err : Int
 At : Int
structure VReader where
 M : List UInt8
 At : Int
 Groups : Int
 F : VFault
structure VSpot where
 Kind : Int
 A : Int
 B : Int
 Number : Int
 Set : List Bool
structure VLayout where
 Spots : List VSpot
structure Vpiece where
 text : List UInt8
 group : Int
structure Vstep where
 kind : Int
 a : Int
 b : Int
 set_ : Option (List Bool)
structure VMask where
 Groups : Int
 steps : List Vstep
structure Vcompiler where
 m : List UInt8
 at_ : Int
 groups : Int
 steps : List Vstep
structure Vthread where
 at_ : Int
 slots : List Int
def zy (n : Nat) (x : Option (List Bool)) : AV := match x with
 | none => .v (.pointer none)
 | some l => .el ((List.range n).map fun i => .v (.bool (List.getD l i false)))
theorem eM (n : Nat) (x : Option (List Bool)) : (zy n x).one = true ∧ (zy n x).rd = zy n x := by cases x <;> exact ⟨rfl,rfl⟩
theorem xR (E : Enc) (n : Nat) (x : Option (List Bool)) : cells E (.ptr (.bits n)) x = [zy n x] := by cases x <;> rfl
def ET : Nat → Type
 | 0 => VboundsError
 | 1 => VerrorAddressString
 | 2 => VFault
 | 3 => VReader
 | 4 => VSpot
 | 5 => VLayout
 | 6 => Vpiece
 | 7 => Vstep
 | 8 => VMask
 | 9 => Vcompiler
 | 10 => Vthread
 | _ => Unit
def bF (z : VboundsError) : List AV := [.v (.int .i64 z.x)] ++ [.v (.int .i64 z.y)] ++ [.v (.bool z.signed)] ++ [.v (.int .u8 (UInt8.toNat z.code))]
def a6 (z : VerrorAddressString) : List AV := [.v (.string (mkB z.msg))] ++ [.v (.int .u64 z.addr)]
def db (z : VFault) : List AV := [.v (.int .i64 z.Err)] ++ [.v (.int .i64 z.At)]
def cU (z : VReader) : List AV := [.v (.string (mkB z.M))] ++ [.v (.int .i64 z.At)] ++ [.v (.int .i64 z.Groups)] ++ db z.F
def dP (z : VSpot) : List AV := [.v (.int .i64 z.Kind)] ++ [.v (.int .i64 z.A)] ++ [.v (.int .i64 z.B)] ++ [.v (.int .i64 z.Number)] ++ [.sl false 1 (List.map (fun x => [.v (.bool x)]) z.Set)]
def cT (z : VLayout) : List AV := [.sl false 5 (List.map (fun x => dP x) z.Spots)]
def dx (z : Vpiece) : List AV := [.v (.string (mkB z.text))] ++ [.v (.int .i64 z.group)]
def dk (z : Vstep) : List AV := [.v (.int .i64 z.kind)] ++ [.v (.int .i64 z.a)] ++ [.v (.int .i64 z.b)] ++ [zy 256 z.set_]
def ei (z : VMask) : List AV := [.v (.int .i64 z.Groups)] ++ [.sl false 4 (List.map (fun x => dk x) z.steps)]
def cm (z : Vcompiler) : List AV := [.v (.string (mkB z.m))] ++ [.v (.int .i64 z.at_)] ++ [.v (.int .i64 z.groups)] ++ [.sl false 4 (List.map (fun x => dk x) z.steps)]
def cW (z : Vthread) : List AV := [.v (.int .i64 z.at_)] ++ [.sl false 1 (List.map (fun x => [.v (.int .i64 x)]) z.slots)]
def qZ : ∀ i, ET i → List AV
 | 0,z => bF z
 | 1,z => a6 z
 | 2,z => db z
 | 3,z => cU z
 | 4,z => dP z
 | 5,z => cT z
 | 6,z => dx z
 | 7,z => dk z
 | 8,z => ei z
 | 9,z => cm z
 | 10,z => cW z
 | _ + 11,_ => []
def szE : Nat → Nat
 | 0 => 4
 | 1 => 2
 | 2 => 2
 | 3 => 5
 | 4 => 5
 | 5 => 1
 | 6 => 2
 | 7 => 4
 | 8 => 2
 | 9 => 4
 | 10 => 2
 | _ => 0
def ECC : Enc where
 T := ET
 enc := qZ
 sz := szE
 len := fun i z => match i, z with
  | 0,z => rfl
  | 1,z => rfl
  | 2,z => rfl
  | 3,z => rfl
  | 4,z => rfl
  | 5,z => rfl
  | 6,z => rfl
  | 7,z => rfl
  | 8,z => rfl
  | 9,z => rfl
  | 10,z => rfl
  | _ + 11,_ => rfl
 one := fun i z => match i, z with
  | 0,z => by intro u hu; simp only [qZ,bF,a6,db,cU,dP,cT,dx,dk,ei,cm,cW,List.cons_append,List.nil_append,List.mem_cons,List.not_mem_nil,or_false] at hu; rcases hu with rfl | rfl | rfl | rfl <;> first | exact ⟨rfl,rfl⟩ | exact eM _ _
  | 1,z => by intro u hu; simp only [qZ,bF,a6,db,cU,dP,cT,dx,dk,ei,cm,cW,List.cons_append,List.nil_append,List.mem_cons,List.not_mem_nil,or_false] at hu; rcases hu with rfl | rfl <;> first | exact ⟨rfl,rfl⟩ | exact eM _ _
  | 2,z => by intro u hu; simp only [qZ,bF,a6,db,cU,dP,cT,dx,dk,ei,cm,cW,List.cons_append,List.nil_append,List.mem_cons,List.not_mem_nil,or_false] at hu; rcases hu with rfl | rfl <;> first | exact ⟨rfl,rfl⟩ | exact eM _ _
  | 3,z => by intro u hu; simp only [qZ,bF,a6,db,cU,dP,cT,dx,dk,ei,cm,cW,List.cons_append,List.nil_append,List.mem_cons,List.not_mem_nil,or_false] at hu; rcases hu with rfl | rfl | rfl | rfl | rfl <;> first | exact ⟨rfl,rfl⟩ | exact eM _ _
  | 4,z => by intro u hu; simp only [qZ,bF,a6,db,cU,dP,cT,dx,dk,ei,cm,cW,List.cons_append,List.nil_append,List.mem_cons,List.not_mem_nil,or_false] at hu; rcases hu with rfl | rfl | rfl | rfl | rfl <;> first | exact ⟨rfl,rfl⟩ | exact eM _ _
  | 5,z => by intro u hu; simp only [qZ,bF,a6,db,cU,dP,cT,dx,dk,ei,cm,cW,List.cons_append,List.nil_append,List.mem_cons,List.not_mem_nil,or_false] at hu; rcases hu with rfl <;> first | exact ⟨rfl,rfl⟩ | exact eM _ _
  | 6,z => by intro u hu; simp only [qZ,bF,a6,db,cU,dP,cT,dx,dk,ei,cm,cW,List.cons_append,List.nil_append,List.mem_cons,List.not_mem_nil,or_false] at hu; rcases hu with rfl | rfl <;> first | exact ⟨rfl,rfl⟩ | exact eM _ _
  | 7,z => by intro u hu; simp only [qZ,bF,a6,db,cU,dP,cT,dx,dk,ei,cm,cW,List.cons_append,List.nil_append,List.mem_cons,List.not_mem_nil,or_false] at hu; rcases hu with rfl | rfl | rfl | rfl <;> first | exact ⟨rfl,rfl⟩ | exact eM _ _
  | 8,z => by intro u hu; simp only [qZ,bF,a6,db,cU,dP,cT,dx,dk,ei,cm,cW,List.cons_append,List.nil_append,List.mem_cons,List.not_mem_nil,or_false] at hu; rcases hu with rfl | rfl <;> first | exact ⟨rfl,rfl⟩ | exact eM _ _
  | 9,z => by intro u hu; simp only [qZ,bF,a6,db,cU,dP,cT,dx,dk,ei,cm,cW,List.cons_append,List.nil_append,List.mem_cons,List.not_mem_nil,or_false] at hu; rcases hu with rfl | rfl | rfl | rfl <;> first | exact ⟨rfl,rfl⟩ | exact eM _ _
  | 10,z => by intro u hu; simp only [qZ,bF,a6,db,cU,dP,cT,dx,dk,ei,cm,cW,List.cons_append,List.nil_append,List.mem_cons,List.not_mem_nil,or_false] at hu; rcases hu with rfl | rfl <;> first | exact ⟨rfl,rfl⟩ | exact eM _ _
  | _ + 11,_ => by intro u hu; cases hu
def KP : ∀ i, ET i → List (TA ET)
 | 0,z => [.d (.int .i64) z.x,.d (.int .i64) z.y,.d .bool z.signed,.d .byte z.code]
 | 1,z => [.d .str z.msg,.d (.int .u64) z.addr]
 | 2,z => [.d (.int .i64) z.Err,.d (.int .i64) z.At]
 | 3,z => [.d .str z.M,.d (.int .i64) z.At,.d (.int .i64) z.Groups,.d (.int .i64) z.F.Err,.d (.int .i64) z.F.At]
 | 4,z => [.d (.int .i64) z.Kind,.d (.int .i64) z.A,.d (.int .i64) z.B,.d (.int .i64) z.Number,.d (.sl .bool) z.Set]
 | 5,z => [.d (.sl (.nam 4)) z.Spots]
 | 6,z => [.d .str z.text,.d (.int .i64) z.group]
 | 7,z => [.d (.int .i64) z.kind,.d (.int .i64) z.a,.d (.int .i64) z.b,.d (.ptr (.bits 256)) z.set_]
 | 8,z => [.d (.int .i64) z.Groups,.d (.sl (.nam 7)) z.steps]
 | 9,z => [.d .str z.m,.d (.int .i64) z.at_,.d (.int .i64) z.groups,.d (.sl (.nam 7)) z.steps]
 | 10,z => [.d (.int .i64) z.at_,.d (.sl (.int .i64)) z.slots]
 | _ + 11,_ => []
def iD (l : List (TA ET)) : Option (VboundsError × List (TA ET)) :=
 match pkL (.int .i64) l with
 | none => none
 | some (a0, l) =>
   match pkL (.int .i64) l with
   | none => none
   | some (a1, l) =>
     match pkL .bool l with
     | none => none
     | some (a2, l) =>
       match pkL .byte l with
       | none => none
       | some (a3, l) =>
         some (⟨a0,a1,a2,a3⟩,l)
theorem nY (l : List (TA ET)) (z : VboundsError) (r : List (TA ET)) (ρ : Rn) (h : iD l = some (z, r)) : LeL (l.map fun a => (a.rd.to ECC ρ)) (bF z ++ r.map fun a => (a.rd.to ECC ρ)) := by
 unfold iD at h
 split at h
 ·cases h
 ·rename_i a0 l0 h0
  split at h
  ·cases h
  ·rename_i a1 l1 h1
   split at h
   ·cases h
   ·rename_i a2 l2 h2
    split at h
    ·cases h
    ·rename_i a3 l3 h3
     cases h
     have hh := (cJ ECC ρ rfl h0).trans ((LeL.refl _).append ((cJ ECC ρ rfl h1).trans ((LeL.refl _).append ((cJ ECC ρ rfl h2).trans ((LeL.refl _).append (cJ ECC ρ rfl h3))))))
     exact hh
def eY (l : List (TA ET)) : Option (VerrorAddressString × List (TA ET)) :=
 match pkL .str l with
 | none => none
 | some (a0, l) =>
   match pkL (.int .u64) l with
   | none => none
   | some (a1, l) =>
     some (⟨a0,a1⟩,l)
theorem jF (l : List (TA ET)) (z : VerrorAddressString) (r : List (TA ET)) (ρ : Rn) (h : eY l = some (z, r)) : LeL (l.map fun a => (a.rd.to ECC ρ)) (a6 z ++ r.map fun a => (a.rd.to ECC ρ)) := by
 unfold eY at h
 split at h
 ·cases h
 ·rename_i a0 l0 h0
  split at h
  ·cases h
  ·rename_i a1 l1 h1
   cases h
   have hh := (cJ ECC ρ rfl h0).trans ((LeL.refl _).append (cJ ECC ρ rfl h1))
   exact hh
def m9 (l : List (TA ET)) : Option (VFault × List (TA ET)) :=
 match pkL (.int .i64) l with
 | none => none
 | some (a0, l) =>
   match pkL (.int .i64) l with
   | none => none
   | some (a1, l) =>
     some (⟨a0,a1⟩,l)
theorem oS (l : List (TA ET)) (z : VFault) (r : List (TA ET)) (ρ : Rn) (h : m9 l = some (z, r)) : LeL (l.map fun a => (a.rd.to ECC ρ)) (db z ++ r.map fun a => (a.rd.to ECC ρ)) := by
 unfold m9 at h
 split at h
 ·cases h
 ·rename_i a0 l0 h0
  split at h
  ·cases h
  ·rename_i a1 l1 h1
   cases h
   have hh := (cJ ECC ρ rfl h0).trans ((LeL.refl _).append (cJ ECC ρ rfl h1))
   exact hh
def oM (l : List (TA ET)) : Option (VReader × List (TA ET)) :=
 match pkL .str l with
 | none => none
 | some (a0, l) =>
   match pkL (.int .i64) l with
   | none => none
   | some (a1, l) =>
     match pkL (.int .i64) l with
     | none => none
     | some (a2, l) =>
       match m9 l with
       | none => none
       | some (a3, l) =>
         some (⟨a0,a1,a2,a3⟩,l)
theorem un (l : List (TA ET)) (z : VReader) (r : List (TA ET)) (ρ : Rn) (h : oM l = some (z, r)) : LeL (l.map fun a => (a.rd.to ECC ρ)) (cU z ++ r.map fun a => (a.rd.to ECC ρ)) := by
 unfold oM at h
 split at h
 ·cases h
 ·rename_i a0 l0 h0
  split at h
  ·cases h
  ·rename_i a1 l1 h1
   split at h
   ·cases h
   ·rename_i a2 l2 h2
    split at h
    ·cases h
    ·rename_i a3 l3 h3
     cases h
     have hh := (cJ ECC ρ rfl h0).trans ((LeL.refl _).append ((cJ ECC ρ rfl h1).trans ((LeL.refl _).append ((cJ ECC ρ rfl h2).trans ((LeL.refl _).append (oS _ _ _ ρ h3))))))
     exact hh
def tO (l : List (TA ET)) : Option (VSpot × List (TA ET)) :=
 match pkL (.int .i64) l with
 | none => none
 | some (a0, l) =>
   match pkL (.int .i64) l with
   | none => none
   | some (a1, l) =>
     match pkL (.int .i64) l with
     | none => none
     | some (a2, l) =>
       match pkL (.int .i64) l with
       | none => none
       | some (a3, l) =>
         match pkL (.sl .bool) l with
         | none => none
         | some (a4, l) =>
           some (⟨a0,a1,a2,a3,a4⟩,l)
theorem xE (l : List (TA ET)) (z : VSpot) (r : List (TA ET)) (ρ : Rn) (h : tO l = some (z, r)) : LeL (l.map fun a => (a.rd.to ECC ρ)) (dP z ++ r.map fun a => (a.rd.to ECC ρ)) := by
 unfold tO at h
 split at h
 ·cases h
 ·rename_i a0 l0 h0
  split at h
  ·cases h
  ·rename_i a1 l1 h1
   split at h
   ·cases h
   ·rename_i a2 l2 h2
    split at h
    ·cases h
    ·rename_i a3 l3 h3
     split at h
     ·cases h
     ·rename_i a4 l4 h4
      cases h
      have hh := (cJ ECC ρ rfl h0).trans ((LeL.refl _).append ((cJ ECC ρ rfl h1).trans ((LeL.refl _).append ((cJ ECC ρ rfl h2).trans ((LeL.refl _).append ((cJ ECC ρ rfl h3).trans ((LeL.refl _).append (cJ ECC ρ rfl h4))))))))
      exact hh
def n9 (l : List (TA ET)) : Option (VLayout × List (TA ET)) :=
 match pkL (.sl (.nam 4)) l with
 | none => none
 | some (a0, l) =>
   some (⟨a0⟩,l)
theorem ul (l : List (TA ET)) (z : VLayout) (r : List (TA ET)) (ρ : Rn) (h : n9 l = some (z, r)) : LeL (l.map fun a => (a.rd.to ECC ρ)) (cT z ++ r.map fun a => (a.rd.to ECC ρ)) := by
 unfold n9 at h
 split at h
 ·cases h
 ·rename_i a0 l0 h0
  cases h
  have hh := cJ ECC ρ rfl h0
  exact hh
def pP (l : List (TA ET)) : Option (Vpiece × List (TA ET)) :=
 match pkL .str l with
 | none => none
 | some (a0, l) =>
   match pkL (.int .i64) l with
   | none => none
   | some (a1, l) =>
     some (⟨a0,a1⟩,l)
theorem wU (l : List (TA ET)) (z : Vpiece) (r : List (TA ET)) (ρ : Rn) (h : pP l = some (z, r)) : LeL (l.map fun a => (a.rd.to ECC ρ)) (dx z ++ r.map fun a => (a.rd.to ECC ρ)) := by
 unfold pP at h
 split at h
 ·cases h
 ·rename_i a0 l0 h0
  split at h
  ·cases h
  ·rename_i a1 l1 h1
   cases h
   have hh := (cJ ECC ρ rfl h0).trans ((LeL.refl _).append (cJ ECC ρ rfl h1))
   exact hh
def tb (l : List (TA ET)) : Option (Vstep × List (TA ET)) :=
 match pkL (.int .i64) l with
 | none => none
 | some (a0, l) =>
   match pkL (.int .i64) l with
   | none => none
   | some (a1, l) =>
     match pkL (.int .i64) l with
     | none => none
     | some (a2, l) =>
       match pkL (.ptr (.bits 256)) l with
       | none => none
       | some (a3, l) =>
         some (⟨a0,a1,a2,a3⟩,l)
theorem xB (l : List (TA ET)) (z : Vstep) (r : List (TA ET)) (ρ : Rn) (h : tb l = some (z, r)) : LeL (l.map fun a => (a.rd.to ECC ρ)) (dk z ++ r.map fun a => (a.rd.to ECC ρ)) := by
 unfold tb at h
 split at h
 ·cases h
 ·rename_i a0 l0 h0
  split at h
  ·cases h
  ·rename_i a1 l1 h1
   split at h
   ·cases h
   ·rename_i a2 l2 h2
    split at h
    ·cases h
    ·rename_i a3 l3 h3
     cases h
     have hh := (cJ ECC ρ rfl h0).trans ((LeL.refl _).append ((cJ ECC ρ rfl h1).trans ((LeL.refl _).append ((cJ ECC ρ rfl h2).trans ((LeL.refl _).append ((xR ECC 256 a3 ▸ cJ ECC ρ rfl h3)))))))
     exact hh
def tH (l : List (TA ET)) : Option (VMask × List (TA ET)) :=
 match pkL (.int .i64) l with
 | none => none
 | some (a0, l) =>
   match pkL (.sl (.nam 7)) l with
   | none => none
   | some (a1, l) =>
     some (⟨a0,a1⟩,l)
theorem yN (l : List (TA ET)) (z : VMask) (r : List (TA ET)) (ρ : Rn) (h : tH l = some (z, r)) : LeL (l.map fun a => (a.rd.to ECC ρ)) (ei z ++ r.map fun a => (a.rd.to ECC ρ)) := by
 unfold tH at h
 split at h
 ·cases h
 ·rename_i a0 l0 h0
  split at h
  ·cases h
  ·rename_i a1 l1 h1
   cases h
   have hh := (cJ ECC ρ rfl h0).trans ((LeL.refl _).append (cJ ECC ρ rfl h1))
   exact hh
def kZ (l : List (TA ET)) : Option (Vcompiler × List (TA ET)) :=
 match pkL .str l with
 | none => none
 | some (a0, l) =>
   match pkL (.int .i64) l with
   | none => none
   | some (a1, l) =>
     match pkL (.int .i64) l with
     | none => none
     | some (a2, l) =>
       match pkL (.sl (.nam 7)) l with
       | none => none
       | some (a3, l) =>
         some (⟨a0,a1,a2,a3⟩,l)
theorem q7 (l : List (TA ET)) (z : Vcompiler) (r : List (TA ET)) (ρ : Rn) (h : kZ l = some (z, r)) : LeL (l.map fun a => (a.rd.to ECC ρ)) (cm z ++ r.map fun a => (a.rd.to ECC ρ)) := by
 unfold kZ at h
 split at h
 ·cases h
 ·rename_i a0 l0 h0
  split at h
  ·cases h
  ·rename_i a1 l1 h1
   split at h
   ·cases h
   ·rename_i a2 l2 h2
    split at h
    ·cases h
    ·rename_i a3 l3 h3
     cases h
     have hh := (cJ ECC ρ rfl h0).trans ((LeL.refl _).append ((cJ ECC ρ rfl h1).trans ((LeL.refl _).append ((cJ ECC ρ rfl h2).trans ((LeL.refl _).append (cJ ECC ρ rfl h3))))))
     exact hh
def ox (l : List (TA ET)) : Option (Vthread × List (TA ET)) :=
 match pkL (.int .i64) l with
 | none => none
 | some (a0, l) =>
   match pkL (.sl (.int .i64)) l with
   | none => none
   | some (a1, l) =>
     some (⟨a0,a1⟩,l)
theorem uA (l : List (TA ET)) (z : Vthread) (r : List (TA ET)) (ρ : Rn) (h : ox l = some (z, r)) : LeL (l.map fun a => (a.rd.to ECC ρ)) (cW z ++ r.map fun a => (a.rd.to ECC ρ)) := by
 unfold ox at h
 split at h
 ·cases h
 ·rename_i a0 l0 h0
  split at h
  ·cases h
  ·rename_i a1 l1 h1
   cases h
   have hh := (cJ ECC ρ rfl h0).trans ((LeL.refl _).append (cJ ECC ρ rfl h1))
   exact hh
theorem CN (ρ : Rn) (z : Vstep) : (KP 7 z).map (TA.to ECC ρ) = dk z := by
 obtain ⟨a0,a1,a2,a3⟩ := z
 cases a3 <;>  rfl
def EE : Env where
 toEnc := ECC
 unp := KP
 unp_to := fun i z ρ => match i, z with
  | 0,z => rfl
  | 1,z => rfl
  | 2,z => rfl
  | 3,z => rfl
  | 4,z => rfl
  | 5,z => rfl
  | 6,z => rfl
  | 7,z => CN ρ z
  | 8,z => rfl
  | 9,z => rfl
  | 10,z => rfl
  | _ + 11,_ => rfl
 pk := fun i l => match i with
  | 0 => iD l
  | 1 => eY l
  | 2 => m9 l
  | 3 => oM l
  | 4 => tO l
  | 5 => n9 l
  | 6 => pP l
  | 7 => tb l
  | 8 => tH l
  | 9 => kZ l
  | 10 => ox l
  | _ => none
 pk_to := fun i l z r ρ h => match i, z, h with
  | 0,z,h => nY l z r ρ h
  | 1,z,h => jF l z r ρ h
  | 2,z,h => oS l z r ρ h
  | 3,z,h => un l z r ρ h
  | 4,z,h => xE l z r ρ h
  | 5,z,h => ul l z r ρ h
  | 6,z,h => wU l z r ρ h
  | 7,z,h => xB l z r ρ h
  | 8,z,h => yN l z r ρ h
  | 9,z,h => q7 l z r ρ h
  | 10,z,h => uA l z r ρ h
  | _ + 11,z,h => by cases h
 et := [(22,(.sl .str)),(38,(.sl (.int .i64))),(46,(.sl .byte)),(64,(.sl (.nam 4))),(69,(.sl .bool)),(76,(.sl (.nam 6))),(91,(.sl (.nam 7))),(103,(.sl (.nam 10)))]
 ct := [(22,[(.sl .str)]),(38,[(.sl (.int .i64))]),(46,[(.sl .byte)]),(64,[(.sl (.nam 4))]),(65,[(.sl (.nam 4))]),(66,[(.sl (.nam 4))]),(69,[(.sl .bool)]),(70,[(.int .i64),(.int .i64),(.int .i64),(.int .i64),(.sl .bool)]),(71,[(.int .i64),(.int .i64),(.int .i64),(.int .i64),(.sl .bool)]),(73,[.bool,.str,(.sl .bool),(.sl (.int .i64)),(.sl (.int .i64))]),(74,[.bool,.str,(.sl .bool),(.sl (.int .i64)),(.sl (.int .i64))]),(76,[(.sl (.nam 6))]),(80,[.bool,(.sl .byte)]),(81,[.bool,(.sl .byte)]),(91,[(.sl (.nam 7))]),(92,[(.int .i64),(.sl (.nam 7))]),(93,[(.int .i64),(.sl (.nam 7))]),(96,[.str,(.int .i64),(.int .i64),(.sl (.nam 7))]),(97,[.str,(.int .i64),(.int .i64),(.sl (.nam 7))]),(103,[(.sl (.nam 10))]),(106,[(.int .i64),(.sl (.int .i64))]),(107,[(.int .i64),(.sl (.int .i64))]),(110,[.bool,(.sl .bool),(.int .i64),.bool,.byte]),(111,[.bool,(.sl .bool),(.int .i64),.bool,.byte])]
 nf := [103]
def EQT : List (Nat × List Ty) := [(28,[(.int .i64),(.int .i64)]),(83,[.str,(.int .i64)])]
theorem Ir : EqOk Try.prog TT 28 [(.int .i64),(.int .i64)] := ⟨by kernel_rfl,by kernel_rfl,by kernel_rfl,by kernel_rfl⟩
theorem Hb : EqOk Try.prog TT 83 [.str,(.int .i64)] := ⟨by kernel_rfl,by kernel_rfl,by kernel_rfl,by kernel_rfl⟩
theorem dv : ∀ p ∈ EQT, EqOk Try.prog TT p.1 p.2 := by
 simp only [EQT,List.forall_mem_cons]
 exact ⟨Ir,Hb,by simp⟩
end Go.Proofs.Ytlhjbhgkhpbnfaa
namespace Go.Proofs.Ytlhjbhgkhpbnfaa
open Go.RowKit P
set_option linter.unusedSimpArgs false
set_option linter.unusedVariables false
def Tree.go {L : Type} : Tree L → Option L
 | .leaf x => some x
 | .cond true s _ => go s
 | .cond false _ t => go t
 | .bnd (some z) k => go (k z)
 | .bnd none _ => none
 | .sm (.ok z) k _ => go (k z)
 | .sm (.pan v) _ q => go (q v)
 | .nl [] _ _ => none
 | .nl (_ :: _) _ t => go t
 | .fail => none
section
variable {P : Program} (Y : Tys P) (E : Env) (G : Gam E) (lv : Lvs) (rs : List ResultVar)
end
end Go.Proofs.Ytlhjbhgkhpbnfaa
namespace Go.Proofs.Ytlhjbhgkhpbnfaa
open Go.RowKit Go.Lib P
set_option linter.unusedVariables false
set_option linter.unusedSimpArgs false
set_option maxHeartbeats 1000000 in
set_option maxRecDepth 100000 in
theorem zm (s : ByteArray) (c : Int) (w : World) : Calls Try.prog 59 #[.string s, .int .u8 c] w fun e w' => e = .returned (.int .i64 (Lib.indexByte s.data.toList c.toNat.toUInt8)) ∧ w' = w := by
 go_enter Try.func59,Try.ntmps59
 go_wp2
 rw [run_callFunc_extern Try.func66 (by kernel_rfl) (by kernel_rfl) (by kernel_rfl) (e := Extern.BytealgIndexByte.indexByte) (by kernel_rfl),Lib.run_indexByteString]
 simp only [Result.andThen]
 rw [Oper.upon_value]
 go_wp2
 go_ret
 exact ⟨rfl,rfl⟩
def kY (N : Nat) (s : List UInt8) (c : UInt8) : Option Int := some (Lib.indexByte s c)
def lP (r : Int) : TV EE.T := .a (.d (.int .i64) r)
def jg (N : Nat) : List (TV EE.T) → PV EE.T
 | [u0, u1] => match kT .str u0, kT .byte u1 with
   | some x0,some x1 => .opt (kY N x0 x1) lP
   | _,_ => .bad
 | _ => .bad
theorem G9 (s : List UInt8) (c : UInt8) (ρ : Rn) : aT Try.prog 59 (([.a (.d .str s), .a (.d .byte c)] : List (TV EE.T)).map (TV.to EE.toEnc ρ)) [] (fun out H => out = .ret ((lP (Lib.indexByte s c)).to EE.toEnc ρ) ∧ H = []) := by
 refine qV (vs := [.string (mkB s),.int .u8 ((UInt8.toNat c : Nat) : Int)]) ⟨_,Try.func59,by kernel_rfl,by kernel_rfl⟩ fun w => ?_
 refine (zm (mkB s) ((UInt8.toNat c : Nat) : Int) w).mono fun e w' ⟨h1,h2⟩ => ⟨?_,?_⟩
 ·rw [h1,show (((UInt8.toNat c : Nat) : Int)).toNat.toUInt8 = c from UInt8.ofNat_toNat]; rfl
 ·subst h2; exact Below.refl _ _
theorem pH (N : Nat) (us : List (TV EE.T)) : (jg N us).ok fun u => ∀ ρ, aT Try.prog 59 (us.map (TV.to EE.toEnc ρ)) [] (fun out H => out = .ret (u.to EE.toEnc ρ) ∧ H = []) := by
 unfold jg
 split
 ·split
  ·rename_i u0 u1 x0 x1 h0 h1
   intro z hz ρ
   cases hz
   exact fH (us' := ([.a (.d .str x0),.a (.d .byte x1)] : List (TV EE.T))) ⟨eo h0 ρ,eo h1 ρ,trivial⟩ (G9 x0 x1 ρ)
  ·trivial
 ·trivial
end Go.Proofs.Ytlhjbhgkhpbnfaa
namespace Go.Proofs.Ytlhjbhgkhpbnfaa
open Go.RowKit P
set_option linter.unusedSimpArgs false
set_option linter.unusedVariables false
theorem tv {P : Program} {T : Tys P} {σ : AS} {t u ty e : TypeId} {x y : Operand} {pos : String} {af : Array Edge} {g : Option (Nat × Bool)} {d by_ sz N : Nat} {us : List AV} {du : TypeDesc} (hx : opV σ x = some (.cl sz [])) (ht : look T.ty t = some (.slice e)) (hu : look T.ty u = some du) (hnz : du = .string ∨ ∃ e', du = .slice e') (hz : look T.sz e = some (sz, by_)) (hb1 : 1 ≤ by_)
  (hsrc : ∀ F X (a : Act),SimE F X σ a.tmps → ∃ vs,SrcA P X sz N N us (a.eval y) vs) (hN : 0 < N) (hfit : N * by_ ≤ 140737488355328) (hpl : fw us) (hd : Nat.ble (d + 1) σ.n = true)
  {R : AS → Prop} (hR : ∀ k' cap (vs : List Value),eE k' σ.h → N ≤ cap → (us ++ vs.map AV.v).length = cap * sz → R ((σ.box k' (us ++ vs.map AV.v)).put d (.v (.slice (some ⟨k',0,none⟩) N cap)))) : cy P ⟨some d,.call { callee := .builtin .append,args := #[x,y],argTypes := #[t,u] },ty,pos,af,g⟩ σ R := by
 refine qL (Fact := fun cap sp => N ≤ cap ∧ (us ++ sp).length = cap * sz ∧ ∃ vs : List Value,sp = vs.map AV.v) rfl hd (fun cap sp h v hv => ?_) (fun F X a hs => ?_) (fun k' cap sp hk ⟨h1,h2,vs,h3⟩ => by subst h3; exact hR k' cap vs hk h1 h2)
 ·rcases List.mem_append.1 hv with hv | hv
  ·exact hpl v hv
  ·obtain ⟨vs, rfl⟩ := h.2.2
   obtain ⟨z,_,rfl⟩ := List.mem_map.1 hv; rfl
 ·have hrel := bx hs hx
  obtain ⟨vs,hv⟩ := hsrc F X a hs
  obtain ⟨i,hi1,hi2,hi3,zv,hi4,hi5⟩ := T.szOk _ _ _ hz
  generalize hxv : a.eval x = xv at hrel
  cases hrel with
  | cl _ _ ad n hr =>
    have hn : n = 0 := by
     obtain ⟨a1,c1,h1⟩ := eO hr
     cases h1; rfl
    subst hn
    have hcge := grownCap_ge X.w (0 + N) 0 e
    have hold : ∀ w', w'.heap = X.w.heap → (Builtin.firstCells i.size 0 (.slice ad 0 0)).run P w' = .ok ([] : List Value).toArray w' := fun w' _ => by
     cases ad with
     | none => simp [Builtin.firstCells]
     | some b => exact run_firstCells_some (P := P) (w := w') i.size 0 b 0 0 [] (by simp) (fun j v hv => by simp at hv)
    have hrun := fA (P := P) (ty := ty) (sLen := 0) (sCap := 0) (a := ad) (m := N) (olds := []) (news := vs) (x := a.eval y) (T.tyOk _ _ ht) (T.tyOk _ _ hu) hnz hi1 hi4 ⟨hv.len,by rw [hi2]; exact hv.first,by rw [hi2]; exact hv.lv⟩ hold (by omega) (by rw [hi3,Nat.zero_add]; exact hfit) (by rw [hi3]; exact hb1)
    rw [Nat.zero_add] at hrun hcge
    refine ⟨_,e,grownCap X.w N 0 e,(Builtin.zeroCells zv.cells (grownCap X.w N 0 e - N)).toList.map .v,⟨hcge,?_,_,rfl⟩,cf hxv rfl hrun,?_,fun j u0 v hu0 hv0 => ?_⟩
    ·rw [List.length_append, hv.lu, List.length_map, Array.length_toList]
     have : (Builtin.zeroCells zv.cells (grownCap X.w N 0 e - N)).size = (grownCap X.w N 0 e - N) * sz := by simp [Builtin.zeroCells,hi5]
     rw [this,← Nat.add_mul]; congr 1; omega
    ·simp only [Array.size_append,List.size_toArray,List.length_append,hv.lu,hv.lv,List.length_map,Array.length_toList,List.length_nil,Nat.zero_add]
    ·have hl0 : (([] : List Value).toArray ++ vs.toArray ++ Builtin.zeroCells zv.cells (grownCap X.w N 0 e - N))[j]? = (vs ++ (Builtin.zeroCells zv.cells (grownCap X.w N 0 e - N)).toList)[j]? := by
      rw [← Array.getElem?_toList]; simp
     rw [hl0] at hv0
     refine v8 (by rw [hv.lu,hv.lv]) hv.rel (fun i u v hu hv => ?_) j u0 v hu0 hv0
     rw [List.getElem?_map,hv] at hu
     cases hu
     exact .v _
end Go.Proofs.Ytlhjbhgkhpbnfaa
namespace Go.Proofs.Ytlhjbhgkhpbnfaa
open Go.RowKit P
set_option linter.unusedSimpArgs false
set_option linter.unusedVariables false
section
attribute [local irreducible] AS.nf OpV be Stk lm Ex aT cy Es Fj Awp Kb JY KR
set_option maxHeartbeats 2000000
set_option maxRecDepth 100000 in
theorem Df (n : Int) (l : List Int) (hl : l.length < 1000000) :
  aT Try.prog 55 [.sl false 1 ((n :: l).map fun x => [.v (.int .i64 x)])] [] (fun out H => ∃ (k c : Nat) (vs : List Value),out = .ret (.v (.slice (some ⟨k,0,none⟩) (l.length + 1) c)) ∧ H = [(k,((n :: l).map fun x => [AV.v (.int .i64 x)]).flatten ++ vs.map AV.v)] ∧ (l.length + 1) + vs.length = c) := by
 have hone : ∀ r ∈ ((n :: l).map fun x => [AV.v (.int .i64 x)]), r.length = 1 ∧ ∀ u ∈ r, u.one = true ∧ b7 (some u) = none := fun r hr => by
  obtain ⟨x,_,rfl⟩ := List.mem_map.1 hr
  exact ⟨rfl,fun u hu => by rw [List.mem_singleton.1 hu]; exact ⟨rfl,rfl⟩⟩
 have hln : ((n :: l).map fun x => [AV.v (.int .i64 x)]).length = l.length + 1 := by simp
 generalize hL : ((n :: l).map fun x => [AV.v (.int .i64 x)]) = L at hone hln ⊢
 have hne : L ≠ [] := fun e => by rw [e] at hln; simp at hln
 refine xh _ 8 [.tmp 2] Try.func55 (by kernel_rfl) rfl rfl rfl rfl ?_
 dsimp only [slotsOf]
 repeat (first
  | ((first | apply zM | apply sF); (next => (first | (simp only [go_sem,Nat.reduceBEq,Nat.reduceEqDiff,reduceIte,reduceCtorEq,String.reduceEq,Nat.reduceAdd,Int.reduceToNat]; exact rfl) | exact rfl)))
  | (apply pO rfl rfl rfl rfl; (next => (first
   | (refine mt (T := TT) rfl ?_; (first | exact trivial | omega | (simp [NFL] <;> omega)))
   | (apply opk ⟨_,.move _,_,_,_,_⟩; first | exact eG (eg _) (.inl rfl) | fail)
   | (apply opk ⟨_, .binOp .eql _ _ _ _, _, _, _, _⟩; first
    | (refine pV rfl rfl rfl ?_; (next => (first | exact rfl | (simp only [nI]; omega) | (simp only [nI]; simp [NFL] <;> omega))))
    | (refine qa rfl rfl rfl ?_; (next => (first | exact rfl | (simp only [nI]; omega) | (simp only [nI]; simp [NFL] <;> omega))))
    | exact dg rfl rfl rfl
    | (refine pS rfl rfl rfl ?_; (next => (first | rfl | assumption)))
    | (refine pK rfl rfl rfl ?_; (next => (first | rfl | assumption)))
    | exact gD rfl rfl rfl
    | fail)
   | (apply opk ⟨_,.buildSlice _ _ _,_,_,_,_⟩; first | exact f8 (T := TT) rfl rfl rfl rfl rfl rfl rfl | fail)
   | fail)))
  | (refine arO _ ?_; first
   | (refine arO ⟨_,.move _,_,_,_,_⟩ ?_; first | refine jo rfl rfl rfl rfl ?_ | fail)
   | (refine arO ⟨_, .assign _, _, _, _, _⟩ ?_; first
    | refine gE rfl rfl rfl rfl ?_
    | refine zt rfl rfl rfl rfl (eG (eg _) (.inr rfl)) ?_
    | fail)
   | (refine arO ⟨_, .call { callee := .builtin .append, args := _, argTypes := _ }, _, _, _, _⟩ ?_; first
    | (apply px rfl rfl; (next => (first
     | (apply dC (T := TT) rfl rfl rfl rfl rfl rfl rfl rfl rfl rfl; (next => (first | exact trivial | exact cx _ | assumption | (simp [ep,AV.one,AV.rd,AV.cells,cst,Value.oneCell'] <;> omega))); (next => (first | omega | (simp [NFL] <;> omega))))
     | (apply dC (T := TT) rfl (vI bT rfl) rfl rfl rfl rfl rfl rfl rfl rfl; (next => (first | exact trivial | exact cx _ | assumption | (simp [ep,AV.one,AV.rd,AV.cells,cst,Value.oneCell'] <;> omega))); (next => (first | omega | (simp [NFL] <;> omega))))
     | (apply dC (T := TT) rfl (vI (d9 (by first | assumption | (intro e; exact absurd e.symm (by assumption))) bT) rfl) rfl rfl rfl rfl rfl rfl rfl rfl; (next => (first | exact trivial | exact cx _ | assumption | (simp [ep,AV.one,AV.rd,AV.cells,cst,Value.oneCell'] <;> omega))); (next => (first | omega | (simp [NFL] <;> omega))))
     | (apply fK (T := TT) rfl rfl rfl rfl rfl rfl rfl rfl rfl; (next => (first | exact trivial | exact cx _ | assumption | (simp [ep,AV.one,AV.rd,AV.cells,cst,Value.oneCell'] <;> omega))); (next => (first | omega | (simp [NFL] <;> omega))))
     | fail)))
    | fail)
   | fail)
  | refine pE ?_
  | (refine arE ?_; refine nj [0,2,4] rfl ?_)
  | refine iV ?_
  | refine kP ?_
  | refine np ?_
  | refine p7 ?_
  | refine lW rfl ?_
  | (refine arC (.cond _ _ _) ?_; first
   | (refine eX rfl ?_ ?_; (next => (first | rfl | (simp only [decide_eq_true_eq,beq_iff_eq,bne_iff_ne,ge_iff_le,gt_iff_lt,ne_eq,Bool.not_eq_true',decide_eq_false_iff_not]; omega))))
   | (refine ey rfl ?_ ?_; (next => (first
    | rfl
    | (simp only [decide_eq_false_iff_not,beq_eq_false_iff_ne,bne_eq_false_iff_eq,ge_iff_le,gt_iff_lt,ne_eq,Bool.not_eq_false',decide_eq_true_eq]; omega))))
   | fail)
  | refine mQ ?_
  | refine kp ?_
  | refine jn rfl ?_
  | refine ja ?_
  | refine jb ?_
  | (refine arC .ret ?_; refine o3 [2] ?_)
  | refine kC ?_
  | refine kB ?_
  | refine kI ?_
  | refine oX ?_
  | fail)
 refine gT rfl rfl (xb (.inl ⟨rfl,rfl⟩) (TT.tyOk 38 (.slice 3) rfl) rfl rfl rfl (fun b hb => ?_))
 cases b with
 | true => exact absurd (hb rfl) hne
 | false =>
   repeat (first
    | ((first | apply zM | apply sF); (next => (first | (simp only [go_sem,Nat.reduceBEq,Nat.reduceEqDiff,reduceIte,reduceCtorEq,String.reduceEq,Nat.reduceAdd,Int.reduceToNat]; exact rfl) | exact rfl)))
    | (apply pO rfl rfl rfl rfl; (next => exact sa (T := TT) rfl rfl))
    | (apply pO rfl rfl rfl rfl; (next => (first
     | (refine mt (T := TT) rfl ?_; (first | exact trivial | omega | (simp [NFL] <;> omega)))
     | (apply opk ⟨_,.move _,_,_,_,_⟩; first | exact eG (eg _) (.inl rfl) | fail)
     | (apply opk ⟨_, .binOp .eql _ _ _ _, _, _, _, _⟩; first
      | (refine pV rfl rfl rfl ?_; (next => (first | exact rfl | (simp only [nI]; omega) | (simp only [nI]; simp [NFL] <;> omega))))
      | (refine qa rfl rfl rfl ?_; (next => (first | exact rfl | (simp only [nI]; omega) | (simp only [nI]; simp [NFL] <;> omega))))
      | exact dg rfl rfl rfl
      | (refine pS rfl rfl rfl ?_; (next => (first | rfl | assumption)))
      | (refine pK rfl rfl rfl ?_; (next => (first | rfl | assumption)))
      | exact gD rfl rfl rfl
      | fail)
     | (apply opk ⟨_,.buildSlice _ _ _,_,_,_,_⟩; first | exact f8 (T := TT) rfl rfl rfl rfl rfl rfl rfl | fail)
     | fail)))
    | (refine arO _ ?_; first
     | (refine arO ⟨_,.move _,_,_,_,_⟩ ?_; first | refine jo rfl rfl rfl rfl ?_ | fail)
     | (refine arO ⟨_, .assign _, _, _, _, _⟩ ?_; first
      | refine gE rfl rfl rfl rfl ?_
      | refine zt rfl rfl rfl rfl (eG (eg _) (.inr rfl)) ?_
      | fail)
     | (refine arO ⟨_, .call { callee := .builtin .append, args := _, argTypes := _ }, _, _, _, _⟩ ?_; first
      | (apply px rfl rfl; (next => (first
       | (apply dC (T := TT) rfl rfl rfl rfl rfl rfl rfl rfl rfl rfl; (next => (first | exact trivial | exact cx _ | assumption | (simp [ep,AV.one,AV.rd,AV.cells,cst,Value.oneCell'] <;> omega))); (next => (first | omega | (simp [NFL] <;> omega))))
       | (apply dC (T := TT) rfl (vI bT rfl) rfl rfl rfl rfl rfl rfl rfl rfl; (next => (first | exact trivial | exact cx _ | assumption | (simp [ep,AV.one,AV.rd,AV.cells,cst,Value.oneCell'] <;> omega))); (next => (first | omega | (simp [NFL] <;> omega))))
       | (apply dC (T := TT) rfl (vI (d9 (by first | assumption | (intro e; exact absurd e.symm (by assumption))) bT) rfl) rfl rfl rfl rfl rfl rfl rfl rfl; (next => (first | exact trivial | exact cx _ | assumption | (simp [ep,AV.one,AV.rd,AV.cells,cst,Value.oneCell'] <;> omega))); (next => (first | omega | (simp [NFL] <;> omega))))
       | (apply fK (T := TT) rfl rfl rfl rfl rfl rfl rfl rfl rfl; (next => (first | exact trivial | exact cx _ | assumption | (simp [ep,AV.one,AV.rd,AV.cells,cst,Value.oneCell'] <;> omega))); (next => (first | omega | (simp [NFL] <;> omega))))
       | fail)))
      | fail)
     | fail)
    | refine pE ?_
    | (refine arE ?_; refine nj [0,2,4] rfl ?_)
    | refine iV ?_
    | refine kP ?_
    | refine np ?_
    | refine p7 ?_
    | refine lW rfl ?_
    | (refine arC (.cond _ _ _) ?_; first
     | (refine eX rfl ?_ ?_; (next => (first | rfl | (simp only [decide_eq_true_eq,beq_iff_eq,bne_iff_ne,ge_iff_le,gt_iff_lt,ne_eq,Bool.not_eq_true',decide_eq_false_iff_not]; omega))))
     | (refine ey rfl ?_ ?_; (next => (first
      | rfl
      | (simp only [decide_eq_false_iff_not,beq_eq_false_iff_ne,bne_eq_false_iff_eq,ge_iff_le,gt_iff_lt,ne_eq,Bool.not_eq_false',decide_eq_true_eq]; omega))))
     | fail)
    | refine mQ ?_
    | refine kp ?_
    | refine jn rfl ?_
    | refine ja ?_
    | refine jb ?_
    | (refine arC .ret ?_; refine o3 [2] ?_)
    | refine kC ?_
    | refine kB ?_
    | refine kI ?_
    | refine oX ?_
    | fail)
   have hfl : L.flatten.length = L.length * 1 := oN (L := L) fun q hq => (hone q hq).1
   refine gT rfl rfl (tv (T := TT) (sz := 1) (by_ := 8) (N := L.length) (us := L.flatten) rfl rfl rfl (.inr ⟨_,rfl⟩) rfl (by decide) (fun F X a hs => ?_) (by omega) (by omega) (fun u hu => ?_) rfl ?_)
   ·exact B6 (P := Try.prog) (by decide) (bx hs (u := .sl false 1 L) rfl) (fun q hq u hu => ((hone q hq).2 u hu).1)
   ·obtain ⟨r, h1, h2⟩ := List.mem_flatten.1 hu
    exact ((hone r h1).2 u h2).2
   intro k' cap vs hk' h1 h2
   repeat (first
    | ((first | apply zM | apply sF); (next => (first | (simp only [go_sem,Nat.reduceBEq,Nat.reduceEqDiff,reduceIte,reduceCtorEq,String.reduceEq,Nat.reduceAdd,Int.reduceToNat]; exact rfl) | exact rfl)))
    | (apply pO rfl rfl rfl rfl; (next => (first
     | (refine mt (T := TT) rfl ?_; (first | exact trivial | omega | (simp [NFL] <;> omega)))
     | (apply opk ⟨_,.move _,_,_,_,_⟩; first | exact eG (eg _) (.inl rfl) | fail)
     | (apply opk ⟨_, .binOp .eql _ _ _ _, _, _, _, _⟩; first
      | (refine pV rfl rfl rfl ?_; (next => (first | exact rfl | (simp only [nI]; omega) | (simp only [nI]; simp [NFL] <;> omega))))
      | (refine qa rfl rfl rfl ?_; (next => (first | exact rfl | (simp only [nI]; omega) | (simp only [nI]; simp [NFL] <;> omega))))
      | exact dg rfl rfl rfl
      | (refine pS rfl rfl rfl ?_; (next => (first | rfl | assumption)))
      | (refine pK rfl rfl rfl ?_; (next => (first | rfl | assumption)))
      | exact gD rfl rfl rfl
      | fail)
     | (apply opk ⟨_,.buildSlice _ _ _,_,_,_,_⟩; first | exact f8 (T := TT) rfl rfl rfl rfl rfl rfl rfl | fail)
     | fail)))
    | (refine arO _ ?_; first
     | (refine arO ⟨_,.move _,_,_,_,_⟩ ?_; first | refine jo rfl rfl rfl rfl ?_ | fail)
     | (refine arO ⟨_, .assign _, _, _, _, _⟩ ?_; first
      | refine gE rfl rfl rfl rfl ?_
      | refine zt rfl rfl rfl rfl (eG (eg _) (.inr rfl)) ?_
      | fail)
     | (refine arO ⟨_, .call { callee := .builtin .append, args := _, argTypes := _ }, _, _, _, _⟩ ?_; first
      | (apply px rfl rfl; (next => (first
       | (apply dC (T := TT) rfl rfl rfl rfl rfl rfl rfl rfl rfl rfl; (next => (first | exact trivial | exact cx _ | assumption | (simp [ep,AV.one,AV.rd,AV.cells,cst,Value.oneCell'] <;> omega))); (next => (first | omega | (simp [NFL] <;> omega))))
       | (apply dC (T := TT) rfl (vI bT rfl) rfl rfl rfl rfl rfl rfl rfl rfl; (next => (first | exact trivial | exact cx _ | assumption | (simp [ep,AV.one,AV.rd,AV.cells,cst,Value.oneCell'] <;> omega))); (next => (first | omega | (simp [NFL] <;> omega))))
       | (apply dC (T := TT) rfl (vI (d9 (by first | assumption | (intro e; exact absurd e.symm (by assumption))) bT) rfl) rfl rfl rfl rfl rfl rfl rfl rfl; (next => (first | exact trivial | exact cx _ | assumption | (simp [ep,AV.one,AV.rd,AV.cells,cst,Value.oneCell'] <;> omega))); (next => (first | omega | (simp [NFL] <;> omega))))
       | (apply fK (T := TT) rfl rfl rfl rfl rfl rfl rfl rfl rfl; (next => (first | exact trivial | exact cx _ | assumption | (simp [ep,AV.one,AV.rd,AV.cells,cst,Value.oneCell'] <;> omega))); (next => (first | omega | (simp [NFL] <;> omega))))
       | fail)))
      | fail)
     | fail)
    | refine pE ?_
    | (refine arE ?_; refine nj [0,2,4] rfl ?_)
    | refine iV ?_
    | refine kP ?_
    | refine np ?_
    | refine p7 ?_
    | refine lW rfl ?_
    | (refine arC (.cond _ _ _) ?_; first
     | (refine eX rfl ?_ ?_; (next => (first | rfl | (simp only [decide_eq_true_eq,beq_iff_eq,bne_iff_ne,ge_iff_le,gt_iff_lt,ne_eq,Bool.not_eq_true',decide_eq_false_iff_not]; omega))))
     | (refine ey rfl ?_ ?_; (next => (first
      | rfl
      | (simp only [decide_eq_false_iff_not,beq_eq_false_iff_ne,bne_eq_false_iff_eq,ge_iff_le,gt_iff_lt,ne_eq,Bool.not_eq_false',decide_eq_true_eq]; omega))))
     | fail)
    | refine mQ ?_
    | refine kp ?_
    | refine jn rfl ?_
    | refine ja ?_
    | refine jb ?_
    | (refine arC .ret ?_; refine o3 [2] ?_)
    | refine kC ?_
    | refine kB ?_
    | refine kI ?_
    | refine oX ?_
    | fail)
   exact ⟨_,rfl,k',cap,vs,by rw [hln],rfl,by rw [List.length_append,hfl,List.length_map] at h2; omega⟩
end
def iT (N : Nat) (l : List Int) : Option (PR (Nat × List Int)) := match l with
 | [] => none
 | n :: r => if r.length < 1000000 then some (.ok (r.length + 1,n :: r)) else none
def xy (r : Nat × List Int) : TV EE.T := .a (.vec (.int .i64) 300000 r.1)
def wj (r : Nat × List Int) : List (Nat × TB EE.T) := [(300000,.vec 300000 (.int .i64) r.2)]
def lN (N : Nat) (us : List (TV EE.T)) (hs : List (Nat × TB EE.T)) : XR EE.T :=
 gdX (fx us 1) <| bnX (aD (.sl (.int .i64)) us 0) fun x0 => .mv (iT N x0) [] [] 1 xy wj
theorem nT (N : Nat) : XOk Try.prog EE 55 (lN N) := fun us hs =>
 a7 fun h1 => aA fun x0 h2 => fun p hz ρ hi => by
  unfold iT at hz
  split at hz
  ·cases hz
  ·rename_i n r
   split at hz
   ·rename_i hl
    cases hz
    refine F7 (us' := [.a (.d (.sl (.int .i64)) (n :: r))]) (h0 := []) (ids := []) (ρ' := ρ) ⟨lZ h2,ce h1⟩ trivial (Df n r hl) ?_
    rintro out H ⟨k,c,vs,rfl,rfl,hc⟩
    have hlive : a8 (cI ρ 300000 ⟨k,false,vs⟩) (TB.vec 300000 (.int .i64) (n :: r) : TB EE.T) = true := by simp [a8]
    refine ⟨cI ρ 300000 ⟨k,false,vs⟩,(fun i hi => by cases hi),?_,?_,Inj.one⟩
    ·show AOut.ret _ = AOut.ret (.v (vecV _ _ _))
     congr 2
     simp [vecV,cI,csz]
     omega
    ·refine Eq.trans ?_ (cM (ρ := cI ρ 300000 ⟨k, false, vs⟩) (k := 300000) EE.toEnc [] hlive).symm
     have e1 : (cI ρ 300000 ⟨k,false,vs⟩) 300000 = k := by simp [Rn.b,cI]
     have e2 : (TB.vec 300000 (.int .i64) (n :: r) : TB EE.T).to EE.toEnc (cI ρ 300000 ⟨k, false, vs⟩) = ((n :: r).map fun x => [AV.v (.int .i64 x)]).flatten ++ vs.map AV.v := by
      show _ ++ ((cI ρ 300000 ⟨k,false,vs⟩).k 300000).sp.map AV.v = _
      rw [show (cI ρ 300000 ⟨k,false,vs⟩).k 300000 = ⟨k,false,vs⟩ by simp [cI]]
      rfl
     rw [e1,e2]; rfl
   ·cases hz
end Go.Proofs.Ytlhjbhgkhpbnfaa
