import Derived.Test.YtmjpdbbjiipnfaaGreatBk04
set_option linter.unusedSimpArgs false
set_option linter.unusedVariables false
namespace Go.Proofs.YtmjpdbbjiipnfaaGreat
open Go.RowKit P
set_option linter.unusedSimpArgs false
set_option linter.unusedVariables false
inductive Want where
 | yes
 | no
 | nor
 | sym (b want : Bool) (d : Nat)
 | bad
def mK {T : Nat → Type} (l : List Oper) (σ : TS T) (o : Oper) : Want :=
 match o.guard with
 | none => .yes
 | some (j, want) => match (l[j]?).bind (·.dst) with
   | some d => match Nat.ble (d + 1) σ.n with
     | true => match look σ.t d with
       | some (.a .tt) => (match want with | true => .yes | false => .no)
       | some (.a .ff) => (match want with | true => .no | false => .yes)
       | some (.a (.d .bool b)) => .sym b want d
       | some (.a (.raw (.tuple _))) => .nor
       | _ => .bad
     | false => .bad
   | none => .bad
def TS.know {T : Nat → Type} (σ : TS T) (d : Nat) (x : TA T) : TS T := { n := σ.n, t := (d, .a x) :: σ.t, h := σ.h, e := σ.e }
section
variable {P : Program} (Y : Tys P) (E : Env) (G : Gam E)
inductive OL (T : Nat → Type) where
 | st (σ : TS T)
 | pan (v : Value)
def cA {T : Nat → Type} (h : List (Nat × TB T)) : List Nat → Bool
 | [] => true
 | i :: r => match look h i, ge r i with
   | some _, false => cA h r
   | _, _ => false
def TS.give {T : Nat → Type} (σ : TS T) (ids : List Nat) (h' : List (Nat × TB T)) : TS T := { n := σ.n, t := σ.t, h := h' ++ dropHH ids σ.h, e := gN σ.e }
def tG {T : Nat → Type} (σ : TS T) (d : Nat) : XR T → Tree (OL T)
 | .bad => .fail
 | .ret o ids u h => match cA σ.h ids && nvH (bG σ.h ids) with
   | true => .bnd o fun z => match nvH (h z) with
     | true => .leaf (.st ((σ.give ids (h z)).put d (u z)))
     | false => .fail
   | false => .fail
 | .may o ids u h => match cA σ.h ids && nvH (bG σ.h ids) with
   | true => .bnd o fun p => .sm p (fun z => match nvH (h z) with
     | true => .leaf (.st ((σ.give ids (h z)).put d (u z)))
     | false => .fail) fun v => .leaf (.pan v)
   | false => .fail
 | .mv o ids mv nw u h => match cA σ.h ids && yI ids mv nw d && o8 (mvQ mv nw d) (dropHH ids σ.h) with
   | true => .bnd o fun p => .sm p (fun z => match (u z).ids (mvP ids nw) && o8 (mvP ids nw) (h z) with
     | true => .leaf (.st ((σ.giveM ids mv nw d (mF (nmN nw d) (h z))).put d ((u z).ren (nmN nw d))))
     | false => .fail) fun v => .leaf (.pan v)
   | false => .fail
def wT {T : Nat → Type} (σ : TS T) (d : Nat) (x : XR T) : Tree (OL T) := match x with
 | .mv _ _ _ _ _ _ => .fail
 | x => tG σ d x
def NE (E : Env) (u : TV E.T) : Option Value := match u.ids fun _ => false with
 | true => Dl (u.to E.toEnc Rn.zero)
 | false => none
def KG : BinOp → Option Bool
 | .eql => some false
 | .neq => some true
 | _ => none
def nilV {T : Nat → Type} (b neg : Bool) : TV T := match b != neg with
 | true => .a .tt
 | false => .a .ff
def evX (o : Oper) (σ : TS E.T) : Tree (OL E.T) :=
 match o.dst with
 | some d => match Nat.ble (d + 1) σ.n with
   | true => match o.op with
     | .call { callee := .value (.func f), args := xs, argTypes := ats } => match yy G.x f with
       | true => match pt σ xs.toList with
         | some us => tG σ d (wF G.x f (cN E [] us) σ.h)
         | none => .fail
       | false => (qM Y E G o σ).bind fun σ' => .leaf (.st σ')
     | .call { callee := .value (.tmp s), args := xs, argTypes := ats } => match look σ.t s, pt σ xs.toList with
       | some (.fn f caps), some us => match caps.all TA.plain with
         | true => tG σ d (wF G.x f (cN E [] us ++ caps.map .a) σ.h)
         | false => .fail
       | some (.a (.fnb f is)), some us => tG σ d (wF G.x f (cN E [] us ++ is.map fun i => .a (.box i 0)) σ.h)
       | _, _ => .fail
     | .binOp op t x y _ => match asL (opT σ x), opT σ y, look Y.ty t, op with
       | some ⟨_, l⟩, some (.a (.raw (.slice none 0 0))), some (.slice _), .eql => .nl l (.leaf (.st (σ.put d (.a .tt)))) (.leaf (.st (σ.put d (.a .ff))))
       | some ⟨_, l⟩, some (.a (.raw (.slice none 0 0))), some (.slice _), .neq => .nl l (.leaf (.st (σ.put d (.a .ff)))) (.leaf (.st (σ.put d (.a .tt))))
       | _, _, _, _ => match uK (opT σ x), opT σ y, look Y.ty t, KG op with
         | some (ty, k, off, n), some (.a (.raw (.slice none 0 0))), some (.slice _), some neg => match kY σ.h ty k with
           | some l => .nl ((l.drop off).take n) (.leaf (.st (σ.put d (nilV true neg)))) (.leaf (.st (σ.put d (nilV false neg))))
           | none => .fail
         | _, _, _, _ => (qM Y E G o σ).bind fun σ' => .leaf (.st σ')
     | _ => (qM Y E G o σ).bind fun σ' => .leaf (.st σ')
   | false => .fail
 | none => match o.op with
   | .panic x => match opT σ x with
     | some u => match NE E u with
       | some v => .leaf (.pan v)
       | none => .fail
     | none => .fail
   | _ => (qM Y E G o σ).bind fun σ' => .leaf (.st σ')
def vP {T : Nat → Type} (f : TS T → Tree (OL T)) : OL T → Tree (OL T)
 | .st σ => f σ
 | .pan v => .leaf (.pan v)
def jS (σ : TS E.T) (o : Oper) : Tree (TS E.T) :=
 match o.dst with
 | some d => match Nat.ble (d + 1) σ.n with
   | true => .leaf (σ.put d (.a (.raw undef)))
   | false => .fail
 | none => .fail
def jd (l : List Oper) : List Oper → TS E.T → Tree (OL E.T)
 | [], σ => .leaf (.st σ)
 | o :: rest, σ => match mK l σ o with
   | .yes => (evX Y E G o σ).bind (vP (jd l rest))
   | .no => (jS E σ o).bind (jd l rest)
   | .nor => (jS E σ o).bind (jd l rest)
   | .sym b true d => .cond b ((evX Y E G o (σ.know d .tt)).bind (vP (jd l rest))) ((jS E (σ.know d .ff) o).bind (jd l rest))
   | .sym b false d => .cond b ((jS E (σ.know d .tt) o).bind (jd l rest)) ((evX Y E G o (σ.know d .ff)).bind (vP (jd l rest)))
   | .bad => .fail
def evQ (o : Oper) (σ : TS E.T) : Tree (TS E.T) :=
 match o.dst with
 | some d => match Nat.ble (d + 1) σ.n with
   | true => match o.op with
     | .pick c x y => match opT σ c with
       | some (.a .tt) => match opT σ x with
         | some u => .leaf (σ.put d u.rd)
         | none => .fail
       | some (.a .ff) => match opT σ y with
         | some u => .leaf (σ.put d u.rd)
         | none => .fail
       | some (.a (.d .bool b)) => match opT σ x, opT σ y with
         | some u, some v => .cond b (.leaf (σ.put d u.rd)) (.leaf (σ.put d v.rd))
         | _, _ => .fail
       | _ => .fail
     | .buildSlice t 0 ⟨[]⟩ => match look Y.ty t, look E.et t with
       | some (.slice e), some (.sl ty) => match look Y.sz e with
         | some (sz, _) => match Nat.beq sz (csz E.toEnc ty) with
           | true => .leaf (σ.put d (.a (.clip ty [])))
           | false => .fail
         | none => .fail
       | _, _ => .fail
     | .call { callee := .builtin .append, args := ⟨[x, y]⟩, argTypes := ⟨[t, u]⟩ } => match opT σ x, look Y.ty t, look Y.ty u with
       | some (.a (.clip ty l)), some (.slice e), some du => match look Y.sz e, xd ty (opT σ y) with
         | some (sz, by_), some m => match oA du && Nat.ble 1 by_ && Nat.beq sz (csz E.toEnc ty) with
           | true => .nl m (.leaf (σ.put d (.a (.clip ty l)))) (.bnd (jY by_ l m) fun r => .leaf (σ.put d (.a (.own ty r))))
           | false => .fail
         | _, _ => .fail
       | _, _, _ => .fail
     | op => ka Y E G σ d op o.type
   | false => .fail
 | none => .fail
def qO (l : List Oper) : List Oper → TS E.T → Tree (TS E.T)
 | [], σ => .leaf σ
 | o :: rest, σ => match mK l σ o with
   | .yes => (evQ Y E G o σ).bind (qO l rest)
   | .no => (jS E σ o).bind (qO l rest)
   | .sym b true d => .cond b ((evQ Y E G o (σ.know d .tt)).bind (qO l rest)) ((jS E (σ.know d .ff) o).bind (qO l rest))
   | .sym b false d => .cond b ((jS E (σ.know d .tt) o).bind (qO l rest)) ((evQ Y E G o (σ.know d .ff)).bind (qO l rest))
   | _ => .fail
def bs0 (l : List Oper) (s : Nat) : Bool := l.any fun o => match o.dst, o.op with
 | some d, .buildSlice _ 0 ⟨[]⟩ => Nat.beq d s
 | _, _ => false
def Pb (xs bs : Nat → Bool) : Op → Bool
 | .store _ _ _ => true
 | .mapUpdate _ _ _ _ => true
 | .alloc _ => true
 | .box _ _ => true
 | .makeMap _ _ => true
 | .panic _ => true
 | .call { callee := .builtin .append, args := ⟨.tmp s :: _⟩, argTypes := _ } => !bs s
 | .call { callee := .builtin .append, args := _, argTypes := _ } => true
 | .call { callee := .value (.func f), args := _, argTypes := _ } => xs f
 | _ => false
def LU (mu : List Nat) : Option Nat → Bool
 | some d => tC mu d
 | none => false
def tb (xs bs : Nat → Bool) (mu : List Nat) : List Oper → List Oper × List Oper
 | [] => ([], [])
 | o :: r => match LU mu o.dst || Pb xs bs o.op with
   | true => ([], o :: r)
   | false => match tb xs bs mu r with
     | (a, b) => (o :: a, b)
def Pz {T : Nat → Type} (σ : TS T) (s : Nat) : Bool := match look σ.t s with
 | some (.a (.own _ _)) => true
 | _ => false
def TS.alsT {T : Nat → Type} (σ : TS T) (m : List (Nat × Nat)) : TS T := { n := σ.n, t := σ.t, h := σ.h, e := (m.filter fun p => Pz σ p.2).map (fun p => (p.1, Root.s p.2)) ++ σ.e }
def TS.withB {T : Nat → Type} (σ : TS T) (h : List (Nat × TB T)) : TS T := { n := σ.n, t := σ.t, h := h, e := σ.e }
def EV (σ : TS E.T) (t : TypeId) (k o n : Nat) (y : Operand) : Option (List (TA E.T)) :=
 match look σ.h k, opT σ y with
 | some (.cs cs), some u => match u.cs1 with
   | some vs => match Nat.beq vs.length n && Nat.ble (o + n) cs.length with
     | true => some (spl cs o (qH ((look E.ct t).getD []) vs))
     | false => none
   | none => none
 | _, _ => none
def O6 (ops body : List Oper) (om oa : Oper) (after : List Oper) : Bool := match om.op with
 | .store _ _ _ => sg ops body om oa after
 | _ => false
def F7 (ops body : List Oper) (om oa : Oper) (after : List Oper) (σ : TS E.T) : Tree (OL E.T) :=
 match om.op with
 | .store t x y => match opT σ x, look Y.sz t with
   | some (.a (.box kk _)), some (n, _) => match sg ops body om oa after && Ob σ.h kk with
     | true => (qO Y E G ops body (σ.withB (cF kk σ.h))).bind fun σ' => match opT σ' x with
       | some (.a (.box k2 p)) => match Nat.beq k2 kk with
         | true => match EV E (σ'.withB σ.h) t kk p n y with
           | some cs => jd Y E G ops (oa :: after) (((σ'.withB σ.h).setc kk cs).alsT (cW body))
           | none => .fail
         | false => .fail
       | _ => .fail
     | false => .fail
   | _, _ => .fail
 | _ => .fail
def Cy {T : Nat → Type} : TV T → Bool
 | .a (.d (.int _) _) => true
 | .a (.d .byte _) => true
 | .a (.d .bool _) => true
 | .a (.d .str _) => true
 | .a (.box _ _) => true
 | .a (.mpr _) => true
 | .a (.raw _) => true
 | .a .tt => true
 | .a .ff => true
 | .a (.bsl _ _ _ _) => true
 | .a (.vec _ _ _) => true
 | .a (.pel _ _ _ _) => true
 | .a (.vsl _ _ _ _) => true
 | _ => false
def O3 : Op → Bool
 | .move _ => true
 | .fieldAddr _ _ _ => true
 | .load _ _ => true
 | .binOp _ _ _ _ _ => true
 | .unOp _ _ _ => true
 | .index _ _ _ => true
 | .nilCheck _ => true
 | .slice _ _ _ _ _ => true
 | .convert _ _ _ => true
 | .call { callee := .builtin .len, args := _, argTypes := _ } => true
 | _ => false
def C9 (xs bs : Nat → Bool) (mu nd : List Nat) (l : List Oper) : List Oper → List Nat → List Bool
 | [], _ => []
 | o :: r, cd => match O3 o.op && !(LU mu o.dst || Pb xs bs o.op) && o.guard.isNone && o.dst.isSome && !(bS l o).any (tC cd) && !LU nd o.dst with
   | true => true :: C9 xs bs mu nd l r cd
   | false => false :: C9 xs bs mu nd l r (match o.dst with | some d => d :: cd | none => cd)
def mNf (fl : List Bool) (i : Nat) : Bool := fl.getD i false
def vk : Nat → List Bool → List Nat
 | _, [] => []
 | k, true :: r => vk (k + 1) r
 | k, false :: r => k :: vk (k + 1) r
def ut (s : Nat) (o : Oper) : Bool := match o.dst with
 | some d => Nat.beq d s
 | none => false
def tW (l : List Oper) (σ : TS E.T) : Nat → Operand → Option (Nat × Nat)
 | 0, _ => none
 | n + 1, .tmp s => match l.find? (ut s) with
   | some o => match o.op with
     | .move y => tW l σ n y
     | .nilCheck y => tW l σ n y
     | .fieldAddr t y i => match look Y.ty t, tW l σ n y with
       | some (.struct fs), some (k, p) => match fs[i]? with
         | some f => some (k, p + f.offset)
         | none => none
       | _, _ => none
     | .load _ y => match tW l σ n y with
       | some (k, p) => match look σ.h k with
         | some (.cs cs) => match cs[p]? with
           | some (.box j q) => some (j, q)
           | _ => none
         | _ => none
       | none => none
     | _ => none
   | none => match look σ.t s with
     | some (.a (.box k p)) => some (k, p)
     | _ => none
 | _, _ => none
def inH {T : Nat → Type} (ids : List Nat) (h : List (Nat × TB T)) : List (Nat × TB T) := h.filter fun p => ge ids p.1
def xl {T : Nat → Type} (ids : List Nat) (h : List (Nat × TB T)) : List (Nat × TB T) := h.filter fun p => !ge ids p.1
def Mo (l : List Oper) (σ : TS E.T) (fl : List Bool) : List Nat := l.zipIdx.filterMap fun q => match mNf fl q.2, q.1.op with
 | true, .load _ y => (tW Y E l σ l.length y).map (·.1)
 | _, _ => none
def Bt {T : Nat → Type} : List (Nat × TB T) → List Nat
 | [] => []
 | (k, .vec _ _ _) :: r => k :: Bt r
 | _ :: r => Bt r
def Ls (l : List Oper) (σ : TS E.T) : List Nat := l.filterMap fun o => match o.op, o.dst with
 | .load t y, some d => match look Y.ty t, tW Y E l σ l.length y with
   | some (.struct _), some (k, _) => match look σ.h k with
     | some (.cs cs) => match cs.all fun c => Cy (.a c : TV E.T) with
       | true => none
       | false => some d
     | _ => none
   | _, _ => none
 | _, _ => none
def Pd (l : List Oper) (σ : TS E.T) (x : Operand) : Option Nat := match x with
 | .tmp s => match l.find? (ut s) with
   | some o => match o.op with
     | .load _ y => (tW Y E l σ l.length y).map (·.1)
     | _ => none
   | none => none
 | _ => none
def OZ (ids : List Nat) : Option Nat → Bool
 | some k => ge ids k
 | none => false
def yK (l : List Oper) (σ : TS E.T) (ids : List Nat) (i : Nat) : Bool := match l[i]? with
 | some o => match o.op with
   | .store _ x _ => match tW Y E l σ l.length x with
     | some q => ge ids q.1
     | none => !(Bt σ.h).isEmpty
   | .call { callee := .builtin .append, args := xs, argTypes := _ } => xs.toList.any fun x => OZ ids (Pd Y E l σ x)
   | .call { callee := .value _, args := xs, argTypes := _ } => xs.toList.any fun x => OZ ids ((tW Y E l σ l.length x).map (·.1))
   | _ => false
 | none => false
def OK (l : List Oper) : Nat → List Nat → List Nat
 | 0, S => S
 | i + 1, S => OK l i (match tC S i, l[i]? with
   | true, some o => bf o ++ S
   | _, _ => S)
def mBf (l : List Oper) (cs2 : List Nat) (i : Nat) : Bool := match cs2 with
 | [] => true
 | c :: _ => tC (OK l (c + 1) [c]) i
def P4 (l : List Oper) (σ : TS E.T) (fl : List Bool) (mB : Nat → Bool) : List (Nat × Nat × Nat) := l.zipIdx.filterMap fun q => match mNf fl q.2 && mB q.2, q.1.op, q.1.dst with
 | true, .load _ y, some d => match tW Y E l σ l.length y with
   | some (k, p) => match look σ.h k with
     | some (.cs cs) => match cs[p]? with
       | some c => match Cy (.a c : TV E.T) with
         | true => none
         | false => some (d, k, p)
       | none => none
     | _ => none
   | none => none
 | _, _, _ => none
def zu (σ : TS E.T) (op : Op) (kk p : Nat) : Option (TA E.T) := match op with
 | .load t x => match opT σ x, look Y.ty t, look σ.h kk with
   | some (.a (.box k2 p2)), some dsc, some (.cs cs) => match Nat.beq k2 kk && Nat.beq p2 p && gC dsc with
     | true => cs[p]?
     | false => none
   | _, _, _ => none
 | _ => none
def mvN (l : List Oper) (fl : List Bool) (σ : TS E.T) (op : Op) : Option (TV E.T) := match op with
 | .move (.tmp s) => match l.zipIdx.all fun q => !mNf fl q.2 || !(ut s q.1) with
   | true => opT σ (.tmp s)
   | false => none
 | _ => none
def wi {T : Nat → Type} (mB : Nat → Bool) (i : Nat) (σ : TS T) : TS T := match mB i with
 | true => σ
 | false => σ.withB []
def evN (l : List Oper) (fl : List Bool) (mB : Nat → Bool) (ld : List (Nat × Nat × Nat)) : Nat → List Oper → TS E.T → Tree (TS E.T)
 | _, [], σ => .leaf σ
 | k, o :: rest, σ => match mNf fl k with
   | false => evN l fl mB ld (k + 1) rest σ
   | true => match o.dst, o.guard with
     | some d, none => match Nat.ble (d + 1) σ.n with
       | true => match qC ld d with
         | some (_, kk, p) => match mB k, zu Y E σ o.op kk p with
           | true, some c => evN l fl mB ld (k + 1) rest (σ.put d (.a c.rd))
           | _, _ => .fail
         | none => match mvN E l fl σ o.op with
           | some u => evN l fl mB ld (k + 1) rest (σ.put d u.rd)
           | none => match evP Y E G (wi mB k σ) o.op o.type with
             | .one u => match Cy u with
               | true => evN l fl mB ld (k + 1) rest (σ.put d u)
               | false => .fail
             | .opt z u => .bnd z fun x => match Cy (u x) with
               | true => evN l fl mB ld (k + 1) rest (σ.put d (u x))
               | false => .fail
             | .bad => .fail
       | false => .fail
     | _, _ => .fail
def evE (all : Bool) (o : Oper) (σ : TS E.T) : Tree (OL E.T) :=
 match o.guard with
 | some _ => .fail
 | none => match o.op with
   | .call { callee := .value (.func f), args := xs, argTypes := ats } => match yy G.x f, o.dst with
     | true, some d => match Nat.ble (d + 1) σ.n, pt σ xs.toList with
       | true, some us => wT σ d (wF G.x f (cN E [] us) σ.h)
       | _, _ => .fail
     | false, some d => match Nat.ble (d + 1) σ.n with
       | true => (ka Y E G σ d o.op o.type).bind fun σ' => .leaf (.st σ')
       | false => .fail
     | _, _ => .fail
   | op => match all, o.dst with
     | true, _ => match Dt G.mu σ o with
       | false => (qM Y E G o σ).bind fun σ' => .leaf (.st σ')
       | true => .fail
     | false, some d => match Nat.ble (d + 1) σ.n with
       | true => (ka Y E G σ d op o.type).bind fun σ' => .leaf (.st σ')
       | false => .fail
     | false, none => .fail
def IT (all : Bool) (n : Nat) (l : List Oper) : List Nat → TS E.T → Tree (OL E.T)
 | [], σ => .leaf (.st σ)
 | c :: cs, σ => match Nat.beq σ.n n, l[c]? with
   | true, some o => (evE Y E G all o σ).bind (vP (IT all n l cs))
   | _, _ => .fail
def TS.alsA {T : Nat → Type} (σ : TS T) (m : List (Nat × Nat)) : TS T := { n := σ.n, t := σ.t, h := σ.h, e := m.map (fun p => (p.1, Root.s p.2)) ++ σ.e }
def TS.alcT {T : Nat → Type} (σ : TS T) (ld : List (Nat × Nat × Nat)) : TS T := { n := σ.n, t := σ.t, h := σ.h, e := ld.map (fun p => (p.1, Root.c p.2.1 p.2.2)) ++ σ.e }
def TS.ownE {T : Nat → Type} (σ : TS T) : TS T := { n := σ.n, t := σ.t, h := σ.h, e := σ.e.filter fun p => (σ.ownAt p.2).isSome }
def Ec (l : List Oper) (fl : List Bool) (ld : List (Nat × Nat × Nat)) : Bool := decide (ld.map (·.1)).Nodup && ld.all fun p => l.zipIdx.any fun q => mNf fl q.2 && ut p.1 q.1
def rM {T : Nat → Type} (h : List (Nat × TB T)) (ids : List Nat) : Bool := ids.all fun k => (look h k).isSome
def N3 {L : Type} : List (Tree L) → Tree L
 | [] => .fail
 | [t] => t
 | t :: r => .nl ([] : List Nat) t (N3 r)
def evA (o : Oper) (σ : TS E.T) : Tree (OL E.T) :=
 match o.guard with
 | some _ => .fail
 | none => match o.op with
   | .call { callee := .value (.func f), args := xs, argTypes := ats } => match yy G.x f, o.dst with
     | true, some d => match Nat.ble (d + 1) σ.n, pt σ xs.toList with
       | true, some us => wT σ d (wF G.x f (cN E [] us) σ.h)
       | _, _ => .fail
     | _, _ => (qM Y E G o σ).bind fun σ' => .leaf (.st σ')
   | _ => (qM Y E G o σ).bind fun σ' => .leaf (.st σ')
def FN (n0 : Nat) (l : List Oper) : Nat → List Nat → TS E.T → Tree (OL E.T)
 | 0, done, σ => match o5 l done with
   | [] => .leaf (.st σ)
   | _ => .fail
 | n + 1, done, σ => match o5 l done with
   | [] => .leaf (.st σ)
   | is => N3 (is.map fun i => match Nat.beq σ.n n0, l[i]? with
     | true, some o => (evA Y E G o σ).bind (vP (FN n0 l n (i :: done)))
     | _, _ => .fail)
def Ln (ops : List Oper) (σ : TS E.T) : Tree (OL E.T) :=
 match Nat.ble ops.length 10 with
 | true => FN Y E G σ.n ops ops.length [] σ
 | false => .fail
def AF (n : Nat) (l : List Oper) : List Nat → TS E.T → Tree (OL E.T)
 | [], σ => .leaf (.st σ)
 | c :: cs, σ => match Nat.beq σ.n n, l[c]? with
   | true, some o => (evA Y E G o σ).bind (vP (AF n l cs))
   | _, _ => .fail
def EP (ops : List Oper) (σ : TS E.T) (fl : List Bool) (ids cs1 cs2 : List Nat) (ld : List (Nat × Nat × Nat)) : Tree (OL E.T) :=
 match NL ops (mNf fl) (cs1 ++ cs2) && rM σ.h ids && Ec ops fl ld with
 | true => (evN Y E G ops fl (mBf ops cs2) ld 0 ops (σ.withB (inH ids σ.h))).bind fun σN =>
   (IT Y E G false σ.n ops cs1 ((σN.withB (xl ids σ.h)).alsA (jz ops (mNf fl) 0 ops))).bind (vP fun σ1 =>
    match rM σ.h (σ1.h.map (·.1)) && (σ1.h.all fun p => !ge ids p.1) && (nvH σ1.h && nvH (xl ids σ.h)) with
    | true => AF Y E G σ.n ops cs2 ((σ1.withB (σ1.h ++ inH ids σ.h)).alcT ld).ownE
    | false => .fail)
 | false => Ln Y E G ops σ
def O9 (ops : List Oper) (σ : TS E.T) (fl : List Bool) (ids ch : List Nat) : Tree (OL E.T) :=
 EP Y E G ops σ fl ids (ch.takeWhile fun i => !yK Y E ops σ ids i) (ch.dropWhile fun i => !yK Y E ops σ ids i) (P4 Y E ops σ fl (mBf ops (ch.dropWhile fun i => !yK Y E ops σ ids i)))
def JQ (ops : List Oper) (σ : TS E.T) : Tree (OL E.T) :=
 match σ.e with
 | [] => O9 Y E G ops σ (C9 (yy G.x) (bs0 ops) G.mu (Ls Y E ops σ) ops ops []) (Mo Y E ops σ (C9 (yy G.x) (bs0 ops) G.mu (Ls Y E ops σ) ops ops []) ++ Bt σ.h) (vk 0 (C9 (yy G.x) (bs0 ops) G.mu (Ls Y E ops σ) ops ops []))
 | _ => .fail
def evR (ops : List Oper) (draw : Bool) (σ : TS E.T) : Tree (OL E.T) :=
 match draw with
 | false => jd Y E G ops ops σ
 | true => match tb (yy G.x) (bs0 ops) G.mu ops, σ.e with
   | (_, []), [] => match ED ops with
     | true => (qO Y E G ops ops σ).bind fun σ' => .leaf (.st σ')
     | false => .fail
   | (body, om :: after), [] => match yT ops body om after with
     | true => (qO Y E G ops body σ).bind fun σ' => jd Y E G ops (om :: after) (σ'.alsT (cW body))
     | false => match after with
       | oa :: after => match O6 ops body om oa after with
         | true => F7 Y E G ops body om oa after σ
         | false => JQ Y E G ops σ
       | [] => JQ Y E G ops σ
   | _, _ => .fail
end
section
variable {P : Program} {Y : Tys P} {E : Env} {G : Gam E} {ρ : Rn} {σ : TS E.T} {Q : Exit → AS → Prop} {ks : List It} {l : List Oper} {k : Nat} {o : Oper} {rest : List Oper}
theorem jZ {d : Nat} {b : Bool} {x : TA E.T} (hx : x.to E.toEnc ρ = .v (.bool b)) (hl : look σ.t d = some (.a (.d .bool b))) : kI (σ.to E.toEnc ρ) ((σ.know d x).to E.toEnc ρ) := fun F X tm hs => by
 refine hs.le2 rfl (fun t u' hu => ⟨u', ?_, .refl _⟩) (fun q cs' hq => ⟨cs', hq, LeL.refl _⟩) (fun p hp => hp)
 have e : ((σ.know d x).to E.toEnc ρ).t = (d, x.to E.toEnc ρ) :: tTo E.toEnc ρ σ.t := rfl
 rw [e, ab] at hu
 split at hu
 ·rename_i e2; subst e2
  simp only [TS.to, aQ, hl]
  rw [hx] at hu
  cases hu; rfl
 ·exact hu
theorem ur (h : mK l σ o = .yes) : aL l (σ.to E.toEnc ρ) o = some true := by
 unfold mK at h
 unfold aL
 split at h
 ·rename_i hg; rw [hg]
 ·rename_i j want hg
  rw [hg]
  split at h
  ·rename_i d hd
   simp only [hd]
   split at h
   ·rename_i hn
    have hlt := aJ hn
    rw [if_pos (show d < (σ.to E.toEnc ρ).n from hlt)]
    split at h
    ·rename_i hl
     simp only [TS.to, aQ, hl]
     cases want <;> first | rfl | cases h
    ·rename_i hl
     simp only [TS.to, aQ, hl]
     cases want <;> first | rfl | cases h
    ·cases h
    ·cases h
    ·cases h
   ·cases h
  ·cases h
theorem wQ (h : mK l σ o = .no) : aL l (σ.to E.toEnc ρ) o = some false := by
 unfold mK at h
 unfold aL
 split at h
 ·cases h
 ·rename_i j want hg
  rw [hg]
  split at h
  ·rename_i d hd
   simp only [hd]
   split at h
   ·rename_i hn
    have hlt := aJ hn
    rw [if_pos (show d < (σ.to E.toEnc ρ).n from hlt)]
    split at h
    ·rename_i hl
     simp only [TS.to, aQ, hl]
     cases want <;> first | rfl | cases h
    ·rename_i hl
     simp only [TS.to, aQ, hl]
     cases want <;> first | rfl | cases h
    ·cases h
    ·cases h
    ·cases h
   ·cases h
  ·cases h
theorem Co (h : mK l σ o = .nor) : mc l (σ.to E.toEnc ρ) o = true := by
 unfold mK at h
 unfold mc
 split at h
 ·cases h
 ·rename_i j want hg
  rw [hg]
  split at h
  ·rename_i d hd
   simp only [hd]
   split at h
   ·rename_i hn
    have hlt := aJ hn
    split at h
    ·cases want <;> cases h
    ·cases want <;> cases h
    ·cases h
    ·rename_i xs hl
     simp only [TS.to, aQ, hl, Option.map_some, TV.to, TA.to]
     exact decide_eq_true hlt
    ·cases h
   ·cases h
  ·cases h
theorem l4 {b want : Bool} {d : Nat} (h : mK l σ o = .sym b want d) : look σ.t d = some (.a (.d .bool b)) ∧ ∀ (c : Bool) (x : TA E.T), (∀ ρ, x.to E.toEnc ρ = .v (.bool c)) → aL l ((σ.know d x).to E.toEnc ρ) o = some (c == want) := by
 unfold mK at h
 unfold aL
 split at h
 ·cases h
 ·rename_i j want' hg
  rw [hg]
  split at h
  ·rename_i d' hd
   split at h
   ·rename_i hn
    have hlt := aJ hn
    split at h
    ·cases want' <;> cases h
    ·cases want' <;> cases h
    ·rename_i b' hl
     cases h
     refine ⟨hl, fun c x hx => ?_⟩
     simp only [hd]
     rw [if_pos (show d < ((σ.know d x).to E.toEnc ρ).n from hlt)]
     have e : look ((σ.know d x).to E.toEnc ρ).t d = some (.v (.bool c)) := by
      show look ((d, x.to E.toEnc ρ) :: tTo E.toEnc ρ σ.t) d = _
      rw [ah, hx]
     rw [e]
    ·cases h
    ·cases h
   ·cases h
  ·cases h
theorem sw (hi : Inj ρ σ.h) (ho : l[k]? = some o) (hw : aL l (σ.to E.toEnc ρ) o = some false) (h : (jS E σ o).holds (On P E Q ρ (.o l (k + 1) rest :: ks))) : aA P Q (.o l k (o :: rest) :: ks) (σ.to E.toEnc ρ) := by
 unfold jS at h
 split at h
 ·rename_i d hd
  split at h
  ·rename_i hn
   refine fe ho hw hd hn ?_
   have := h ρ hi (Agr.refl ρ)
   rw [bd] at this
   exact this
  ·cases h
 ·cases h
theorem Fh (hi : Inj ρ σ.h) (ho : l[k]? = some o) (hw : mc l (σ.to E.toEnc ρ) o = true) (h : (jS E σ o).holds (On P E Q ρ (.o l (k + 1) rest :: ks))) : aA P Q (.o l k (o :: rest) :: ks) (σ.to E.toEnc ρ) := by
 unfold jS at h
 split at h
 ·rename_i d hd
  split at h
  ·rename_i hn
   refine vW ho hw hd hn ?_
   have := h ρ hi (Agr.refl ρ)
   rw [bd] at this
   exact this
  ·cases h
 ·cases h
def zx (P : Program) (Q : Exit → AS → Prop) (ks : List It) (v : Value) : Prop := ∀ n, Stk P Q ks (.panic [{ v := v, recovered := false }]) ⟨n, [], [], []⟩
theorem zx.toK {v : Value} {σ : AS} (h : zx P Q ks v) : DO P Q ks v σ := ⟨[], [], fun _ _ h => (by simp [av] at h), fun _ _ h => (by simp [av] at h), h _⟩
def OnX (P : Program) (E : Env) (Q : Exit → AS → Prop) (ρ : Rn) (its ks : List It) : OL E.T → Prop
 | .st σ => On P E Q ρ its σ
 | .pan v => zx P Q ks v
theorem qf {T : Nat → Type} {h : List (Nat × TB T)} : ∀ {ids : List Nat}, cA h ids = true → ∀ i ∈ ids, ∃ b, look h i = some b
 | [], _, i, hi => by cases hi
 | j :: r, hg, i, hi => by
   simp only [cA] at hg
   split at hg
   ·rename_i b hb hm
    rcases List.mem_cons.1 hi with rfl | hi
    ·exact ⟨b, hb⟩
    ·exact qf hg i hi
   ·cases hg
theorem jK (hi : Inj ρ σ.h) (ids : List Nat) : ∀ k cs, look (hTo E.toEnc ρ (bG σ.h ids)) k = some cs → look (σ.to E.toEnc ρ).h k = some cs := fun k cs hk => by
 obtain ⟨i, b, h1, h2, h3, h4⟩ := fh (hi.sub fun p hp => let ⟨q, q1, q2, q3⟩ := i6 p hp; ⟨q, q1, q2, q3 ρ⟩) hk
 rw [← h1, ← h3]
 exact bD E.toEnc hi (jj h2) h4
theorem lD (hi : Inj ρ σ.h) (ids : List Nat) : ∀ k cs, look (hTo E.toEnc ρ (dropHH ids σ.h)) k = some cs → look (σ.to E.toEnc ρ).h k = some cs ∧ look (hTo E.toEnc ρ (bG σ.h ids)) k = none := fun k cs hk => by
 obtain ⟨i, b, h1, h2, h3, h6⟩ := fh (hi.sub fun p hp => ⟨p, dW p hp, rfl, rfl⟩) hk
 obtain ⟨h4, h5⟩ := fH h2
 refine ⟨by rw [← h1, ← h3]; exact bD E.toEnc hi h4 h6, ?_⟩
 cases hn : look (hTo E.toEnc ρ (bG σ.h ids)) k with
 | none => rfl
 | some cs' =>
   obtain ⟨j, b', m1, m2, m3, m6⟩ := fh (hi.sub fun p hp => let ⟨q, q1, q2, q3⟩ := i6 p hp; ⟨q, q1, q2, q3 ρ⟩) hn
   obtain ⟨m4, m5⟩ := gX m2
   have := (hi _ (bl h4) _ (bl m4)).1 h6 m6 (h1.trans m1.symm)
   simp only at this
   subst this
   exact absurd m5 h5
theorem gY : ∀ (n : Nat) (σ : AS), bK (List.replicate n none) σ = σ
 | 0, _ => rfl
 | n + 1, σ => gY n σ
theorem wx {T : Nat → Type} {h : List (Nat × TB T)} : ∀ {ids : List Nat}, nvH (bG h ids) = true → ∀ i ∈ ids, ∀ b, look h i = some b → b.nv = true
 | [], _, i, hi, _, _ => by cases hi
 | k :: ks, hn, i, hi, b, hb => by
   simp only [bG] at hn
   cases hl : look h k with
   | none =>
     rw [hl] at hn
     rcases List.mem_cons.1 hi with rfl | hi
     ·rw [hl] at hb; cases hb
     ·exact wx hn i hi b hb
   | some b' =>
     rw [hl] at hn
     simp only [nvH, List.all_cons, Bool.and_eq_true] at hn
     rcases List.mem_cons.1 hi with rfl | hi
     ·rw [hl] at hb; cases hb; exact hn.1
     ·exact wx hn.2 i hi b hb
theorem wK {ids : List Nat} {h' : List (Nat × TB E.T)} (hi : Inj ρ σ.h) (hg : cA σ.h ids = true) (hk : nvH (bG σ.h ids) = true) (hv : nvH h' = true) (hm : h'.map (·.1) = ids) : Inj ρ (σ.give ids h').h := hi.sub fun p hp => by
 rcases List.mem_append.1 hp with hp | hp
 ·have : p.1 ∈ ids := hm ▸ List.mem_map_of_mem hp
  obtain ⟨b, hb⟩ := qf hg _ this
  exact ⟨_, bl hb, rfl, by rw [v8 hv hp, rt (wx hk _ this b hb)]⟩
 ·exact ⟨p, dW p hp, rfl, rfl⟩
theorem AR (ids : List Nat) (h' : List (Nat × TB E.T)) : (σ.give ids h').to E.toEnc ρ = bY (σ.to E.toEnc ρ) [] (hTo E.toEnc ρ (dropHH ids σ.h)) (hTo E.toEnc ρ h') := by
 unfold bY TS.give TS.to
 simp only [bK, AS.dropC]
 congr 1
 ·exact nA _ _ _ _
 ·exact (ev σ.e).symm
theorem eN {σ : AS} {n : Nat} {Hr H' : List (Nat × List AV)} : bY σ (List.replicate n none) Hr H' = bY σ [] Hr H' := by
 unfold bY
 rw [gY]; rfl
theorem eU : ∀ n, gr (List.replicate n none) = true
 | 0 => rfl
 | n + 1 => eU n
theorem iN : ∀ n, gL (List.replicate n none) = true
 | 0 => rfl
 | n + 1 => iN n
theorem jL {σ : AS} : ∀ {xs : List Operand} {us0 us : List AV}, n9 σ xs = some us0 → LeL us0 us → us.all (fun u => (bw (some u)).isNone) = true → PArgs σ xs us (List.replicate us.length none)
 | [], us0, us, h, hl, hp => by
   cases h
   cases hl
   exact .nil
 | x :: xs, us0, us, h, hl, hp => by
   simp only [n9] at h
   split at h
   ·rename_i u us1 h1 h2
    cases h
    cases hl with
    | cons hu hr =>
      simp only [List.all_cons, Bool.and_eq_true] at hp
      exact .cons (.rd h1 hu (by simpa using hp.1)) (jL h2 hr hp.2)
   ·cases h
theorem u4 {d : Nat} {f : FuncId} {us : List (TV E.T)} {x : XR E.T} (hi : Inj ρ σ.h) (hx : x.ok P f us σ.h)
  (run : ∀ {post : AOut → List (Nat × List AV) → Prop} {ids : List Nat}, cA σ.h ids = true → ak P f (us.map (TV.to E.toEnc ρ)) (hTo E.toEnc ρ (bG σ.h ids)) post → (∀ out H', post out H' → (∀ k cs, look H' k = some cs → look (hTo E.toEnc ρ (dropHH ids σ.h)) k = none) → n5 P Q ks l k rest d (bY (σ.to E.toEnc ρ) [] (hTo E.toEnc ρ (dropHH ids σ.h)) H') out) → aA P Q (.o l k (o :: rest) :: ks) (σ.to E.toEnc ρ))
  (h : (tG σ d x).holds (OnX P E Q ρ (.o l (k + 1) rest :: ks) ks)) : aA P Q (.o l k (o :: rest) :: ks) (σ.to E.toEnc ρ) := by
 have goOn : ∀ {ids : List Nat} {h' : List (Nat × TB E.T)} {u : TV E.T}, cA σ.h ids = true → nvH (bG σ.h ids) = true → nvH h' = true → h'.map (·.1) = ids → On P E Q ρ (.o l (k + 1) rest :: ks) ((σ.give ids h').put d u) → n5 P Q ks l k rest d (bY (σ.to E.toEnc ρ) [] (hTo E.toEnc ρ (dropHH ids σ.h)) (hTo E.toEnc ρ h')) (.ret (u.to E.toEnc ρ)) := fun {ids h' u} hg hk hv hm hq => by
  have := hq ρ (wK hi hg hk hv hm) (Agr.refl ρ)
  rw [bd, AR] at this
  exact this
 cases x with
 | bad => cases h
 | ret ov ids u hh =>
   unfold tG at h
   simp only at h
   split at h
   ·rename_i hg
    rw [Bool.and_eq_true] at hg
    obtain ⟨hg, hk⟩ := hg
    obtain ⟨z, hz, h⟩ := h
    obtain ⟨hm, hc⟩ := hx z hz
    refine run hg (hc ρ hi) ?_
    rintro out H' ⟨rfl, rfl⟩ _
    simp only at h
    split at h
    ·rename_i hv; exact goOn hg hk hv hm h
    ·cases h
   ·cases h
 | may ov ids u hh =>
   unfold tG at h
   simp only at h
   split at h
   ·rename_i hg
    rw [Bool.and_eq_true] at hg
    obtain ⟨hg, hk⟩ := hg
    obtain ⟨p, hp, h⟩ := h
    obtain ⟨hm, hc⟩ := hx p hp
    refine run hg (hc ρ hi) ?_
    intro out H' ho _
    cases p with
    | ok z =>
      obtain ⟨rfl, rfl⟩ := ho
      have h1 := h.1 z rfl
      simp only at h1
      split at h1
      ·rename_i hv; exact goOn hg hk hv (hm z rfl) h1
      ·cases h1
    | pan v =>
      subst ho
      exact zx.toK (h.2 v rfl)
   ·cases h
 | mv ov ids mvs nw u hh =>
   unfold tG at h
   simp only at h
   split at h
   ·rename_i hg
    simp only [Bool.and_eq_true] at hg
    obtain ⟨⟨hg, hok⟩, hq⟩ := hg
    obtain ⟨p, hp, h⟩ := h
    refine run hg (hx p hp ρ hi) ?_
    intro out H' ho hdis
    cases p with
    | pan v =>
      subst ho
      exact zx.toK (h.2 v rfl)
    | ok z =>
      obtain ⟨ρ', h1, rfl, rfl, h4⟩ := ho
      have h5 := h.1 z rfl
      simp only at h5
      split at h5
      ·rename_i hP
       rw [Bool.and_eq_true] at hP
       have hname := E8 (ρ := ρ) (ρ' := ρ') hok h1
       have hinj := HZ hok
       have hrest := xg (ρ := ρ) (ρ' := ρ') (mv := mvs) (nw := nw) (d := d)
       have hI1 : Inj (mvR ρ ρ' mvs nw d) (mF (nmN nw d) (hh z)) := oz hname hinj hP.2 h4
       have hI2 : Inj ρ (dropHH ids σ.h) := hi.sub fun p hp => ⟨p, dW p hp, rfl, rfl⟩
       have e2 : hTo E.toEnc (mvR ρ ρ' mvs nw d) (dropHH ids σ.h) = hTo E.toEnc ρ (dropHH ids σ.h) := vd hrest hq
       have e1 : hTo E.toEnc (mvR ρ ρ' mvs nw d) (mF (nmN nw d) (hh z)) = hTo E.toEnc ρ' (hh z) := oc hname hP.2
       have hin : Inj (mvR ρ ρ' mvs nw d) (σ.giveM ids mvs nw d (mF (nmN nw d) (hh z))).h := by
        intro x hx1 y hy1
        have hrb : ∀ q ∈ dropHH ids σ.h, (mvR ρ ρ' mvs nw d) q.1 = ρ q.1 ∧ aG (mvR ρ ρ' mvs nw d) q.2 = aG ρ q.2 := fun q hq1 => by
         have := List.all_eq_true.1 hq q hq1
         simp only [Bool.and_eq_true] at this
         exact ⟨by unfold Rn.b; rw [hrest _ this.1], pE hrest this.2⟩
        have cross : ∀ x ∈ mF (nmN nw d) (hh z), ∀ y ∈ dropHH ids σ.h, (aG (mvR ρ ρ' mvs nw d) x.2 = true → aG (mvR ρ ρ' mvs nw d) y.2 = true → (mvR ρ ρ' mvs nw d) x.1 ≠ (mvR ρ ρ' mvs nw d) y.1) ∧ x.1 ≠ y.1 := fun x hx y hy => by
         constructor
         ·intro l1 l2 e
          have m1 : ∃ cs, look (hTo E.toEnc ρ' (hh z)) ((mvR ρ ρ' mvs nw d) x.1) = some cs := by
           rw [← e1]
           exact lR (rk hx l1)
          obtain ⟨cs, m1⟩ := m1
          have m2 := hdis _ _ m1
          rw [e, ← e2] at m2
          obtain ⟨cs2, m3⟩ := lR (rk (E := E.toEnc) (ρ := mvR ρ ρ' mvs nw d) hy l2)
          rw [m2] at m3; cases m3
         ·intro e
          obtain ⟨x0, k1, rfl⟩ := oG hx
          have ix := List.all_eq_true.1 hP.2 x0 k1
          have iy := List.all_eq_true.1 hq y hy
          simp only [Bool.and_eq_true] at ix iy
          have hyn : y.1 ∉ ids := nK hy
          have hfy : kc d nw y.1 = false := by
           have := iy.1
           unfold mvQ at this
           rw [Bool.and_eq_true] at this
           simpa using this.2
          simp only at e
          cases hn : li nw x0.1 with
          | true =>
            have hr := jP.1 hn
            have : nmN nw d x0.1 = 400000 + 16 * d + (x0.1 - 300000) := by unfold nmN; rw [hn]
            have hf : kc d nw y.1 = true := l9.2 (by rw [← e, this]; omega)
            rw [hfy] at hf; cases hf
          | false =>
            have : nmN nw d x0.1 = x0.1 := by unfold nmN; rw [hn]
            have hid : x0.1 ∈ ids := by
             have := ix.1
             unfold mvP at this
             rw [Bool.or_eq_true, hn] at this
             exact cm.1 (this.resolve_right (by decide))
            rw [this] at e
            exact hyn (e ▸ hid)
        rcases List.mem_append.1 hx1 with hx1 | hx1 <;> rcases List.mem_append.1 hy1 with hy1 | hy1
        ·exact hI1 x hx1 y hy1
        ·obtain ⟨c1, c2⟩ := cross x hx1 y hy1
         exact ⟨fun l1 l2 e => absurd e (c1 l1 l2), fun e => absurd e c2⟩
        ·obtain ⟨c1, c2⟩ := cross y hy1 x hx1
         exact ⟨fun l1 l2 e => absurd e.symm (c1 l2 l1), fun e => absurd e.symm c2⟩
        ·obtain ⟨a1, a2⟩ := hrb x hx1
         obtain ⟨b1, b2⟩ := hrb y hy1
         rw [a1, a2, b1, b2]
         exact hI2 x hx1 y hy1
       have h6 := h5 (mvR ρ ρ' mvs nw d) hin (Jx hok)
       rw [bd, TV.ren_to hname hP.1] at h6
       refine xJ ?_
       refine fg rfl (fun F X tm hs => ?_) h6
       have hs' := hs
       refine hs.le2 rfl (fun t u' hu => ⟨u', ?_, .refl _⟩) (fun q cs' hq => ⟨cs', ?_, LeL.refl _⟩) (fun p hp => ?_)
       ·show look (((bY (σ.to E.toEnc ρ) [] (hTo E.toEnc ρ (dropHH ids σ.h)) (hTo E.toEnc ρ' (hh z))).put d ((u z).to E.toEnc ρ')).t) t = some u'
        simp only [AS.put, ab] at hu ⊢
        split at hu
        ·rename_i e; rw [if_pos e]; exact hu
        ·rename_i e
         rw [if_neg e]
         have hu' : look (tTo E.toEnc (mvR ρ ρ' mvs nw d) (qp (fun u => u.ids (mvQ mvs nw d)) [] σ.t)) t = some u' := hu
         rw [aQ] at hu'
         obtain ⟨v, hv, rfl⟩ := Option.map_eq_some_iff.1 hu'
         obtain ⟨q1, q2, _⟩ := nL hv
         show look (tTo E.toEnc ρ σ.t) t = _
         rw [aQ, q1, Option.map_some, TV.ids_to hrest q2]
       ·show look ((hTo E.toEnc ρ' (hh z)) ++ hTo E.toEnc ρ (dropHH ids σ.h)) q = some cs'
        have hq' : look (hTo E.toEnc (mvR ρ ρ' mvs nw d) (mF (nmN nw d) (hh z) ++ dropHH ids σ.h)) q = some cs' := hq
        rw [nA, e1, e2] at hq'
        exact hq'
       ·obtain ⟨hp1, hp2⟩ := List.mem_filter.1 hp
        refine List.mem_filter.2 ⟨?_, hp2⟩
        have hp1' : p ∈ eTo (mvR ρ ρ' mvs nw d) (gN σ.e) := hp1
        obtain ⟨q, hq1, rfl⟩ := List.mem_map.1 hp1'
        have hq2 := (List.mem_filter.1 hq1).2
        show _ ∈ (σ.to E.toEnc ρ).dropC.e
        have e4 : (σ.to E.toEnc ρ).dropC.e = eTo ρ (gN σ.e) := ev σ.e
        rw [e4]
        refine List.mem_map.2 ⟨q, hq1, ?_⟩
        obtain ⟨a, b⟩ := q
        cases b with
        | s t => rfl
        | c k o => cases hq2
      ·cases h5
   ·cases h
theorem Is {u : TV E.T} {v : Value} (h : NE E u = some v) : Dl (u.to E.toEnc ρ) = some v := by
 unfold NE at h
 split at h
 ·rename_i hu
  rw [TV.ids_to (ρ := Rn.zero) (ρ' := ρ) (fun i e => by cases e) hu]
  exact h
 ·cases h
theorem wO {σ : AS} {op : BinOp} {neg : Bool} (hop : (op = .eql ∧ neg = false) ∨ (op = .neq ∧ neg = true)) {d : Nat} {t ty yt e : TypeId} {x y : Operand} {pos : String} {af : Array Edge} {g : Option (Nat × Bool)} {C : Prop} (ht : P.underlying t = some (.slice e)) (hx : ∀ F X (a : Act), SimE F X σ a.tmps → ∃ (ad : Option Addr) (n c : Nat), a.eval x = .slice ad n c ∧ (ad.isNone = true → C)) (hy : opV σ y = some (.v (.slice none 0 0))) (hd : Nat.ble (d + 1) σ.n = true) {R : AS → Prop} (hR : ∀ b, (b = true → C) → R (σ.put d (.v (.bool (b != neg))))) : bB P ⟨some d, .binOp op t x y yt, ty, pos, af, g⟩ σ R := by
 intro F X a hs
 have h2 := ax (hs.r (.binOp op t x y yt)) (by simp [Op.operands]) hy
 obtain ⟨ad, n, c, e1, e2⟩ := hx F X a hs
 have hrun : (execOp a.eval ⟨some d, .binOp op t x y yt, ty, pos, af, g⟩).run P X.w = .ok (.value (.bool (ad.isNone != neg))) X.w := by
  simp only [execOp, e1, h2]
  refine aC ?_
  have q := Lib.run_eql_slice_nil X.w t e ad n c 0 0 ht
  rcases hop with ⟨rfl, rfl⟩ | ⟨rfl, rfl⟩
  ·simp [eqGuard, q, go_sem]
  ·have q' : (Op.equal t (.slice ad n c) (.slice none 0 0)).run P X.w = .ok ad.isNone X.w := by
    simp [Op.equal, Op.maxDepth, Lib.run_equalIn_slice_nil X.w 9999 t e ad n c 0 0 ht]
   simp [eqGuard, binOp, go_sem, q']
 unfold fo
 rw [hrun]
 refine ⟨X, _, rfl, hR ad.isNone e2, ?_, Ext.refl F X⟩
 exact hs.put_new (aJ hd) (New.refl X) hs.gb (.v _) (FreshOk.plain rfl)
theorem ri {σ : AS} {op : BinOp} {neg : Bool} (hop : (op = .eql ∧ neg = false) ∨ (op = .neq ∧ neg = true)) {d : Nat} {t ty yt e : TypeId} {x y : Operand} {pos : String} {af : Array Edge} {g : Option (Nat × Bool)} {ow : Bool} {sz : Nat} {L : List (List AV)} (ht : P.underlying t = some (.slice e)) (hx : opV σ x = some (.sl ow sz L)) (hy : opV σ y = some (.v (.slice none 0 0))) (hd : Nat.ble (d + 1) σ.n = true) {R : AS → Prop} (hR : ∀ b, (b = true → L = []) → R (σ.put d (.v (.bool (b != neg))))) : bB P ⟨some d, .binOp op t x y yt, ty, pos, af, g⟩ σ R := by
 refine wO hop ht (fun F X a hs => ?_) hy hd hR
 have h1 := bg (hs.r (.binOp op t x y yt)) (by simp [Op.operands]) hx
 generalize a.eval x = v at h1
 cases h1 with
 | nl _ _ ad c => exact ⟨ad, 0, c, rfl, fun _ => rfl⟩
 | sl _ _ _ b off cap n c hg hn hc hs' hm hr => exact ⟨_, _, _, rfl, fun h => by cases h⟩
theorem Io {y : Operand} {ty : Ty} {k off n : Nat} (hy : uK (opT σ y) = some (ty, k, off, n)) : ∀ F X (a : Act), SimE F X (σ.to E.toEnc ρ) a.tmps → ∃ (ad : Option Addr) (m c : Nat), a.eval y = .slice ad m c ∧ (ad.isNone = true → n = 0) := by
 intro F X a hs
 have key : ∀ v, opV (σ.to E.toEnc ρ) y = some (.v v) → a.eval y = v := fun v h => bj (aT hs h)
 unfold uK at hy
 split at hy
 ·rename_i t' k' off' n' hx
  cases hy
  have e := key _ (am (ρ := ρ) hx)
  rw [e]
  unfold kK
  split
  ·rename_i hc
   rw [Bool.and_eq_true] at hc
   have := Nat.eq_of_beq_eq_true hc.2
   exact ⟨_, _, _, rfl, fun _ => by omega⟩
  ·exact ⟨_, _, _, rfl, fun h => by cases h⟩
 ·rename_i t' k' n' hx
  cases hy
  have e := key _ (am (ρ := ρ) hx)
  rw [e]
  unfold vecV
  split
  ·rename_i hc
   rw [Bool.and_eq_true] at hc
   exact ⟨_, _, _, rfl, fun _ => Nat.eq_of_beq_eq_true hc.2⟩
  ·exact ⟨_, _, _, rfl, fun h => by cases h⟩
 ·cases hy
theorem yY {op : BinOp} {neg : Bool} (h : KG op = some neg) : (op = .eql ∧ neg = false) ∨ (op = .neq ∧ neg = true) := by
 cases op <;> cases h <;> simp
theorem GE (b neg : Bool) : (nilV b neg : TV E.T).to E.toEnc ρ = .v (.bool (b != neg)) := by
 cases b <;> cases neg <;> rfl
theorem zd (hi : Inj ρ σ.h) (hG : GOk P Y E G) (ho : l[k]? = some o) (hw : aL l (σ.to E.toEnc ρ) o = some true) (h : (evX Y E G o σ).holds (OnX P E Q ρ (.o l (k + 1) rest :: ks) ks)) : aA P Q (.o l k (o :: rest) :: ks) (σ.to E.toEnc ρ) := by
 have old : ((qM Y E G o σ).bind fun σ' => Tree.leaf (OL.st σ')).holds (OnX P E Q ρ (.o l (k + 1) rest :: ks) ks) → aA P Q (.o l k (o :: rest) :: ks) (σ.to E.toEnc ρ) := fun h => In (Y := Y) hi hG ho hw (aN h)
 obtain ⟨dst, op, ty, pos, af, g⟩ := o
 unfold evX at h
 simp only at h
 split at h
 ·rename_i d
  split at h
  ·rename_i hd
   split at h
   ·rename_i f xs ats
    split at h
    ·split at h
     ·rename_i us hx
      refine u4 hi (me hG.x f _ σ.h) (fun {post ids} hg hc hR => ?_) h
      have hpa := jL (fz (ρ := ρ) hx) (eK [] us (ee _ _)) (dg _ _)
      refine Cd rfl hc ho hw hpa (eU _) (fun kk oo hm => absurd (List.eq_of_mem_replicate hm) (by simp)) (jK hi ids) (fun kk cs hk => by rw [gY]; exact lD hi ids kk cs hk) hd ?_
      intro out H' hp hdis
      rw [eN]
      exact hR out H' hp hdis
     ·cases h
    ·exact old h
   ·rename_i s xs ats
    split at h
    ·rename_i f caps us hs hx
     split at h
     ·rename_i hcap
      refine u4 hi (me hG.x f _ σ.h) (fun {post ids} hg hc hR => ?_) h
      have hpa := jL (fz (ρ := ρ) hx) (eK [] us (ee _ _)) (dg _ _)
      have hcaps : (caps.map (TV.a)).map (TV.to E.toEnc ρ) = caps.map (TA.to E.toEnc ρ) := by simp only [List.map_map]; rfl
      rw [List.map_append, hcaps] at hc
      refine sA rfl (by simp only [TS.to, aQ, hs]; rfl) hc ho hw hpa ?_ (eU _) (iN _) (jK hi ids) (fun kk cs hk => lD hi ids kk cs hk) hd ?_
      ·rw [List.all_eq_true]
       intro u hu
       obtain ⟨x, hx1, rfl⟩ := List.mem_map.1 hu
       exact Option.isNone_iff_eq_none.2 (TA.plain_to _ _ (List.all_eq_true.1 hcap x hx1))
      ·intro out H' hp hdis
       rw [eN]
       exact hR out H' hp hdis
     ·cases h
    ·rename_i f is us hs hx
     refine u4 hi (me hG.x f _ σ.h) (fun {post ids} hg hc hR => ?_) h
     have hpa := jL (fz (ρ := ρ) hx) (eK [] us (ee _ _)) (dg _ _)
     have hcaps : (is.map fun i => (TV.a (.box i 0) : TV E.T)).map (TV.to E.toEnc ρ) = is.map fun i => AV.v (.pointer (some ⟨ρ i, 0, none⟩)) := by simp only [List.map_map]; rfl
     rw [List.map_append, hcaps] at hc
     refine sA rfl (by simp only [TS.to, aQ, hs]; rfl) hc ho hw hpa ?_ (eU _) (iN _) (jK hi ids) (fun kk cs hk => lD hi ids kk cs hk) hd ?_
     ·rw [List.all_eq_true]
      intro u hu
      obtain ⟨x, hx1, rfl⟩ := List.mem_map.1 hu
      rfl
     ·intro out H' hp hdis
      rw [eN]
      exact hR out H' hp hdis
    ·cases h
   ·rename_i op t x y yt
    split at h
    ·rename_i ty' l e hl hy ht
     obtain ⟨ow, hx⟩ := ll (ρ := ρ) hl
     refine dz ho hw (ri (.inl ⟨rfl, rfl⟩) (Y.tyOk _ _ ht) hx (am (ρ := ρ) hy) hd fun b hb => ?_)
     cases b with
     | true =>
       have := h.1 (by simpa using hb rfl) ρ hi (Agr.refl ρ)
       rw [bd] at this
       exact this
     | false =>
       have := h.2 ρ hi (Agr.refl ρ)
       rw [bd] at this
       exact this
    ·rename_i ty' l e hl hy ht
     obtain ⟨ow, hx⟩ := ll (ρ := ρ) hl
     refine dz ho hw (ri (.inr ⟨rfl, rfl⟩) (Y.tyOk _ _ ht) hx (am (ρ := ρ) hy) hd fun b hb => ?_)
     cases b with
     | true =>
       have := h.1 (by simpa using hb rfl) ρ hi (Agr.refl ρ)
       rw [bd] at this
       exact this
     | false =>
       have := h.2 ρ hi (Agr.refl ρ)
       rw [bd] at this
       exact this
    ·split at h
     ·rename_i ty' k' off n e neg hv hy ht hn
      split at h
      ·rename_i l hl
       refine dz ho hw (wO (C := n = 0) (yY hn) (Y.tyOk _ _ ht) (Io hv) (am (ρ := ρ) hy) hd fun b hb => ?_)
       rw [← GE (E := E) (ρ := ρ)]
       cases b with
       | true =>
         have := h.1 (by rw [hb rfl, List.take_zero]) ρ hi (Agr.refl ρ)
         rw [bd] at this
         exact this
       | false =>
         have := h.2 ρ hi (Agr.refl ρ)
         rw [bd] at this
         exact this
      ·cases h
     ·exact old h
   ·exact old h
  ·cases h
 ·split at h
  ·rename_i x
   split at h
   ·rename_i u hx
    split at h
    ·rename_i v hv
     exact DZ ho hw (am (ρ := ρ) hx) (Is hv) (zx.toK h)
    ·cases h
   ·cases h
  ·exact old h
theorem OnX.agr {its ks : List It} {ρ' : Rn} (ha : Agr ρ ρ') : ∀ {x : OL E.T}, OnX P E Q ρ its ks x → OnX P E Q ρ' its ks x
 | .st σ, h => fun ρ'' hi h' => h ρ'' hi (ha.trans h')
 | .pan v, h => h
theorem lS (hG : GOk P Y E G) (l : List Oper) : ∀ (rest : List Oper) (k : Nat) (σ : TS E.T) (ρ : Rn), (∀ (i : Nat) o, rest[i]? = some o → l[k + i]? = some o) → k + rest.length = l.length → Inj ρ σ.h → (jd Y E G l rest σ).holds (OnX P E Q ρ ks ks) → aA P Q (.o l k rest :: ks) (σ.to E.toEnc ρ)
 | [], k, σ, ρ, hl, hk, hi, h => vv (by simpa using hk) (h ρ hi (Agr.refl ρ))
 | o :: rest, k, σ, ρ, hl, hk, hi, h => by
   have ho : l[k]? = some o := by simpa using hl 0 o rfl
   have hl' : ∀ (i : Nat) o', rest[i]? = some o' → l[k + 1 + i]? = some o' := fun i o' hq => by
    have := hl (i + 1) o' (by simpa using hq)
    rw [show k + 1 + i = k + (i + 1) by omega]; exact this
   have hk' : k + 1 + rest.length = l.length := by simp only [List.length_cons] at hk; omega
   have next : ∀ {t : Tree (TS E.T)}, (t.bind (jd Y E G l rest)).holds (OnX P E Q ρ ks ks) → t.holds (On P E Q ρ (.o l (k + 1) rest :: ks)) := fun {t} h =>
    (aN h).mono fun σ' hσ ρ' hi' ha => lS hG l rest (k + 1) σ' ρ' hl' hk' hi' (hσ.mono fun x hx => hx.agr ha)
   have nextX : ∀ {t : Tree (OL E.T)}, (t.bind (vP (jd Y E G l rest))).holds (OnX P E Q ρ ks ks) → t.holds (OnX P E Q ρ (.o l (k + 1) rest :: ks) ks) := fun {t} h =>
    (aN h).mono fun x hx => by
     cases x with
     | st σ' => exact fun ρ' hi' ha => lS hG l rest (k + 1) σ' ρ' hl' hk' hi' (Tree.holds.mono (fun x hx => OnX.agr ha hx) hx)
     | pan v => exact hx
   simp only [jd] at h
   split at h
   ·rename_i hw
    exact zd (Y := Y) hi hG ho (ur hw) (nextX h)
   ·rename_i hw
    exact sw hi ho (wQ hw) (next h)
   ·rename_i hw
    exact Fh hi ho (Co hw) (next h)
   ·rename_i b d hw
    obtain ⟨h1, h2⟩ := l4 (ρ := ρ) hw
    cases hb : b with
    | true =>
      refine fg rfl (jZ (x := .tt) (b := b) (by rw [hb]; rfl) h1) ?_
      exact zd (Y := Y) (σ := σ.know d .tt) hi hG ho (h2 true .tt fun _ => rfl) (nextX (h.1 hb))
    | false =>
      refine fg rfl (jZ (x := .ff) (b := b) (by rw [hb]; rfl) h1) ?_
      exact sw (σ := σ.know d .ff) hi ho (h2 false .ff fun _ => rfl) (next (h.2 hb))
   ·rename_i b d hw
    obtain ⟨h1, h2⟩ := l4 (ρ := ρ) hw
    cases hb : b with
    | true =>
      refine fg rfl (jZ (x := .tt) (b := b) (by rw [hb]; rfl) h1) ?_
      exact sw (σ := σ.know d .tt) hi ho (h2 true .tt fun _ => rfl) (next (h.1 hb))
    | false =>
      refine fg rfl (jZ (x := .ff) (b := b) (by rw [hb]; rfl) h1) ?_
      exact zd (Y := Y) (σ := σ.know d .ff) hi hG ho (h2 false .ff fun _ => rfl) (nextX (h.2 hb))
   ·cases h
def eb (σ σ' : AS) : Prop := σ.n = σ'.n ∧ σ.h = σ'.h ∧ σ.e = σ'.e ∧ ∀ i, look σ.t i = look σ'.t i
theorem eb.opv {σ σ' : AS} {u : AV} (h : eb σ σ') (ho : OpV P o σ' u) : OpV P o σ u := fun F X a hs => ho F X a ⟨hs.gb, hs.fb, fun t u hm hu => hs.slot t u hm (by rw [h.2.2.2]; exact hu), fun k cs hk => hs.box k cs (by rw [h.2.1]; exact hk)⟩
theorem eb.put {σ σ' : AS} (h : eb σ σ') (d : Nat) (u : AV) : eb (σ.put d u) (σ'.put d u) := by
 obtain ⟨h1, h2, h3, h4⟩ := h
 refine ⟨h1, h2, by simp only [AS.put, h3], fun i => ?_⟩
 simp only [AS.put, ab]
 rw [h4]
theorem eb.q {K : AS → Prop} (hK : ∀ σ σ', eb σ σ' → K σ' → K σ) (l : List Oper) : ∀ (rest : List Oper) (σ σ' : AS), eb σ σ' → jJ P l K rest σ' → jJ P l K rest σ
 | [], σ, σ', h, hq => hK σ σ' h hq
 | o :: rest, σ, σ', h, hq => by
   obtain ⟨d, u, h1, h2, h3, h4⟩ := hq
   refine ⟨d, u, h1, by rw [h.1]; exact h2, ?_, eb.q hK l rest _ _ (h.put d u) h4⟩
   have hw : aL l σ o = aL l σ' o := gT h.1 fun j want d hg hd => h.2.2.2 d
   rw [hw]
   rcases h3 with ⟨k1, k2⟩ | h3
   ·exact .inl ⟨k1, h.opv k2⟩
   ·exact .inr h3
theorem eb.know {d : Nat} {b : Bool} {x : TA E.T} (hx : x.to E.toEnc ρ = .v (.bool b)) (hl : look σ.t d = some (.a (.d .bool b))) : eb (σ.to E.toEnc ρ) ((σ.know d x).to E.toEnc ρ) := by
 refine ⟨rfl, rfl, rfl, fun i => ?_⟩
 show look (tTo E.toEnc ρ σ.t) i = look ((d, x.to E.toEnc ρ) :: tTo E.toEnc ρ σ.t) i
 rw [ab]
 split
 ·rename_i e; subst e; rw [aQ, hl, hx]; rfl
 ·rfl
abbrev OnQ (P : Program) (E : Env) (ρ : Rn) (K : AS → Prop) (l : List Oper) (rest : List Oper) (h : List (Nat × TB E.T)) (σ' : TS E.T) : Prop := σ'.h = h → jJ P l K rest (σ'.to E.toEnc ρ)
theorem zm {K : AS → Prop} (hi : Inj ρ σ.h) (hG : GOk P Y E G) (hw : aL l (σ.to E.toEnc ρ) o = some true) (h : (evQ Y E G o σ).holds (OnQ P E ρ K l rest σ.h)) : jJ P l K (o :: rest) (σ.to E.toEnc ρ) := by
 obtain ⟨dst, op, ty, pos, af, g⟩ := o
 unfold evQ at h
 simp only at h
 have pick : ∀ {d : Nat} {u : TV E.T}, dst = some d → Nat.ble (d + 1) σ.n = true → OpV P ⟨dst, op, ty, pos, af, g⟩ (σ.to E.toEnc ρ) (u.to E.toEnc ρ).rd → OnQ P E ρ K l rest σ.h (σ.put d u.rd) → jJ P l K (⟨dst, op, ty, pos, af, g⟩ :: rest) (σ.to E.toEnc ρ) := by
  intro d u hdst hd hv hq
  refine CT hw hdst hd hv ?_
  have := hq rfl
  rw [bd, TV.rd_to] at this
  exact this
 split at h
 ·rename_i d
  split at h
  ·rename_i hd
   split at h
   ·rename_i c x y
    split at h
    ·rename_i hc
     split at h
     ·rename_i u hu
      exact pick rfl hd (fd (b := true) (am hc) rfl (am hu)) h
     ·cases h
    ·rename_i hc
     split at h
     ·rename_i u hu
      exact pick rfl hd (eY (b := false) (am hc) rfl (am hu)) h
     ·cases h
    ·rename_i b hc
     split at h
     ·rename_i u v hu hv
      cases hb : b with
      | true => exact pick rfl hd (fd (b := b) (am hc) hb (am hu)) (h.1 hb)
      | false => exact pick rfl hd (eY (b := b) (am hc) hb (am hv)) (h.2 hb)
     ·cases h
    ·cases h
   ·rename_i t
    split at h
    ·rename_i e ty' h0 het
     split at h
     ·rename_i sz by_ hz
      split at h
      ·rename_i hs
       have hs' := gj hs
       subst hs'
       refine CT hw rfl hd (nH (T := Y) h0 hz) ?_
       have := h rfl
       rw [bd] at this
       exact this
      ·cases h
     ·cases h
    ·cases h
   ·rename_i x y t u
    split at h
    ·rename_i ty' L e du hx h0 hu
     split at h
     ·rename_i sz by_ m hz hm
      split at h
      ·rename_i hc
       simp only [Bool.and_eq_true] at hc
       obtain ⟨⟨hnz, hb⟩, hs⟩ := hc
       have hs' := gj hs
       subst hs'
       obtain ⟨v, S, k1, k2, k3⟩ := nW (ρ := ρ) hm
       have hnz' : du = .string ∨ ∃ e', du = .slice e' := by cases du <;> first | exact .inl rfl | exact .inr ⟨_, rfl⟩ | cases hnz
       by_cases hm0 : m = []
       ·have hq := h.1 hm0
        refine CT hw rfl hd (lO (T := Y) (L := L.map (cells E.toEnc ty')) (am (ρ := ρ) hx) h0 hu hnz' hz k1 (by rw [k2, hm0]; rfl) k3) ?_
        have := hq rfl
        rw [bd] at this
        exact this
       ·obtain ⟨r', hr, hq⟩ := h.2
        obtain ⟨h1, h2⟩ := jM hr
        refine CT hw rfl hd (tU (T := Y) (L := L.map (cells E.toEnc ty')) (m := m.map (cells E.toEnc ty')) (am (ρ := ρ) hx) h0 hu hnz' hz hb k1 k2 k3 (by simpa using h1) (by simpa using hm0)) ?_
        have := hq rfl
        rw [bd, h2] at this
        have e2 : (TV.a (TA.own ty' (L ++ m)) : TV E.T).to E.toEnc ρ = .sl true (csz E.toEnc ty') (L.map (cells E.toEnc ty') ++ m.map (cells E.toEnc ty')) := by
         show AV.sl true _ (List.map _ (L ++ m)) = _
         rw [List.map_append]
        rw [e2] at this
        exact this
      ·cases h
     ·cases h
    ·cases h
   ·have hok := y7 (Y := Y) (σ := σ) (d := some d) (ty := ty) (pos := pos) (af := af) (g := g) hi hG op
    unfold ka at h
    cases hp : evP Y E G σ op ty with
    | one u =>
      rw [hp] at h hok
      refine CT hw rfl hd hok ?_
      rw [← bd]
      exact h rfl
    | opt q u =>
      rw [hp] at h hok
      obtain ⟨z, hz, h⟩ := h
      refine CT hw rfl hd (hok z hz) ?_
      rw [← bd]
      exact h rfl
    | bad => rw [hp] at h; cases h
  ·cases h
 ·cases h
theorem rr {K : AS → Prop} (hw : aL l (σ.to E.toEnc ρ) o = some false) (h : (jS E σ o).holds (OnQ P E ρ K l rest σ.h)) : jJ P l K (o :: rest) (σ.to E.toEnc ρ) := by
 unfold jS at h
 split at h
 ·rename_i d hd
  split at h
  ·rename_i hn
   refine zM hw hd hn ?_
   have := h rfl
   rw [bd] at this
   exact this
  ·cases h
 ·cases h
theorem qZ {K : AS → Prop} (hK : ∀ σ σ', eb σ σ' → K σ' → K σ) (hG : GOk P Y E G) (l : List Oper) (H : List (Nat × TB E.T)) (hi : Inj ρ H) : ∀ (rest : List Oper) (σ : TS E.T), σ.h = H → (qO Y E G l rest σ).holds (fun σ' => σ'.h = H → K (σ'.to E.toEnc ρ)) → jJ P l K rest (σ.to E.toEnc ρ)
 | [], σ, hh, h => h hh
 | o :: rest, σ, hh, h => by
   have next : ∀ {t : Tree (TS E.T)}, (t.bind (qO Y E G l rest)).holds (fun σ' => σ'.h = H → K (σ'.to E.toEnc ρ)) → t.holds (OnQ P E ρ K l rest σ.h) := fun {t} h =>
    (aN h).mono fun σ' hσ (hh' : σ'.h = σ.h) => qZ hK hG l H hi rest σ' (hh'.trans hh) hσ
   have hi' : Inj ρ σ.h := hh ▸ hi
   simp only [qO] at h
   split at h
   ·rename_i hw
    exact zm (Y := Y) hi' hG (ur hw) (next h)
   ·rename_i hw
    exact rr (wQ hw) (next h)
   ·rename_i b d hw
    obtain ⟨h1, h2⟩ := l4 (ρ := ρ) hw
    cases hb : b with
    | true =>
      refine eb.q hK l _ _ _ (eb.know (x := .tt) (b := b) (by rw [hb]; rfl) h1) ?_
      exact zm (Y := Y) (σ := σ.know d .tt) hi' hG (h2 true .tt fun _ => rfl) (next (h.1 hb))
    | false =>
      refine eb.q hK l _ _ _ (eb.know (x := .ff) (b := b) (by rw [hb]; rfl) h1) ?_
      exact rr (σ := σ.know d .ff) (h2 false .ff fun _ => rfl) (next (h.2 hb))
   ·rename_i b d hw
    obtain ⟨h1, h2⟩ := l4 (ρ := ρ) hw
    cases hb : b with
    | true =>
      refine eb.q hK l _ _ _ (eb.know (x := .tt) (b := b) (by rw [hb]; rfl) h1) ?_
      exact rr (σ := σ.know d .tt) (h2 true .tt fun _ => rfl) (next (h.1 hb))
    | false =>
      refine eb.q hK l _ _ _ (eb.know (x := .ff) (b := b) (by rw [hb]; rfl) h1) ?_
      exact zm (Y := Y) (σ := σ.know d .ff) hi' hG (h2 false .ff fun _ => rfl) (next (h.2 hb))
   ·cases h
theorem pR {σ σ' : AS} (h : eb σ σ') : kI σ σ' := fun F X tm hs => hs.le2 h.1.symm (fun t u' hu => ⟨u', by rw [h.2.2.2]; exact hu, .refl _⟩) (fun q cs' hq => ⟨cs', by rw [h.2.1]; exact hq, LeL.refl _⟩) (fun p hp => by rw [h.2.2.1]; exact hp)
theorem pj {xs bs : Nat → Bool} {mu : List Nat} : ∀ {l a b : List Oper}, tb xs bs mu l = (a, b) → l = a ++ b
 | [], _, _, h => by cases h; rfl
 | o :: r, a, b, h => by
   simp only [tb] at h
   split at h
   ·cases h; rfl
   ·cases hs : tb xs bs mu r with
    | mk a' b' =>
      rw [hs] at h
      cases h
      rw [pj hs]; rfl
theorem eb.als {σ σ' : AS} (h : eb σ σ') (m : List (Nat × Nat)) : eb (σ.als m) (σ'.als m) := ⟨h.1, h.2.1, by simp only [AS.als, h.2.2.1], h.2.2.2⟩
theorem xZ {m : List (Nat × Nat)} : kI ((σ.to E.toEnc ρ).als m) ((σ.alsT m).to E.toEnc ρ) := fun F X tm hs => by
 refine hs.le2 rfl (fun t u' hu => ⟨u', hu, .refl _⟩) (fun q cs' hq => ⟨cs', hq, LeL.refl _⟩) (fun p hp => ?_)
 have e : ((σ.alsT m).to E.toEnc ρ).e = eTo ρ ((m.filter fun p => Pz σ p.2).map (fun p => (p.1, Root.s p.2)) ++ σ.e) := rfl
 rw [e] at hp
 simp only [eTo, List.map_append, List.map_map] at hp
 simp only [AS.als, TS.to, eTo]
 rcases List.mem_append.1 hp with hp | hp
 ·obtain ⟨q, hq, rfl⟩ := List.mem_map.1 hp
  exact List.mem_append_left _ (List.mem_map.2 ⟨q, (List.mem_filter.1 hq).1, rfl⟩)
 ·exact List.mem_append_right _ hp
theorem xO {kk : Nat} : ∀ {h : List (Nat × TB E.T)}, (∀ p ∈ h, aG ρ p.2 = true → ρ p.1 = ρ kk → p.1 = kk) → hTo E.toEnc ρ (cF kk h) = cF (ρ kk) (hTo E.toEnc ρ h)
 | [], _ => rfl
 | p :: r, hi => by
   have ih := xO (kk := kk) (h := r) fun q hq => hi q (List.mem_cons_of_mem _ hq)
   obtain ⟨k, b⟩ := p
   have e1 : cF kk ((k, b) :: r) = if k = kk then cF kk r else (k, b) :: cF kk r := rfl
   cases hl : aG ρ b with
   | false =>
     rw [cv _ _ hl, ← ih, e1]
     split
     ·rfl
     ·rw [cv _ _ hl]
   | true =>
     rw [bL _ _ hl, e1]
     show _ = if ρ k = ρ kk then cF (ρ kk) (hTo E.toEnc ρ r) else (ρ k, b.to E.toEnc ρ) :: cF (ρ kk) (hTo E.toEnc ρ r)
     by_cases e : k = kk
     ·rw [if_pos e, if_pos (by rw [e]), ih]
     ·rw [if_neg e, if_neg (fun e2 => e (hi (k, b) List.mem_cons_self hl e2)), bL _ _ hl, ← ih]
theorem mA {α : Type} {kk : Nat} {p : Nat × α} : ∀ {h : List (Nat × α)}, p ∈ cF kk h → p ∈ h
 | [], h => by cases h
 | q :: r, h => by
   simp only [cF] at h
   split at h
   ·exact List.mem_cons_of_mem _ (mA h)
   ·rcases List.mem_cons.1 h with rfl | h
    ·exact List.mem_cons_self
    ·exact List.mem_cons_of_mem _ (mA h)
theorem uf {σ σ' : AS} {x : Operand} (h : ∀ t, Operand.tmp t = x → look σ.t t = look σ'.t t) : opV σ x = opV σ' x := by
 cases x with
 | tmp t => exact h t rfl
 | const v => rfl
 | func f => rfl
 | global g => rfl
theorem Ad {σ1 σ2 : AS} (h1 : eb σ1 σ2) (H : List (Nat × List AV)) (kk : Nat) (cs : List AV) : eb ((σ1.withH H).setc kk cs) ((σ2.withH H).setc kk cs) :=
 ⟨h1.1, rfl, by simp only [AS.setc, AS.dropC, AS.withH, h1.2.2.1], h1.2.2.2⟩
theorem C2 {id : Nat} {ops : List Oper} {body after : List Oper} {om oa : Oper} (hm : P.follows .mixedOrders = true) (hG : GOk P Y E G) (hi : Inj ρ σ.h) (he : σ.e = []) (hl : ops = body ++ om :: oa :: after) (h : (F7 Y E G ops body om oa after σ).holds (OnX P E Q ρ ks ks)) : aA P Q (.c (.region id ops.toArray true) :: ks) (σ.to E.toEnc ρ) := by
 obtain ⟨dst, op, ty, pos, af, g⟩ := om
 unfold F7 at h
 simp only at h
 split at h
 ·rename_i t x y
  split at h
  ·rename_i kk p0 n by_ hx hz
   split at h
   ·rename_i hB
    simp only [Bool.and_eq_true] at hB
    obtain ⟨hB, hK0⟩ := hB
    have hdst : dst = none := by
     simp only [sg, Bool.and_eq_true] at hB
     have := hB.1.1.2.2
     simpa using this
    subst hdst
    obtain ⟨b0, hb0, hnv⟩ := B4 hK0
    have hn0 : hTo E.toEnc ρ (cF kk σ.h) = cF (ρ kk) (hTo E.toEnc ρ σ.h) := xO fun p hp hl e => (hi p hp (kk, b0) (bl hb0)).1 hl (rt hnv) e
    have hn1 : (σ.to E.toEnc ρ).withH (cF (ρ kk) (σ.to E.toEnc ρ).h) = (σ.withB (cF kk σ.h)).to E.toEnc ρ := by
     show AS.mk _ _ _ _ = AS.mk _ _ _ _
     rw [show (σ.withB (cF kk σ.h)).h = cF kk σ.h from rfl, hn0]; rfl
    refine DF (k' := ρ kk) hm hl hB (by simp only [TS.to, he]; rfl) ?_
    rw [hn1]
    refine qZ (Y := Y) (K := fun σ' => ∃ cs' : List AV, (∀ σ1 : AS, σ1.n = (σ.to E.toEnc ρ).n → σ1.e = [] → σ1.h = (σ.to E.toEnc ρ).h → (∀ t0, Operand.tmp t0 ∈ (Oper.mk none (.store t x y) ty pos af g).op.operands.toList → look σ1.t t0 = look σ'.t t0) → sF P ⟨none, .store t x y, ty, pos, af, g⟩ σ1 (σ1.setc (ρ kk) cs')) ∧ aA P Q (.o ops (body.length + 1) (oa :: after) :: ks) (((σ'.withH (σ.to E.toEnc ρ).h).setc (ρ kk) cs').als (cW body))) (fun σ1 σ2 h1 ⟨cs', q1, q2⟩ => ⟨cs', fun τ e1 e2 e3 e4 => q1 τ e1 e2 e3 fun t0 ht => (e4 t0 ht).trans (h1.2.2.2 t0), fg rfl (pR (eb.als (Ad h1 _ _ _) _)) q2⟩) hG ops (cF kk σ.h) (fun p hp q hq => hi p (mA hp) q (mA hq)) body (σ.withB (cF kk σ.h)) rfl ?_
    refine (aN h).mono fun σ' hσ (hh : σ'.h = cF kk σ.h) => ?_
    split at hσ
    ·rename_i k2 p hx2
     split at hσ
     ·rename_i hk2
      have hk2 := gj hk2
      subst hk2
      split at hσ
      ·rename_i cs hst
       unfold EV at hst
       split at hst
       ·rename_i cs0 u hb hy
        split at hst
        ·rename_i vs hvs
         split at hst
         ·rename_i hc
          cases hst
          simp only [Bool.and_eq_true] at hc
          obtain ⟨c1, c2, c3, c4⟩ := rG (ρ := ρ) hvs
          have hb' : look σ.h k2 = some (.cs cs0) := hb
          have hy' : opT σ' y = some u := hy
          refine ⟨aS (cs0.map (TA.to E.toEnc ρ)) p (u.to E.toEnc ρ).rd.cells, fun τ e1 e2 e3 e4 => ?_, ?_⟩
          ·refine cT (P := P) (T := Y) (ty := ty) (pos := pos) (af := af) (g := g) ?_ (by rw [e3]; exact g7 hi hb') ?_ c1 hz (by rw [c2, List.length_map]; exact hc.1) c3 c4 (by simpa using hc.2) (mV cs0)
           ·exact (uf fun t0 ht => e4 t0 (by rw [← ht]; simp [Op.operands])).trans (am (ρ := ρ) hx2)
           ·exact (uf fun t0 ht => e4 t0 (by rw [← ht]; simp [Op.operands])).trans (am (ρ := ρ) hy')
          ·have hle := qW (E := E) (ρ := ρ) ((look E.ct t).getD []) vs
           refine fg rfl ?_ (fg rfl (xZ (σ := (σ'.withB σ.h).setc k2 (spl cs0 p (qH ((look E.ct t).getD []) vs))) (m := cW body)) (lS (Y := Y) hG ops (oa :: after) (body.length + 1) _ ρ (fun i o ho => ?_) ?_ ?_ hσ))
           ·intro F X tm hs
            refine hs.le2 rfl (fun t u' hu => ⟨u', hu, .refl _⟩) (fun q cs' hq => ?_) (fun pp hp => ?_)
            ·have e : ((((σ'.withB σ.h).setc k2 (spl cs0 p (qH ((look E.ct t).getD []) vs))).to E.toEnc ρ).als (cW body)).h = (ρ k2, (spl cs0 p (qH ((look E.ct t).getD []) vs)).map (TA.to E.toEnc ρ)) :: hTo E.toEnc ρ σ.h := rfl
             rw [e, ab] at hq
             have e2 : ((((σ'.to E.toEnc ρ).withH (σ.to E.toEnc ρ).h).setc (ρ k2) (aS (cs0.map (TA.to E.toEnc ρ)) p (u.to E.toEnc ρ).rd.cells)).als (cW body)).h = (ρ k2, aS (cs0.map (TA.to E.toEnc ρ)) p (u.to E.toEnc ρ).rd.cells) :: hTo E.toEnc ρ σ.h := rfl
             rw [e2, ab]
             split at hq
             ·rename_i e3
              rw [if_pos e3]
              cases hq
              refine ⟨_, rfl, ?_⟩
              rw [mh, c2]
              unfold aS
              rw [hle.length]
              exact ((LeL.refl _).append hle).append (LeL.refl _)
             ·rename_i e3
              rw [if_neg e3]
              exact ⟨cs', hq, LeL.refl _⟩
            ·simp only [AS.als] at hp ⊢
             rw [rj] at hp; exact hp
           ·rw [hl, List.getElem?_append_right (by omega), show body.length + 1 + i - body.length = i + 1 by omega]; simpa using ho
           ·rw [hl]; simp only [List.length_append, List.length_cons]; omega
           ·exact oY (σ := σ'.withB σ.h) hi hb _
         ·cases hst
        ·cases hst
       ·cases hst
      ·cases hσ
     ·cases hσ
    ·cases hσ
   ·cases h
  ·cases h
 ·cases h
theorem Bq {u : TV E.T} (h : Cy u = true) : ∃ x, u.to E.toEnc ρ = .v x := by
 unfold Cy at h
 split at h <;> first
  | (exact ⟨_, rfl⟩)
  | (cases h; done)
  | (obtain ⟨a, m, c, e⟩ := TA.vec_form E.toEnc ρ _ _ _; exact ⟨_, e⟩)
  | (obtain ⟨a, m, c, e⟩ := TA.vsl_form E.toEnc ρ _ _ _ _; exact ⟨_, e⟩)
def stA {T : Nat → Type} (ρ : Rn) (H : List (Nat × TB T)) (ids : List Nat) (b : Nat) : Bool := ids.any fun k => match look H k with
 | some x => aG ρ x && Nat.beq (ρ k) b
 | none => false
theorem AQ {ids : List Nat} {H : List (Nat × TB E.T)} (hi : Inj ρ H) (hids : rM H ids = true) {p : Nat × TB E.T} (hp : p ∈ H) (hl : aG ρ p.2 = true) : ge ids p.1 = stA ρ H ids (ρ p.1) := by
 rw [Bool.eq_iff_iff]
 unfold stA
 rw [cm, List.any_eq_true]
 constructor
 ·intro h
  refine ⟨p.1, h, ?_⟩
  have := List.all_eq_true.1 hids p.1 h
  obtain ⟨b, hb⟩ := Option.isSome_iff_exists.1 this
  have h2 := (hi (p.1, b) (bl hb) p hp).2 rfl
  simp only at h2
  rw [hb]
  simp only [h2, hl, Bool.true_and]
  exact Nat.beq_refl _
 ·rintro ⟨k, hk, e⟩
  have := List.all_eq_true.1 hids k hk
  obtain ⟨b, hb⟩ := Option.isSome_iff_exists.1 this
  rw [hb] at e
  simp only [Bool.and_eq_true] at e
  have := (hi (k, b) (bl hb) p hp).1 e.1 hl (Nat.eq_of_beq_eq_true e.2)
  simp only at this
  rw [← this]; exact hk
theorem rB {f : Nat × TB E.T → Bool} {g : Nat × List AV → Bool} {H : List (Nat × TB E.T)} (h : ∀ p ∈ H, aG ρ p.2 = true → f p = g (ρ p.1, p.2.to E.toEnc ρ)) : hTo E.toEnc ρ (H.filter f) = (hTo E.toEnc ρ H).filter g := by
 unfold hTo
 rw [List.filter_map, List.filter_filter, List.filter_filter]
 congr 1
 refine List.filter_congr fun p hp => ?_
 cases hl : aG ρ p.2 with
 | false => simp
 | true => simp only [Function.comp, Bool.true_and, Bool.and_true]; exact h p hp hl
theorem DK {ids : List Nat} {H : List (Nat × TB E.T)} (hi : Inj ρ H) (hids : rM H ids = true) : hTo E.toEnc ρ (inH ids H) = (hTo E.toEnc ρ H).filter fun p => stA ρ H ids p.1 := rB fun p hp hl => AQ hi hids hp hl
theorem Im {ids : List Nat} {H : List (Nat × TB E.T)} (hi : Inj ρ H) (hids : rM H ids = true) : hTo E.toEnc ρ (xl ids H) = (hTo E.toEnc ρ H).filter fun p => !stA ρ H ids p.1 := rB fun p hp hl => by rw [AQ hi hids hp hl]
theorem Bv {T : Nat → Type} {ids : List Nat} {h : List (Nat × TB T)} : ∀ p ∈ inH ids h, p ∈ h := fun p hp => (List.mem_filter.1 hp).1
theorem DU {T : Nat → Type} {ids : List Nat} {h : List (Nat × TB T)} : ∀ p ∈ xl ids h, p ∈ h := fun p hp => (List.mem_filter.1 hp).1
theorem Inj.of_mem {T : Nat → Type} {ρ : Rn} {h h' : List (Nat × TB T)} (hi : Inj ρ h) (hs : ∀ p ∈ h', p ∈ h) : Inj ρ h' := hi.sub fun p hp => ⟨p, hs p hp, rfl, rfl⟩
def ldR (ρ : Rn) (ld : List (Nat × Nat × Nat)) : List (Nat × Nat × Nat) := ld.map fun p => (p.1, ρ p.2.1, p.2.2)
theorem Eu (ρ : Rn) (ld : List (Nat × Nat × Nat)) (d : Nat) : qC (ldR ρ ld) d = (qC ld d).map fun p => (p.1, ρ p.2.1, p.2.2) := by
 unfold qC ldR
 rw [List.find?_map]; rfl
theorem Bu {mB : Nat → Bool} {k : Nat} : (wi mB k σ).to E.toEnc ρ = bst mB k (σ.to E.toEnc ρ) := by
 unfold wi bst
 cases mB k <;> rfl
theorem Gc {mB : Nat → Bool} {k : Nat} (hi : Inj ρ σ.h) : Inj ρ (wi mB k σ).h := by
 unfold wi
 cases mB k
 ·exact fun p hp => by cases hp
 ·exact hi
theorem uP {s : Nat} {o : Oper} : ut s o = true ↔ o.dst = some s := by
 unfold ut
 split
 ·rename_i d h; rw [h]; simp [Nat.beq_eq]
 ·rename_i h; rw [h]; simp
theorem FD {fl : List Bool} {op : Op} {u : TV E.T} (h : mvN E l fl σ op = some u) : ∃ s, op = .move (.tmp s) ∧ opT σ (.tmp s) = some u ∧ ∀ (q : Nat) o', l[q]? = some o' → mNf fl q = true → o'.dst ≠ some s := by
 unfold mvN at h
 split at h
 ·rename_i s
  split at h
  ·rename_i ha
   refine ⟨s, rfl, h, fun q o' ho hm hd => ?_⟩
   have := List.all_eq_true.1 ha (o', q) (vR ho)
   simp only [hm, uP.2 hd] at this
   cases this
  ·cases h
 ·cases h
theorem wM {op : Op} {kk p : Nat} {c : TA E.T} (h : zu Y E σ op kk p = some c) : ∃ t x dsc cs, op = .load t x ∧ opT σ x = some (.a (.box kk p)) ∧ look Y.ty t = some dsc ∧ gC dsc = true ∧ look σ.h kk = some (.cs cs) ∧ cs[p]? = some c := by
 unfold zu at h
 split at h
 ·rename_i t x
  split at h
  ·rename_i k2 p2 dsc cs hx h0 hb
   split at h
   ·rename_i hc
    simp only [Bool.and_eq_true] at hc
    have e1 := Nat.eq_of_beq_eq_true hc.1.1
    have e2 := Nat.eq_of_beq_eq_true hc.1.2
    subst e1 e2
    exact ⟨t, x, dsc, cs, rfl, hx, h0, hc.2, hb, h⟩
   ·cases h
  ·cases h
 ·cases h
theorem zG {K : AS → Prop} {fl : List Bool} {mB : Nat → Bool} {ld : List (Nat × Nat × Nat)} {H : List (Nat × TB E.T)} (hG : GOk P Y E G) (hi : Inj ρ H) : ∀ (rest : List Oper) (k : Nat) (σ : TS E.T), σ.h = H → (evN Y E G l fl mB ld k rest σ).holds (fun σ' => K (σ'.to E.toEnc ρ)) → qi P l (mNf fl) mB (ldR ρ ld) K k rest (σ.to E.toEnc ρ)
 | [], k, σ, hh, h => h
 | o :: rest, k, σ, hh, h => by
   have hi' : Inj ρ σ.h := hh ▸ hi
   unfold evN at h
   unfold qi
   cases hm : mNf fl k with
   | false => rw [hm] at h; exact zG hG hi rest (k + 1) σ hh h
   | true =>
     rw [hm] at h
     simp only at h
     obtain ⟨dst, op, ty, pos, af, g⟩ := o
     simp only at h
     split at h
     ·rename_i d
      split at h
      ·rename_i hd
       have fin : ∀ {u : TV E.T}, OpV P ⟨some d, op, ty, pos, af, none⟩ (bst mB k (σ.to E.toEnc ρ)) (u.to E.toEnc ρ) → GJ P l (mNf fl) mB (ldR ρ ld) k (σ.to E.toEnc ρ) ⟨some d, op, ty, pos, af, none⟩ (u.to E.toEnc ρ) → (evN Y E G l fl mB ld (k + 1) rest (σ.put d u)).holds (fun σ' => K (σ'.to E.toEnc ρ)) → ∃ d' u', some d = some d' ∧ (none : Option (Nat × Bool)) = none ∧ Nat.ble (d' + 1) (σ.to E.toEnc ρ).n = true ∧ OpV P ⟨some d, op, ty, pos, af, none⟩ (bst mB k (σ.to E.toEnc ρ)) u' ∧ GJ P l (mNf fl) mB (ldR ρ ld) k (σ.to E.toEnc ρ) ⟨some d, op, ty, pos, af, none⟩ u' ∧ qi P l (mNf fl) mB (ldR ρ ld) K (k + 1) rest ((σ.to E.toEnc ρ).put d' u') := fun {u} h1 h2 h3 => by
        refine ⟨d, u.to E.toEnc ρ, rfl, rfl, hd, h1, h2, ?_⟩
        have := zG hG hi rest (k + 1) (σ.put d u) hh h3
        rw [bd] at this
        exact this
       split at h
       ·rename_i d' kk p hld
        split at h
        ·rename_i c hmb hc
         obtain ⟨t, x, dsc, cs, rfl, hx, h0, h1, hb, hcp⟩ := wM hc
         have e : (TV.a c.rd : TV E.T).to E.toEnc ρ = (c.to E.toEnc ρ).rd := TA.rd_to _ _ _
         have hcs : (cs.map (TA.to E.toEnc ρ))[p]? = some (c.to E.toEnc ρ) := by simp [hcp]
         have hbk : bst mB k (σ.to E.toEnc ρ) = σ.to E.toEnc ρ := by unfold bst; rw [hmb]
         refine fin (u := .a c.rd) ?_ ⟨by rw [e]; exact bZ _, fun d2 hd2 => ?_⟩ h
         ·rw [e, hbk]
          exact eT (T := Y) (am (ρ := ρ) hx) (g7 hi' hb) hcs h0 h1 (TA.to_notMp _ _ _)
         ·cases hd2
          rw [Eu, hld, e]
          refine ⟨hmb, ?_⟩
          exact Cm (T := Y) (am (ρ := ρ) hx) (g7 hi' hb) hcs h0 h1 (mV cs)
        ·cases h
       ·rename_i hld
        have hldn : ∀ d2, some d = some d2 → qC (ldR ρ ld) d2 = none := fun d2 e => by cases e; rw [Eu, hld]; rfl
        split at h
        ·rename_i u hu
         obtain ⟨s, rfl, hx, hs⟩ := FD hu
         refine fin (u := u.rd) ?_ ⟨by rw [TV.rd_to]; exact bZ _, fun d2 hd2 => ?_⟩ h
         ·rw [TV.rd_to]
          refine eQ (x := .tmp s) ?_ (.inl rfl)
          have := am (ρ := ρ) hx
          show look (bst mB k (σ.to E.toEnc ρ)).t s = _
          have e : (bst mB k (σ.to E.toEnc ρ)).t = (σ.to E.toEnc ρ).t := by unfold bst; cases mB k <;> rfl
          rw [e]; exact this
         ·rw [hldn d2 hd2]
          exact .inr ⟨s, rfl, hs⟩
        ·have hok := y7 (Y := Y) (σ := wi mB k σ) (d := some d) (ty := ty) (pos := pos) (af := af) (g := none) (Gc hi') hG op
         cases hp : evP Y E G (wi mB k σ) op ty with
         | one u =>
           rw [hp] at h hok
           simp only at h
           split at h
           ·rename_i hdet
            obtain ⟨x, hx⟩ := Bq (ρ := ρ) hdet
            have hok' : OpV P ⟨some d, op, ty, pos, af, none⟩ ((wi mB k σ).to E.toEnc ρ) (u.to E.toEnc ρ) := hok
            rw [Bu] at hok'
            exact fin hok' ⟨by rw [hx]; rfl, fun d2 hd2 => by rw [hldn d2 hd2]; exact .inl ⟨x, hx⟩⟩ h
           ·cases h
         | opt q u =>
           rw [hp] at h hok
           obtain ⟨z, hz, h⟩ := h
           simp only at h
           split at h
           ·rename_i hdet
            obtain ⟨x, hx⟩ := Bq (ρ := ρ) hdet
            have hok' : OpV P ⟨some d, op, ty, pos, af, none⟩ ((wi mB k σ).to E.toEnc ρ) ((u z).to E.toEnc ρ) := hok z hz
            rw [Bu] at hok'
            exact fin hok' ⟨by rw [hx]; rfl, fun d2 hd2 => by rw [hldn d2 hd2]; exact .inl ⟨x, hx⟩⟩ h
           ·cases h
         | bad => rw [hp] at h; cases h
      ·cases h
     ·cases h
def OnS (R : AS → Prop) (RP : Value → List (Nat × List AV) → Prop) (ρ : Rn) : OL E.T → Prop
 | .st σ' => Inj ρ σ'.h → R (σ'.to E.toEnc ρ)
 | .pan v => RP v []
theorem um {R : AS → Prop} {RP : Value → List (Nat × List AV) → Prop} {d : Nat} {f : FuncId} {us : List (TV E.T)} {x : XR E.T} (hi : Inj ρ σ.h) (hx : x.ok P f us σ.h)
  (run : ∀ {post : AOut → List (Nat × List AV) → Prop} {ids : List Nat}, ak P f (us.map (TV.to E.toEnc ρ)) (hTo E.toEnc ρ (bG σ.h ids)) post → (∀ u H', post (.ret u) H' → R ((bY (σ.to E.toEnc ρ) [] (hTo E.toEnc ρ (dropHH ids σ.h)) H').put d u)) → (∀ v H', post (.pan v) H' → RP v []) → sB P o (σ.to E.toEnc ρ) R RP)
  (h : (wT σ d x).holds (OnS R RP ρ)) : sB P o (σ.to E.toEnc ρ) R RP := by
 have goOn : ∀ {ids : List Nat} {h' : List (Nat × TB E.T)} {u : TV E.T}, cA σ.h ids = true → nvH (bG σ.h ids) = true → nvH h' = true → h'.map (·.1) = ids → OnS R RP ρ (.st ((σ.give ids h').put d u)) → R ((bY (σ.to E.toEnc ρ) [] (hTo E.toEnc ρ (dropHH ids σ.h)) (hTo E.toEnc ρ h')).put d (u.to E.toEnc ρ)) := fun {ids h' u} hg hk hv hm hq => by
  have := hq (wK hi hg hk hv hm)
  rw [bd, AR] at this
  exact this
 cases x with
 | bad => cases h
 | mv ov ids mvs nw u hh => cases h
 | ret ov ids u hh =>
   unfold wT tG at h
   simp only at h
   split at h
   ·rename_i hg
    rw [Bool.and_eq_true] at hg
    obtain ⟨hg, hk⟩ := hg
    obtain ⟨z, hz, h⟩ := h
    obtain ⟨hm, hc⟩ := hx z hz
    simp only at h
    refine run (hc ρ hi) ?_ ?_
    ·rintro u' H' ⟨e, rfl⟩
     cases e
     split at h
     ·rename_i hv; exact goOn hg hk hv hm h
     ·cases h
    ·rintro v H' ⟨e, _⟩
     cases e
   ·cases h
 | may ov ids u hh =>
   unfold wT tG at h
   simp only at h
   split at h
   ·rename_i hg
    rw [Bool.and_eq_true] at hg
    obtain ⟨hg, hk⟩ := hg
    obtain ⟨p, hp, h⟩ := h
    obtain ⟨hm, hc⟩ := hx p hp
    cases p with
    | ok z =>
      refine run (hc ρ hi) ?_ ?_
      ·rintro u' H' ⟨e, rfl⟩
       cases e
       have h1 := h.1 z rfl
       simp only at h1
       split at h1
       ·rename_i hv; exact goOn hg hk hv (hm z rfl) h1
       ·cases h1
      ·rintro v H' ⟨e, _⟩
       cases e
    | pan v =>
      refine run (hc ρ hi) ?_ ?_
      ·intro u' H' e
       cases e
      ·intro v' H' e
       cases e
       exact h.2 v rfl
   ·cases h
theorem M4 {R : AS → Prop} {RP : Value → List (Nat × List AV) → Prop} {all : Bool} (hi : Inj ρ σ.h) (hG : GOk P Y E G) (hR : all = true → Low R) (h : (evE Y E G all o σ).holds (OnS R RP ρ)) : sB P o (σ.to E.toEnc ρ) R RP := by
 have pure : ∀ {d : Nat}, o.dst = some d → Nat.ble (d + 1) σ.n = true → ((ka Y E G σ d o.op o.type).bind fun σ' => Tree.leaf (OL.st σ')).holds (OnS R RP ρ) → sB P o (σ.to E.toEnc ρ) R RP := fun {d} h1 h2 h3 => by
  refine rA (gB (Y := Y) (R := R) (A := fun ρ' => ρ' = ρ) hi hG rfl h1 h2 ?_)
  refine (aN h3).mono fun σ' hσ ρ' hi' e => ?_
  subst e
  exact hσ hi'
 unfold evE at h
 split at h
 ·cases h
 ·rename_i hg
  split at h
  ·rename_i f xs ats hop
   split at h
   ·rename_i d hf hdst
    split at h
    ·rename_i us hd hx
     obtain ⟨dst, op, ty, pos, af, g⟩ := o
     simp only at hop hdst hg
     subst hop hdst hg
     refine um hi (me hG.x f _ σ.h) (fun {post ids} hc hr hp => ?_) h
     have hpa := jL (fz (ρ := ρ) hx) (eK [] us (ee _ _)) (dg _ _)
     refine t8 hc hpa (eU _) (fun kk oo hm => absurd (List.eq_of_mem_replicate hm) (by simp)) (jK hi ids) (fun kk cs hk => by rw [gY]; exact lD hi ids kk cs hk) hd ?_ ?_ ?_
     ·intro u H' hp'
      rw [eN]
      exact hr u H' hp'
     ·intro v H' hp'
      exact ⟨[], fun k cs hk => by simp [av] at hk, hp v H' hp'⟩
     ·intro H'
      rw [eN]; rfl
    ·cases h
   ·rename_i d hf hdst
    split at h
    ·rename_i hd
     exact pure hdst hd h
    ·cases h
   ·cases h
  ·split at h
   ·split at h
    ·rename_i hc
     refine rA (rH (Y := Y) (R := R) (A := fun ρ' => ρ' = ρ) hi hG (hR rfl) rfl (fun e => by rw [hc] at e; cases e) ?_)
     refine (aN h).mono fun σ' hσ ρ' hi' e => ?_
     subst e
     exact hσ hi'
    ·cases h
   ·rename_i d hdst
    split at h
    ·rename_i hd
     exact pure hdst hd h
    ·cases h
   ·cases h
theorem pv {n : Nat} {RP : Value → List (Nat × List AV) → Prop} {K : AS → Prop} (hK : Low K) : ∀ l : List Oper, Low (kU P n RP K l)
 | [] => hK
 | o :: rest => fun σ σ' hn hs h => by
   refine ⟨hn.trans h.1, fun F X a hsim => ?_⟩
   rw [hn]
   exact h.2 F X a (hs _ _ _ hsim)
theorem Bg {K : AS → Prop} {RP : Value → List (Nat × List AV) → Prop} {all : Bool} {n : Nat} (hG : GOk P Y E G) (hK : all = true → Low K) : ∀ (cs : List Nat) (σ : TS E.T), Inj ρ σ.h → (IT Y E G all n l cs σ).holds (OnS K RP ρ) → kU P n RP K (cs.filterMap fun i => l[i]?) (σ.to E.toEnc ρ)
 | [], σ, hi, h => h hi
 | c :: cs, σ, hi, h => by
   unfold IT at h
   split at h
   ·rename_i o hn ho
    rw [List.filterMap_cons, ho]
    refine ⟨Nat.eq_of_beq_eq_true hn, M4 (Y := Y) hi hG (fun e => pv (hK e) _) ?_⟩
    refine (aN h).mono fun x hx => ?_
    cases x with
    | st σ' => exact fun hi' => Bg hG hK cs σ' hi' hx
    | pan v => exact hx
   ·cases h
theorem H6 (m : List (Nat × Nat)) : (σ.alsA m).to E.toEnc ρ = (σ.to E.toEnc ρ).als m := by
 have e : eTo ρ (m.map (fun p => (p.1, Root.s p.2)) ++ σ.e) = m.map (fun p => (p.1, Root.s p.2)) ++ eTo ρ σ.e := by
  unfold eTo
  rw [List.map_append, List.map_map]; rfl
 show AS.mk _ _ _ _ = AS.mk _ _ _ _
 congr 1
theorem GY (ld : List (Nat × Nat × Nat)) : (σ.alcT ld).to E.toEnc ρ = (σ.to E.toEnc ρ).alc (ldR ρ ld) := by
 have e : eTo ρ (ld.map (fun p => (p.1, Root.c p.2.1 p.2.2)) ++ σ.e) = (ldR ρ ld).map (fun p => (p.1, Root.c p.2.1 p.2.2)) ++ eTo ρ σ.e := by
  unfold eTo ldR
  rw [List.map_append, List.map_map, List.map_map]; rfl
 show AS.mk _ _ _ _ = AS.mk _ _ _ _
 congr 1
theorem Fq : kI (σ.to E.toEnc ρ) (σ.ownE.to E.toEnc ρ) := fun F X tm hs => by
 refine hs.le2 rfl (fun t u' hu => ⟨u', hu, .refl _⟩) (fun q cs' hq => ⟨cs', hq, LeL.refl _⟩) (fun p hp => ?_)
 simp only [TS.to, TS.ownE, eTo, List.mem_map] at hp ⊢
 obtain ⟨q, hq, rfl⟩ := hp
 exact ⟨q, (List.mem_filter.1 hq).1, rfl⟩
theorem E2 {fl : List Bool} {ld : List (Nat × Nat × Nat)} (h : Ec l fl ld = true) : ((ldR ρ ld).map (·.1)).Nodup ∧ ∀ p ∈ ldR ρ ld, ∃ (q : Nat) (o : Oper), l[q]? = some o ∧ mNf fl q = true ∧ o.dst = some p.1 := by
 unfold Ec at h
 rw [Bool.and_eq_true] at h
 have e : (ldR ρ ld).map (·.1) = ld.map (·.1) := by unfold ldR; rw [List.map_map]; rfl
 refine ⟨by rw [e]; exact of_decide_eq_true h.1, fun p hp => ?_⟩
 obtain ⟨p0, hp0, rfl⟩ := List.mem_map.1 hp
 have := List.all_eq_true.1 h.2 p0 hp0
 obtain ⟨q, hq, hc⟩ := List.any_eq_true.1 this
 rw [Bool.and_eq_true] at hc
 have hq' : l[q.2]? = some q.1 := by
  have := List.mem_zipIdx_iff_getElem?.1 hq
  simpa using this
 exact ⟨q.2, q.1, hq', hc.1, uP.1 hc.2⟩
theorem xn {l : List Nat} {i : Nat} (h : tC l i = true) : i ∈ l := by
 induction l with
 | nil => cases h
 | cons a r ih =>
   simp only [tC] at h
   first
    | (split at h
       ·rename_i e; rw [Nat.eq_of_beq_eq_true e]; exact List.mem_cons_self
       ·exact List.mem_cons_of_mem _ (ih h))
    | (simp only [Bool.or_eq_true] at h
       rcases h with h | h
       ·have := Nat.eq_of_beq_eq_true h; subst this; exact List.mem_cons_self
       ·exact List.mem_cons_of_mem _ (ih h))
theorem tl {L : Type} {K : L → Prop} : ∀ {ts : List (Tree L)}, (N3 ts).holds K → ∀ t ∈ ts, t.holds K
 | [], h, t, ht => by cases ht
 | [t], h, t', ht => by
   rw [List.mem_singleton] at ht
   subst ht; exact h
 | t :: t2 :: r, h, t', ht => by
   rcases List.mem_cons.1 ht with rfl | ht
   ·exact h.1 rfl
   ·exact tl (ts := t2 :: r) h.2 t' ht
def OnA (R : AS → Prop) (RP : Value → List (Nat × List AV) → Prop) (ρ : Rn) : OL E.T → Prop
 | .st σ' => ∀ ρ', Inj ρ' σ'.h → Agr ρ ρ' → R (σ'.to E.toEnc ρ')
 | .pan v => RP v []
theorem OnA.toS {R : AS → Prop} {RP : Value → List (Nat × List AV) → Prop} {x : OL E.T} (h : OnA R RP ρ x) : OnS R RP ρ x := by
 cases x with
 | st σ' => exact fun hi => h ρ hi (Agr.refl ρ)
 | pan v => exact h
theorem CW {R : AS → Prop} {RP : Value → List (Nat × List AV) → Prop} (hi : Inj ρ σ.h) (hG : GOk P Y E G) (hR : Low R) (h : (evA Y E G o σ).holds (OnA R RP ρ)) : o.guard = none ∧ sB P o (σ.to E.toEnc ρ) R RP := by
 have old : ((qM Y E G o σ).bind fun σ' => Tree.leaf (OL.st σ')).holds (OnA R RP ρ) → sB P o (σ.to E.toEnc ρ) R RP := fun h =>
  rA (rH (Y := Y) (R := R) (A := Agr ρ) hi hG hR (Agr.refl ρ) (fun _ d b hn => Agr.updB hn) ((aN h).mono fun σ' hσ => hσ))
 unfold evA at h
 split at h
 ·cases h
 ·rename_i hg
  refine ⟨hg, ?_⟩
  split at h
  ·rename_i f xs ats hop
   split at h
   ·rename_i d hf hdst
    split at h
    ·rename_i us hd hx
     obtain ⟨dst, op, ty, pos, af, g⟩ := o
     simp only at hop hdst hg
     subst hop hdst hg
     refine um hi (me hG.x f _ σ.h) (fun {post ids} hc hr hp => ?_) (h.mono fun x hx => hx.toS)
     have hpa := jL (fz (ρ := ρ) hx) (eK [] us (ee _ _)) (dg _ _)
     refine t8 hc hpa (eU _) (fun kk oo hm => absurd (List.eq_of_mem_replicate hm) (by simp)) (jK hi ids) (fun kk cs hk => by rw [gY]; exact lD hi ids kk cs hk) hd ?_ ?_ ?_
     ·intro u H' hp'
      rw [eN]
      exact hr u H' hp'
     ·intro v H' hp'
      exact ⟨[], fun k cs hk => by simp [av] at hk, hp v H' hp'⟩
     ·intro H'
      rw [eN]; rfl
    ·cases h
   ·exact old h
  ·exact old h
theorem EQ {n0 : Nat} (hK : Low (fun τ => aA P Q ks τ)) : ∀ (n : Nat) (done : List Nat), Low (Ae P Q ks l n0 n done)
 | 0, done => fun σ σ' hn hs h => ⟨h.1, hK σ σ' hn hs h.2⟩
 | n + 1, done => fun σ σ' hn hs h => ⟨fun e => hK σ σ' hn hs (h.1 e), fun i hi o ho => by
   obtain ⟨h1, h2, h3⟩ := h.2 i hi o ho
   refine ⟨hn.trans h1, h2, fun F X a hsim => ?_⟩
   rw [hn]
   exact h3 F X a (hs _ _ _ hsim)⟩
theorem AH {n0 : Nat} (hG : GOk P Y E G) (hK : Low (fun τ => aA P Q ks τ)) (l : List Oper) : ∀ (n : Nat) (done : List Nat) (σ : TS E.T) (ρ : Rn), Inj ρ σ.h → (FN Y E G n0 l n done σ).holds (OnX P E Q ρ ks ks) → Ae P Q ks l n0 n done (σ.to E.toEnc ρ)
 | 0, done, σ, ρ, hi, h => by
   unfold FN at h
   split at h
   ·rename_i e; exact ⟨e, h ρ hi (Agr.refl ρ)⟩
   ·cases h
 | n + 1, done, σ, ρ, hi, h => by
   unfold FN at h
   split at h
   ·rename_i e
    exact ⟨fun _ => h ρ hi (Agr.refl ρ), fun i hi' => by rw [e] at hi'; cases hi'⟩
   ·rename_i e
    refine ⟨fun e' => absurd e' (by simpa using e), fun i hi' o ho => ?_⟩
    have hb := tl h _ (List.mem_map_of_mem hi')
    simp only [ho] at hb
    split at hb
    ·rename_i o' hn e1
     have e2 : o = o' := Option.some.inj e1
     subst e2
     have := CW (Y := Y) (R := Ae P Q ks l n0 n (i :: done)) (RP := fun v H2 => Stk P Q ks (.panic [{ v := v, recovered := false }]) ⟨n0, [], H2, []⟩) hi hG (EQ hK n _) ((aN hb).mono fun x hx => by
      cases x with
      | st σ' => exact fun ρ' hi2 ha => AH hG hK l n (i :: done) σ' ρ' hi2 (Tree.holds.mono (fun y hy => OnX.agr ha hy) hx)
      | pan v => exact hx _)
     exact ⟨Nat.eq_of_beq_eq_true hn, this.1, this.2⟩
    ·cases hb
theorem Ir {id : Nat} {ops : List Oper} (hm : P.follows .mixedOrders = true) (hG : GOk P Y E G) (hi : Inj ρ σ.h) (h : (Ln Y E G ops σ).holds (OnX P E Q ρ ks ks)) : aA P Q (.c (.region id ops.toArray true) :: ks) (σ.to E.toEnc ρ) := by
 unfold Ln at h
 split at h
 ·refine Am ?_
  refine Nu hm ?_
  refine AH (Y := Y) hG (oU rfl) ops ops.length [] σ ρ hi (h.mono fun x hx => ?_)
  cases x with
  | st σ' => exact fun ρ' hi' ha => vv rfl (hx ρ' hi' ha)
  | pan v => exact hx
 ·cases h
theorem Ba {p : Nat → Prop} (hp : ∀ (q : Nat) oq, l[q]? = some oq → p q → ∀ d ∈ bf oq, p d) : ∀ (n : Nat) (S : List Nat), (∀ j ∈ S, p j) → ∀ j ∈ OK l n S, p j
 | 0, S, h => h
 | n + 1, S, h => Ba hp n _ (by
   split
   ·rename_i o h1 h2
    intro j hj
    rcases List.mem_append.1 hj with hj | hj
    ·exact hp n o h2 (h n (xn h1)) j hj
    ·exact h j hj
   ·exact h)
theorem yx {K : AS → Prop} {RP : Value → List (Nat × List AV) → Prop} {n : Nat} (hG : GOk P Y E G) (hK : Low K) : ∀ (cs : List Nat) (σ : TS E.T) (ρ : Rn), Inj ρ σ.h → (AF Y E G n l cs σ).holds (OnA K RP ρ) → kU P n RP K (cs.filterMap fun i => l[i]?) (σ.to E.toEnc ρ)
 | [], σ, ρ, hi, h => h ρ hi (Agr.refl ρ)
 | c :: cs, σ, ρ, hi, h => by
   unfold AF at h
   split at h
   ·rename_i o hn ho
    rw [List.filterMap_cons, ho]
    refine ⟨Nat.eq_of_beq_eq_true hn, (CW (Y := Y) hi hG (pv hK _) ?_).2⟩
    refine (aN h).mono fun x hx => ?_
    cases x with
    | st σ' =>
      intro ρ' hi' ha
      refine yx hG hK cs σ' ρ' hi' (Tree.holds.mono (fun y hy => ?_) hx)
      cases y with
      | st τ => exact fun ρ'' hi'' ha' => hy ρ'' hi'' (ha.trans ha')
      | pan v => exact hy
    | pan v => exact hx
   ·cases h
theorem De {id : Nat} {ops : List Oper} {fl : List Bool} {ids cs1 cs2 : List Nat} {ld : List (Nat × Nat × Nat)} (hm : P.follows .mixedOrders = true) (hG : GOk P Y E G) (hi : Inj ρ σ.h) (he : σ.e = []) (h : (EP Y E G ops σ fl ids cs1 cs2 ld).holds (OnX P E Q ρ ks ks)) : aA P Q (.c (.region id ops.toArray true) :: ks) (σ.to E.toEnc ρ) := by
 unfold EP at h
 split at h
 ·rename_i hB
  simp only [Bool.and_eq_true] at hB
  obtain ⟨⟨hB, hids⟩, hld⟩ := hB
  obtain ⟨hld1, hld2⟩ := E2 (ρ := ρ) hld
  refine Am ?_
  refine FM (st := stA ρ σ.h ids) (mN := mNf fl) (mB := mBf ops cs2) (ld := ldR ρ ld) (cs1 := cs1) (cs2 := cs2) hm (Au hB) (fun i c o hmi hmb hc ho => ?_) (by simp only [TS.to, he]; rfl) hld1 hld2 ?_
  ·unfold mBf at hmb
   cases cs2 with
   | nil => cases hc
   | cons c' r =>
     simp only [List.head?_cons, Option.some.injEq] at hc
     subst hc
     exact fun p hp hc => Ba hp (c' + 1) [c'] (fun j hj => by rw [List.mem_singleton] at hj; subst hj; exact hc) i (xn hmb)
  ·have e1 : (σ.to E.toEnc ρ).withH ((σ.to E.toEnc ρ).h.filter fun p => stA ρ σ.h ids p.1) = (σ.withB (inH ids σ.h)).to E.toEnc ρ := by
    show AS.mk _ _ _ _ = AS.mk _ _ _ _
    rw [show (σ.withB (inH ids σ.h)).h = inH ids σ.h from rfl, DK hi hids]; rfl
   rw [e1]
   refine zG (Y := Y) hG (hi.of_mem Bv) ops 0 _ rfl ?_
   refine (aN h).mono fun σN hN => ?_
   have e2 : ((σN.to E.toEnc ρ).withH ((σ.to E.toEnc ρ).h.filter fun p => !stA ρ σ.h ids p.1)).als (jz ops (mNf fl) 0 ops) = ((σN.withB (xl ids σ.h)).alsA (jz ops (mNf fl) 0 ops)).to E.toEnc ρ := by
    rw [H6]
    congr 1
    show AS.mk _ _ _ _ = AS.mk _ _ _ _
    rw [show (σN.withB (xl ids σ.h)).h = xl ids σ.h from rfl, Im hi hids]; rfl
   rw [e2]
   refine Bg (Y := Y) (all := false) hG (fun e => by cases e) cs1 _ (hi.of_mem DU) ?_
   refine (aN hN).mono fun x hx => ?_
   cases x with
   | pan v => exact ⟨[], fun k cs hk => by simp [av] at hk, hx _⟩
   | st σ1 =>
     intro hi1
     simp only [vP] at hx
     split at hx
     ·rename_i hs
      simp only [Bool.and_eq_true] at hs
      have hin : Inj ρ (σ1.h ++ inH ids σ.h) := hi.sub fun p hp => by
       rcases List.mem_append.1 hp with hp | hp
       ·have := List.all_eq_true.1 hs.1.1 p.1 (List.mem_map_of_mem hp)
        obtain ⟨b, hb⟩ := Option.isSome_iff_exists.1 this
        have hno := List.all_eq_true.1 hs.1.2 p hp
        have hou : (p.1, b) ∈ xl ids σ.h := List.mem_filter.2 ⟨bl hb, hno⟩
        exact ⟨(p.1, b), bl hb, rfl, by rw [v8 hs.2.1 hp]; exact v8 hs.2.2 hou ρ⟩
       ·exact ⟨p, Bv p hp, rfl, rfl⟩
      have e3 : ((σ1.to E.toEnc ρ).withH ((σ1.to E.toEnc ρ).h ++ (σ.to E.toEnc ρ).h.filter fun p => stA ρ σ.h ids p.1)).alc (ldR ρ ld) = ((σ1.withB (σ1.h ++ inH ids σ.h)).alcT ld).to E.toEnc ρ := by
       rw [GY]
       congr 1
       show AS.mk _ _ _ _ = AS.mk _ _ _ _
       have : hTo E.toEnc ρ (σ1.h ++ inH ids σ.h) = hTo E.toEnc ρ σ1.h ++ hTo E.toEnc ρ (inH ids σ.h) := nA _ _ _ _
       rw [show (σ1.withB (σ1.h ++ inH ids σ.h)).h = σ1.h ++ inH ids σ.h from rfl, this, DK hi hids]; rfl
      rw [e3]
      refine (pv (oU rfl) _).low ?_ Fq rfl
      refine yx (Y := Y) hG (oU rfl) cs2 _ ρ hin ?_
      refine hx.mono fun y hy => ?_
      cases y with
      | pan v => exact hy _
      | st σ3 => exact fun ρ3 hi3 ha3 => vv rfl (hy ρ3 hi3 ha3)
     ·cases hx
 ·exact Ir (Y := Y) hm hG hi h
theorem BB {id : Nat} {ops : List Oper} (hm : P.follows .mixedOrders = true) (hG : GOk P Y E G) (hi : Inj ρ σ.h) (h : (JQ Y E G ops σ).holds (OnX P E Q ρ ks ks)) : aA P Q (.c (.region id ops.toArray true) :: ks) (σ.to E.toEnc ρ) := by
 unfold JQ at h
 split at h
 ·rename_i he
  exact De (Y := Y) hm hG hi he h
 ·cases h
theorem MX {id : Nat} {ops : Array Oper} {draw : Bool} (hm : P.follows .mixedOrders = true) (hG : GOk P Y E G) (hi : Inj ρ σ.h) (h : (evR Y E G ops.toList draw σ).holds (OnX P E Q ρ ks ks)) : aA P Q (.c (.region id ops draw) :: ks) (σ.to E.toEnc ρ) := by
 have hops : ops = ops.toList.toArray := by simp
 unfold evR at h
 split at h
 ·rw [hops]
  refine cH ?_
  exact lS (Y := Y) hG ops.toList ops.toList 0 σ ρ (fun i o ho => by simpa using ho) (by simp) hi h
 ·split at h
  ·rename_i he
   split at h
   ·rename_i hB
    rw [hops]
    refine Am ?_
    refine JV hm hB (by simp only [TS.to, he]; rfl) ?_
    refine qZ (Y := Y) (K := fun σ' => aA P Q (.o [] 0 [] :: ks) σ') (fun σ1 σ2 h1 h2 => fg rfl (pR h1) h2) hG ops.toList σ.h hi ops.toList σ rfl ?_
    exact (aN h).mono fun σ' hσ (hh : σ'.h = σ.h) => vv rfl (hσ ρ (hh ▸ hi) (Agr.refl ρ))
   ·cases h
  ·rename_i body om after hsp he
   split at h
   ·rename_i hB
    have hl := pj hsp
    rw [hops]
    refine Fx hm hl hB (by simp only [TS.to, he]; rfl) ?_
    refine qZ (Y := Y) (K := fun σ' => aA P Q (.o ops.toList body.length (om :: after) :: ks) (σ'.als (cW body))) (fun σ1 σ2 h1 h2 => fg rfl (pR (h1.als _)) h2) hG ops.toList σ.h hi body σ rfl ?_
    refine (aN h).mono fun σ' hσ (hh : σ'.h = σ.h) => ?_
    refine fg rfl xZ ?_
    refine lS (Y := Y) hG ops.toList (om :: after) body.length (σ'.alsT (cW body)) ρ (fun i o ho => ?_) ?_ (hh ▸ hi) hσ
    ·rw [hl, List.getElem?_append_right (by omega)]; simpa using ho
    ·rw [hl]; simp
   ·split at h
    ·split at h
     ·rw [hops]
      exact C2 (Y := Y) hm hG hi he (pj hsp) h
     ·rw [hops]
      exact BB (Y := Y) hm hG hi h
    ·rw [hops]
     exact BB (Y := Y) hm hG hi h
  ·cases h
end
end Go.Proofs.YtmjpdbbjiipnfaaGreat
namespace Go.Proofs.YtmjpdbbjiipnfaaGreat
open Go.RowKit P
set_option linter.unusedVariables false
set_option linter.unusedSimpArgs false
def mX (X : GW) (k : Nat) (cs : List AV) : Prop := X.g k = some cs.length ∧ ∃ (arr : Array Value) (e : TypeId) (fr : Nat × Nat), X.w.heap[k]? = some (.cells arr e fr) ∧ arr.size = cs.length ∧ ∀ (o : Nat) u x, cs[o]? = some u → arr[o]? = some x → Rel X u x
def AS.unbox (σ : AS) (k : Nat) : AS := { n := σ.n, t := σ.t, h := σ.h.filter fun p => !(p.1 == k), e := [] }
theorem SimE.freeze {F : Nat → Prop} {X : GW} {σ : AS} {tm : Array Value} {k : Nat} {cs : List AV} (h : SimE F X σ tm) (hb : look σ.h k = some cs) (hm : cE cs = false) :
  ∃ X' : GW, X'.w = X.w ∧ SimE F X' (σ.unbox k) tm ∧ mX X' k cs ∧ Ext F X X' := by
 obtain ⟨b1, b2, arr, el, fr, b3, b4, b5, b6⟩ := (h.box k cs hb).cells hm
 have hkl : k < X.w.heap.size := (Array.getElem?_eq_some_iff.1 b3).1
 have hpres : jw X ⟨X.w, fun b => if b = k then some cs.length else X.g b⟩ := fun b m hbm => by
  have hbk : b ≠ k := fun e => by rw [e, b1] at hbm; cases hbm
  exact ⟨m, Nat.le_refl _, by show (if b = k then _ else _) = _; rw [if_neg hbk]; exact hbm, fun _ _ => rfl⟩
 have hown : ∀ {sz' : Nat} {l' : List (List AV)} {x : Value}, ef F X sz' l' x → ef F ⟨X.w, fun b => if b = k then some cs.length else X.g b⟩ sz' l' x := fun {sz' l' x} ho => by
  rcases ho with h1 | ⟨b, cap, cs', e', fr', h1, h2, h3, h4, h5, h6⟩
  ·exact .inl h1
  ·have hbk : b ≠ k := fun e => by rw [e, b1] at h2; cases h2
   exact .inr ⟨b, cap, cs', e', fr', h1, by show (if b = k then _ else _) = _; rw [if_neg hbk]; exact h2, h3, h4, h5, h6⟩
 have owns : ∀ r sz' l', (σ.unbox k).own r = some (sz', l') → σ.own r = some (sz', l') := fun r sz' l' ho => by
  cases r with
  | s t => exact ho
  | c k' o =>
    simp only [AS.unbox, AS.own] at ho
    cases hq : look (σ.h.filter fun p => !(p.1 == k)) k' with
    | none => rw [hq] at ho; cases ho
    | some cs' =>
      obtain ⟨q1, q2⟩ := fZ hq
      rw [hq] at ho
      simp only [AS.own, q2]; exact ho
 refine ⟨⟨X.w, fun b => if b = k then some cs.length else X.g b⟩, rfl, ⟨⟨h.size, fun b m hbm => ?_, h.fb, fun t u hu => (h.slot t u hu).mono hpres, fun k' cs' hk' => ?_, fun x r hx => by simp [AS.unbox, av] at hx, fun r sz' l' ho => ?_, fun r r' s1 l1 s2 l2 a n1 c1 a' n2 c2 hne ho ho' hr hr' => ?_⟩, fun p hp => by cases hp⟩, ⟨by show (if k = k then _ else _) = _; rw [if_pos rfl], arr, el, fr, b3, b4, fun o u x hu hx => (b6 o u x hu hx).mono hpres⟩, rfl, rfl, rfl, Nat.le_refl _, fun b hF => ⟨rfl, ?_⟩, hpres⟩
 ·simp only at hbm
  split at hbm
  ·rename_i e; rw [e]; exact hkl
  ·exact h.gb b m hbm
 ·obtain ⟨q1, q2⟩ := fZ hk'
  exact (h.box k' cs' q2).keep ⟨rfl, by show (if k' = k then _ else _) = _; rw [if_neg q1], (h.box k' cs' q2).nF⟩ hpres
 ·obtain ⟨x, k1, k2⟩ := h.own r sz' l' (owns r sz' l' ho)
  exact ⟨x, k1, hown k2⟩
 ·exact h.disj r r' s1 l1 s2 l2 a n1 c1 a' n2 c2 hne (owns _ _ _ ho) (owns _ _ _ ho') hr hr'
 ·show (if b = k then _ else _) = _
  rw [if_neg (fun e => b2 (by rw [← e]; exact hF))]
theorem mX.sl {X : GW} {k : Nat} {cs : List AV} (h : mX X k cs) {sz : Nat} {L : List (List AV)} {sp : List AV} {c : Nat} (hcs : cs = L.flatten ++ sp) (hsz : ∀ r ∈ L, r.length = sz) (hc : L.length ≤ c) : Rel X (.sl false sz L) (.slice (some ⟨k, 0, none⟩) L.length c) := by
 obtain ⟨h1, arr, e, fr, h2, h3, h4⟩ := h
 have hcell : ∀ (i j : Nat) (r : List AV) (u : AV), L[i]? = some r → r[j]? = some u → ∃ x, arr[i * sz + j]? = some x ∧ Rel X u x := fun i j r u hi hj => by
  have k1 := s9 hsz hi hj
  have k2 : cs[i * sz + j]? = some u := by rw [hcs, List.getElem?_append_left (List.getElem?_eq_some_iff.1 k1).1]; exact k1
  have k3 : i * sz + j < arr.size := by rw [h3]; exact (List.getElem?_eq_some_iff.1 k2).1
  exact ⟨arr[i * sz + j], Array.getElem?_eq_getElem k3, h4 _ _ _ k2 (Array.getElem?_eq_getElem k3)⟩
 refine .sl false sz L k 0 c cs.length (fun i j => arr.getD (i * sz + j) undef) h1 (by rw [hcs, List.length_append, oD hsz]; omega) hc (fun i r hi => hsz r (List.mem_of_getElem? hi)) (fun i j r u hi hj => ?_) (fun i j r u hi hj => ?_)
 ·obtain ⟨x, k1, k2⟩ := hcell i j r u hi hj
  show X.w.cell? ⟨k, 0 + i * sz + j, none⟩ = _
  simp only [World.cell?, h2, Nat.zero_add, Array.getD_eq_getD_getElem?, k1]; rfl
 ·obtain ⟨x, k1, k2⟩ := hcell i j r u hi hj
  rw [Array.getD_eq_getD_getElem?, k1]
  exact k2
theorem mX.el {X : GW} {k : Nat} {cs : List AV} (h : mX X k cs) : Rel X (.el cs) (.pointer (some ⟨k, 0, none⟩)) := by
 obtain ⟨h1, arr, e, fr, h2, h3, h4⟩ := h
 have hcell : ∀ (j : Nat) (u : AV), cs[j]? = some u → ∃ x, arr[j]? = some x ∧ Rel X u x := fun j u hj => by
  have k3 : j < arr.size := by rw [h3]; exact (List.getElem?_eq_some_iff.1 hj).1
  exact ⟨arr[j], Array.getElem?_eq_getElem k3, h4 _ _ _ hj (Array.getElem?_eq_getElem k3)⟩
 refine .el cs k 0 cs.length (fun j => arr.getD j undef) h1 (by omega) (fun j u hj => ?_) (fun j u hj => ?_)
 ·obtain ⟨x, k1, k2⟩ := hcell j u hj
  simp only [World.cell?, h2, Nat.zero_add, Array.getD_eq_getD_getElem?, k1]; rfl
 ·obtain ⟨x, k1, k2⟩ := hcell j u hj
  rw [Array.getD_eq_getD_getElem?, k1]
  exact k2
end Go.Proofs.YtmjpdbbjiipnfaaGreat
namespace Go.Proofs.YtmjpdbbjiipnfaaGreat
open Go.RowKit P
set_option linter.unusedVariables false
set_option linter.unusedSimpArgs false
def w9 {α : Type} (n : Nat) (l : List α) : Option (List α) := if n = l.length then some l else none
theorem ug {α : Type} {n : Nat} {l r : List α} (h : w9 n l = some r) : r = l ∧ n = l.length := by
 unfold w9 at h
 split at h
 ·rename_i e; cases h; exact ⟨rfl, e⟩
 ·cases h
inductive Cl where
 | v (t : Ty)
 | b (n : Nat)
 | a (n : Nat)
inductive Pl where
 | s (s : Nat)
 | c (k o : Nat)
inductive Gh where
 | nl (p : Pl) (i : Nat) (t : Ty)
 | cl (i : Nat) (c : Cl) (p : Pl)
def IP (E : Env) (i : Nat) (c : Cl) (b : TB E.T) (x : TA E.T) : Tree (TA E.T) :=
 match c, b, x with
 | .v t, .vec i' t' l, .vec t2 i2 n => match Nat.beq i' i && Nat.beq i2 i, fV (.sl t') (.sl t) l, decide (t2 = t) with
   | true, some l', true => .bnd (w9 n l') fun r => .leaf (.d (.sl t) r)
   | _, _, _ => .fail
 | .b n, .cs l, .box i2 0 => match Nat.beq i2 i, E.pk n (l.map TA.rd) with
   | true, some (z, []) => .leaf (.d (.ptr (.nam n)) (some z))
   | _, _ => .fail
 | .a n, .row .bool l, .box i2 0 => match Nat.beq i2 i with
   | true => .bnd (w9 n l) fun r => .leaf (.d (.ptr (.bits n)) (some r))
   | false => .fail
 | _, _, _ => .fail
def ghT (E : Env) (g : Gh) (σ : TS E.T) : Tree (TS E.T) :=
 match g with
 | .nl (.s s) i t => match look σ.t s, σ.noId i && !big i with
   | some (.a (.raw (.slice none 0 0))), true => .leaf { n := σ.n, t := (s, .a (.vec t i 0)) :: σ.t, h := (i, .vec i t []) :: σ.h, e := [] }
   | _, _ => .fail
 | .nl (.c k o) i t => match look σ.h k, σ.noId i && !big i && !Nat.beq k i with
   | some (.cs cs), true => match cs[o]? with
     | some (.raw (.slice none 0 0)) => .leaf { n := σ.n, t := σ.t, h := (i, .vec i t []) :: (k, .cs (cs.set o (.vec t i 0))) :: σ.h, e := [] }
     | _ => .fail
   | _, _ => .fail
 | .cl i c (.s s) => match look σ.h i, look σ.t s with
   | some b, some (.a x) => (IP E i c b x).bind fun y => .leaf { n := σ.n, t := (s, .a y) :: σ.t, h := dropHH [i] σ.h, e := [] }
   | _, _ => .fail
 | .cl i c (.c k o) => match look σ.h i, look σ.h k, Nat.beq k i with
   | some b, some (.cs cs), false => match cs[o]?, cs.all TA.plain with
     | some x, true => (IP E i c b x).bind fun y => .leaf { n := σ.n, t := σ.t, h := (k, .cs (cs.set o y)) :: dropHH [i] σ.h, e := [] }
     | _, _ => .fail
   | _, _, _ => .fail
def Ia (E : Env) : List Gh → TS E.T → Tree (TS E.T)
 | [], σ => .leaf σ
 | g :: r, σ => (ghT E g σ).bind (Ia E r)
section
variable {E : Env} {ρ : Rn}
theorem Rel.el_le {X : GW} {cs cs' : List AV} {v : Value} (h : Rel X (.el cs) v) (hl : LeL cs cs') : Rel X (.el cs') v := by
 cases h with
 | el _ b off n c hg hn hm hr =>
   refine .el cs' b off n c hg (by rw [← hl.length]; exact hn) (fun j u hj => ?_) (fun j u hj => ?_)
   ·obtain ⟨u0, k1, k2⟩ := hl.get j u hj
    exact hm j u0 k1
   ·obtain ⟨u0, k1, k2⟩ := hl.get j u hj
    exact k2.rel (hr j u0 k1)
theorem Fj {i : Nat} {c : Cl} {b : TB E.T} {x : TA E.T} {K : TA E.T → Prop} (h : (IP E i c b x).holds K) :
  ∃ y, K y ∧ y.plain = true ∧ ∀ ρ : Rn, cE (b.to E.toEnc ρ) = false ∧ ∀ X v, Rel X (x.to E.toEnc ρ) v → (aG ρ b = true → mX X (ρ i) (b.to E.toEnc ρ)) → Rel X (y.to E.toEnc ρ) v := by
 unfold IP at h
 split at h
 ·rename_i t i' t' l t2 i2 n
  split at h
  ·rename_i l' h1 h2 h3
   rw [Bool.and_eq_true] at h1
   have e1 := Nat.eq_of_beq_eq_true h1.1
   have e2 := Nat.eq_of_beq_eq_true h1.2
   have e3 := of_decide_eq_true h3
   obtain ⟨e4, rfl⟩ := cw h2
   cases e4
   subst e1; subst e2; subst e3
   obtain ⟨r, hr, hk⟩ := h
   obtain ⟨e5, hn⟩ := ug hr
   subst e5
   refine ⟨_, hk, rfl, fun ρ => ⟨dL fR, fun X v hv hf => ?_⟩⟩
   have e6 := bj hv
   subst e6
   show Rel X (.sl false (csz E.toEnc t2) (List.map (cells E.toEnc t2) r)) _
   unfold vecV
   split
   ·rename_i hc
    rw [Bool.and_eq_true] at hc
    have n0 := Nat.eq_of_beq_eq_true hc.2
    have : r = [] := List.length_eq_zero_iff.1 (hn.symm.trans n0)
    subst this
    exact .nl _ _ _ _
   ·rename_i hc
    have hlive : aG ρ (TB.vec i2 t2 r : TB E.T) = true := by
     simp only [aG]
     cases hq : (ρ.k i2).nil && r.isEmpty with
     | false => rfl
     | true =>
       rw [Bool.and_eq_true] at hq
       exfalso; apply hc
       rw [hq.1]
       have : r = [] := List.isEmpty_iff.1 hq.2
       rw [hn, this]; rfl
    have := (hf hlive).sl (sz := csz E.toEnc t2) (L := List.map (cells E.toEnc t2) r) (sp := (ρ.k i2).sp.map AV.v) (c := n + (ρ.k i2).sp.length / csz E.toEnc t2) rfl (fun q hq => by
     obtain ⟨z, _, rfl⟩ := List.mem_map.1 hq
     exact cJ _ _ _) (by rw [List.length_map, hn]; exact Nat.le_add_right _ _)
    rw [List.length_map, ← hn] at this
    exact this
  ·cases h
 ·rename_i n l i2
  split at h
  ·rename_i z h1 h2
   have e1 := Nat.eq_of_beq_eq_true h1
   subst e1
   refine ⟨_, h, rfl, fun ρ => ⟨dL fun u hu => ?_, fun X v hv hf => ?_⟩⟩
   ·obtain ⟨a, _, rfl⟩ := List.mem_map.1 hu
    exact TA.to_notMp _ _ _
   ·have e6 := bj hv
    subst e6
    have hp := E.pk_to n _ z [] ρ h2
    simp only [List.map_nil, List.append_nil] at hp
    have h3 := (hf rfl).el
    refine Rel.el_le (h3.el_le ?_) hp
    have := gK (E := E) (ρ := ρ) (l.map TA.rd)
    refine (gK (E := E) (ρ := ρ) l).trans ?_
    rw [List.map_map] at this
    exact this
  ·cases h
 ·rename_i n l i2
  split at h
  ·rename_i h1
   have e1 := Nat.eq_of_beq_eq_true h1
   subst e1
   obtain ⟨r, hr, hk⟩ := h
   obtain ⟨e5, hn⟩ := ug hr
   subst e5
   refine ⟨_, hk, rfl, fun ρ => ?_⟩
   have hfl := iE (E := E) (ρ := ρ) (ty := .bool) rfl r
   refine ⟨dL fun u hu => ?_, fun X v hv hf => ?_⟩
   ·rw [hfl] at hu
    obtain ⟨a, _, rfl⟩ := List.mem_map.1 hu
    exact mo _ _
   ·have e6 := bj hv
    subst e6
    have h3 := (hf rfl).el
    have e7 : (TB.row .bool r : TB E.T).to E.toEnc ρ = cells E.toEnc (.bits n) r := by
     rw [hfl]
     show _ = (List.range n).map fun i => AV.v (.bool (List.getD r i false))
     apply List.ext_getElem
     ·simp; exact hn.symm
     ·intro j k1 k2
      simp only [List.getElem_map, List.getElem_range]
      have : j < List.length r := by simpa using k1
      have e8 : ∀ (q : List Bool) (hj : j < q.length), AV.v (.bool q[j]) = AV.v (.bool (q.getD j false)) := fun q hj => by
       rw [List.getD_eq_getElem?_getD, List.getElem?_eq_getElem hj]; rfl
      exact e8 r this
    rw [e7] at h3
    exact h3
  ·cases h
 ·cases h
theorem iP {α : Type} {k j : Nat} : ∀ {l : List (Nat × α)}, j ≠ k → look (l.filter fun p => !(p.1 == k)) j = look l j
 | [], _ => rfl
 | (a, b) :: r, h => by
   rw [List.filter_cons]
   by_cases e : a = k
   ·rw [if_neg (by simp [e]), iP h, ab, if_neg (fun e2 => h (e2.trans e))]
   ·rw [if_pos (by simpa using e), ab, ab, iP h]
theorem iZ {T : Nat → Type} {i j : Nat} (h : j ≠ i) : ∀ {l : List (Nat × TB T)}, look (dropHH [i] l) j = look l j
 | [] => rfl
 | (a, b) :: r => by
   simp only [dropHH]
   cases hm : ge [i] a with
   | true =>
     have : a = i := by simpa using cm.1 hm
     rw [ab, if_neg (fun e => h (e.trans this))]
     exact iZ h
   | false => rw [ab, ab, iZ h]
theorem FQ {σ : TS E.T} {i : Nat} {b : TB E.T} (hi : Inj ρ σ.h) (hb : look σ.h i = some b) (hm : cE (b.to E.toEnc ρ) = false) :
  Inj ρ (dropHH [i] σ.h) ∧ ∀ F X tm, SimE F X (σ.to E.toEnc ρ) tm → ∃ X' : GW, X'.w = X.w ∧ SimE F X' ((⟨σ.n, σ.t, dropHH [i] σ.h, []⟩ : TS E.T).to E.toEnc ρ) tm ∧ (aG ρ b = true → mX X' (ρ i) (b.to E.toEnc ρ)) ∧ Ext F X X' := by
 have hi' : Inj ρ (dropHH [i] σ.h) := hi.sub fun p hp => ⟨p, dW p hp, rfl, rfl⟩
 refine ⟨hi', fun F X tm hs => ?_⟩
 cases hl : aG ρ b with
 | true =>
   obtain ⟨X', h1, h2, h3, h4⟩ := hs.freeze (bD E.toEnc hi hb hl) hm
   refine ⟨X', h1, h2.le3 rfl (fun t u hu => ⟨u, hu, .inl (.refl _)⟩) (fun k cs' hk => ⟨cs', ?_, LeL.refl _⟩) (fun p hp => by cases hp), fun _ => h3, h4⟩
   obtain ⟨j, b', k1, k2, k3, k4⟩ := fh hi' hk
   obtain ⟨k5, k6⟩ := fH k2
   subst k1; subst k3
   show look ((hTo E.toEnc ρ σ.h).filter _) _ = _
   rw [iP]
   ·exact bD E.toEnc hi k5 k4
   ·intro e
    have := (hi _ (bl k5) _ (bl hb)).1 k4 hl e
    exact k6 (by simp only at this; rw [this]; exact List.mem_singleton_self _)
 | false =>
   refine ⟨X, rfl, hs.le3 rfl (fun t u hu => ⟨u, hu, .inl (.refl _)⟩) (fun k cs' hk => ⟨cs', ?_, LeL.refl _⟩) (fun p hp => by cases hp), (fun e => by cases e), Ext.refl F X⟩
   obtain ⟨j, b', k1, k2, k3, k4⟩ := fh hi' hk
   obtain ⟨k5, k6⟩ := fH k2
   subst k1; subst k3
   exact bD E.toEnc hi k5 k4
theorem Og {l : List (TA E.T)} (h : l.all TA.plain = true) : eH (l.map (TA.to E.toEnc ρ)) := fun u hu => by
 obtain ⟨a, ha, rfl⟩ := List.mem_map.1 hu
 exact TA.plain_to _ _ (List.all_eq_true.1 h a ha)
theorem cU.set {F : Nat → Prop} {X : GW} {k o : Nat} {cs : List AV} {x y : AV} (h : cU F X k cs) (hx : cs[o]? = some x) (hr : ∀ v, Rel X x v → Rel X y v) : cU F X k (cs.set o y) := by
 obtain ⟨b1, b2, arr, e, fr, b3, b4, b5, b6⟩ := h
 refine ⟨b1, b2, arr, e, fr, b3, by rw [List.length_set]; exact b4, b5, fun j u v hu hv => ?_⟩
 rw [List.getElem?_set] at hu
 split at hu
 ·rename_i e; subst e
  split at hu
  ·cases hu; exact hr v (b6 o x v hx hv)
  ·cases hu
 ·exact b6 j u v hu hv
def GhOk (σ τ : TS E.T) : Prop := ∀ ρ, Inj ρ σ.h → ∃ ρ', Agr ρ ρ' ∧ Inj ρ' τ.h ∧ ∀ F X tm, SimE F X (σ.to E.toEnc ρ) tm → ∃ X' : GW, X'.w = X.w ∧ SimE F X' (τ.to E.toEnc ρ') tm ∧ Ext F X X'
theorem GhOk.refl (σ : TS E.T) : GhOk σ σ := fun ρ hi => ⟨ρ, Agr.refl ρ, hi, fun F X tm hs => ⟨X, rfl, hs, Ext.refl F X⟩⟩
theorem GhOk.trans {σ τ υ : TS E.T} (h : GhOk σ τ) (k : GhOk τ υ) : GhOk σ υ := fun ρ hi => by
 obtain ⟨ρ1, a1, i1, s1⟩ := h ρ hi
 obtain ⟨ρ2, a2, i2, s2⟩ := k ρ1 i1
 refine ⟨ρ2, a1.trans a2, i2, fun F X tm hs => ?_⟩
 obtain ⟨X1, w1, q1, e1⟩ := s1 F X tm hs
 obtain ⟨X2, w2, q2, e2⟩ := s2 F X1 tm q1
 exact ⟨X2, w2.trans w1, q2, e1.trans e2⟩
theorem Dz {i : Nat} {x : Bk} (h : (!big i) = true) : Agr ρ (ci ρ i x) := fun j hj => by
 unfold ci
 simp only
 rw [if_neg (fun e => by rw [e] at hj; rw [hj] at h; cases h)]
theorem tZ {i : Nat} {t : Ty} {h : List (Nat × TB E.T)} : hTo E.toEnc (ci ρ i ⟨0, true, []⟩) ((i, .vec i t []) :: h) = hTo E.toEnc (ci ρ i ⟨0, true, []⟩) h := cv E.toEnc h (by simp [aG, ci])
theorem Ly {g : Gh} {σ : TS E.T} {K : TS E.T → Prop} (h : (ghT E g σ).holds K) : ∃ τ, K τ ∧ GhOk σ τ := by
 unfold ghT at h
 split at h
 ·rename_i s i t
  split at h
  ·rename_i hl hc
   rw [Bool.and_eq_true] at hc
   refine ⟨_, h, fun ρ hi => ⟨ci ρ i ⟨0, true, []⟩, Dz hc.2, fu hi hc.1 fun e => ?_, fun F X tm hs => ⟨X, rfl, ?_, Ext.refl F X⟩⟩⟩
   ·simp [aG, ci] at e
   ·rw [← TS.updB_to (y := ⟨0, true, []⟩) hc.1] at hs
    refine hs.le3 rfl (fun t' u hu => ?_) (fun k cs' hk => ⟨cs', by rw [← hk]; exact (congrArg (fun l => look l k) tZ).symm, LeL.refl _⟩) (fun p hp => by cases hp)
    simp only [TS.to, aQ, ab] at hu ⊢
    split at hu
    ·rename_i e; subst e
     cases hu
     refine ⟨_, by rw [hl]; rfl, .inl ?_⟩
     show Le1 (.v (.slice none 0 0)) (.v (vecV _ _ _))
     simp [vecV, ci, iu]
     exact .refl _
    ·exact ⟨u, hu, .inl (.refl _)⟩
  ·cases h
 ·rename_i k o i t
  split at h
  ·rename_i cs hl hc
   rw [Bool.and_eq_true, Bool.and_eq_true] at hc
   split at h
   ·rename_i ho
    have hki : k ≠ i := fun e => by rw [e] at hc; simp at hc
    refine ⟨_, h, fun ρ hi => ?_⟩
    have hn : (⟨σ.n, σ.t, (k, .cs (cs.set o (.raw (.slice none 0 0)))) :: σ.h, σ.e⟩ : TS E.T).noId i = true := by
     have h0 := hc.1.1
     unfold TS.noId at h0 ⊢
     simp only [Bool.and_eq_true] at h0 ⊢
     refine ⟨⟨h0.1.1, ?_⟩, h0.2⟩
     have := List.all_eq_true.1 h0.1.2 _ (bl hl)
     simp only [List.all_cons, Bool.and_eq_true] at this ⊢
     refine ⟨⟨this.1, ?_⟩, h0.1.2⟩
     have e : cs.set o (.raw (.slice none 0 0)) = cs := by
      apply List.ext_getElem?
      intro j
      rw [List.getElem?_set]
      split
      ·rename_i e; subst e
       split
       ·exact ho.symm
       ·rename_i hlt; rw [List.getElem?_eq_none (by omega)]
      ·rfl
     rw [e]; exact this.2
    have hi1 : Inj ρ ((k, .cs (cs.set o (.raw (.slice none 0 0)))) :: σ.h) := gk hi hl rfl
    have hi2 := fu (b := .vec i t []) (x := ⟨0, true, []⟩) (σ := ⟨σ.n, σ.t, (k, .cs (cs.set o (.raw (.slice none 0 0)))) :: σ.h, σ.e⟩) hi1 hn (fun e => by simp [aG, ci] at e)
    refine ⟨ci ρ i ⟨0, true, []⟩, Dz hc.1.2, hi2.sub fun p hp => ?_, fun F X tm hs => ⟨X, rfl, ?_, Ext.refl F X⟩⟩
    ·rcases List.mem_cons.1 hp with rfl | hp
     ·exact ⟨_, List.mem_cons_self, rfl, rfl⟩
     ·rcases List.mem_cons.1 hp with rfl | hp
      ·exact ⟨_, List.mem_cons_of_mem _ List.mem_cons_self, rfl, rfl⟩
      ·exact ⟨p, List.mem_cons_of_mem _ (List.mem_cons_of_mem _ hp), rfl, rfl⟩
    ·rw [← TS.updB_to (y := ⟨0, true, []⟩) hc.1.1] at hs
     refine hs.le3 rfl (fun t' u hu => ⟨u, hu, .inl (.refl _)⟩) (fun k' cs' hk => ⟨cs', ?_, LeL.refl _⟩) (fun p hp => by cases hp)
     have hk' : look (hTo E.toEnc (ci ρ i ⟨0, true, []⟩) ((k, .cs (cs.set o (.vec t i 0))) :: σ.h)) k' = some cs' := by rw [← hk]; exact (congrArg (fun l => look l k') tZ).symm
     rw [bL _ _ rfl, ab] at hk'
     split at hk'
     ·rename_i e
      subst e
      cases hk'
      have hi3 : Inj (ci ρ i ⟨0, true, []⟩) σ.h := hi2.sub fun p hp => ⟨p, List.mem_cons_of_mem _ (List.mem_cons_of_mem _ hp), rfl, rfl⟩
      have := bD E.toEnc hi3 hl rfl
      refine this.trans (congrArg some ?_)
      show cs.map _ = (cs.set o (.vec t i 0)).map _
      apply List.ext_getElem?
      intro j
      rw [List.getElem?_map, List.getElem?_map, List.getElem?_set]
      split
      ·rename_i e; subst e
       have hlt := (List.getElem?_eq_some_iff.1 ho).1
       rw [ho, if_pos hlt]
       simp [TA.to, vecV, ci, iu]
      ·rfl
     ·exact hk'
   ·cases h
  ·cases h
 ·rename_i i c s
  split at h
  ·rename_i b x hb hx
   obtain ⟨y, hk, hy, hcl⟩ := Fj (aN h)
   refine ⟨_, hk, fun ρ hi => ?_⟩
   obtain ⟨hm, hr⟩ := hcl ρ
   obtain ⟨hi', h1⟩ := FQ hi hb hm
   refine ⟨ρ, Agr.refl ρ, hi', fun F X tm hs => ?_⟩
   obtain ⟨X', h2, h3, h4, h5⟩ := h1 F X tm hs
   refine ⟨X', h2, h3.retell rfl (fun t u hu => ?_) (fun k cs' hk => .inl ⟨cs', hk, LeL.refl _⟩) (fun p hp => by cases hp), h5⟩
   simp only [TS.to, aQ, ab] at hu ⊢
   split at hu
   ·rename_i e; subst e
    cases hu
    right
    refine ⟨hr X' _ (h3.slot t _ ?_) h4, TA.plain_to _ _ hy⟩
    simp only [TS.to, aQ, hx]; rfl
   ·exact .inl ⟨u, hu, .inl (.refl _)⟩
  ·cases h
 ·rename_i i c k o
  split at h
  ·rename_i b cs hb hcs hne
   have hki : k ≠ i := fun e => by rw [e, Nat.beq_refl] at hne; cases hne
   split at h
   ·rename_i x hx hp
    obtain ⟨y, hk, hy, hcl⟩ := Fj (aN h)
    refine ⟨_, hk, fun ρ hi => ?_⟩
    obtain ⟨hm, hr⟩ := hcl ρ
    obtain ⟨hi', h1⟩ := FQ hi hb hm
    have hlk : look (dropHH [i] σ.h) k = some (.cs cs) := by rw [iZ hki]; exact hcs
    refine ⟨ρ, Agr.refl ρ, gk hi' hlk rfl, fun F X tm hs => ?_⟩
    obtain ⟨X', h2, h3, h4, h5⟩ := h1 F X tm hs
    refine ⟨X', h2, h3.retell rfl (fun t u hu => .inl ⟨u, hu, .inl (.refl _)⟩) (fun k' cs' hk' => ?_) (fun p hp => by cases hp), h5⟩
    simp only [TS.to] at hk'
    rw [bL _ _ rfl, ab] at hk'
    split at hk'
    ·rename_i e; subst e
     cases hk'
     right
     have hbx := h3.box (ρ k) (cs.map (TA.to E.toEnc ρ)) (bD E.toEnc hi' hlk rfl)
     have hnm : cE (cs.map (TA.to E.toEnc ρ)) = false := dL fun u hu => by
      obtain ⟨a, _, rfl⟩ := List.mem_map.1 hu
      exact TA.to_notMp _ _ _
     have e2 : (TB.cs (cs.set o y) : TB E.T).to E.toEnc ρ = (cs.map (TA.to E.toEnc ρ)).set o (y.to E.toEnc ρ) := by
      show (cs.set o y).map _ = _
      rw [List.map_set]
     rw [e2]
     refine ⟨((hbx.cells hnm).set (by rw [List.getElem?_map, hx]; rfl) fun v hv => hr X' v hv h4).box, ?_⟩
     rw [← List.map_set]
     refine Og (List.all_eq_true.2 fun a ha => ?_)
     rcases List.mem_or_eq_of_mem_set ha with h6 | h6
     ·exact List.all_eq_true.1 hp a h6
     ·rw [h6]; exact hy
    ·exact .inl ⟨cs', hk', LeL.refl _⟩
   ·cases h
  ·cases h
theorem Bf : ∀ {gs : List Gh} {σ : TS E.T} {K : TS E.T → Prop}, (Ia E gs σ).holds K → ∃ τ, K τ ∧ GhOk σ τ
 | [], σ, K, h => ⟨σ, h, GhOk.refl σ⟩
 | g :: r, σ, K, h => by
   obtain ⟨τ, h1, h2⟩ := Ly (aN h)
   obtain ⟨υ, h3, h4⟩ := Bf h1
   exact ⟨υ, h3, h2.trans h4⟩
end
def oN : List Nat → Bool
 | [] => true
 | a :: r => !ge r a && oN r
theorem rC : ∀ {l : List Nat}, oN l = true → l.Nodup
 | [], _ => List.nodup_nil
 | a :: r, h => by
   simp only [oN, Bool.and_eq_true, Bool.not_eq_true'] at h
   exact List.nodup_cons.2 ⟨fun hm => (by rw [cm.2 hm] at h; cases h.1), rC h.2⟩
def gd : List (Nat × Nat) → Nat → Option Nat
 | [], _ => none
 | (a, b) :: r, i => match Nat.beq i a with
   | true => some b
   | false => gd r i
def qg (nm : List (Nat × Nat)) : List (Nat × Nat) := nm.map fun p => (p.2, p.1)
def mE (nm : List (Nat × Nat)) (i : Nat) : Nat := (gd nm i).getD i
def inK (nm : List (Nat × Nat)) (i : Nat) : Bool := (gd nm i).isSome
theorem gy : ∀ {nm : List (Nat × Nat)} {i j : Nat}, gd nm i = some j → (i, j) ∈ nm
 | [], _, _, h => by cases h
 | (a, b) :: r, i, j, h => by
   simp only [gd] at h
   cases e : Nat.beq i a with
   | true => rw [e] at h; cases h; rw [Nat.eq_of_beq_eq_true e]; exact List.mem_cons_self
   | false => rw [e] at h; exact List.mem_cons_of_mem _ (gy h)
theorem fM : ∀ {nm : List (Nat × Nat)} {i j : Nat}, oN (nm.map (·.2)) = true → (i, j) ∈ nm → gd (qg nm) j = some i
 | [], _, _, _, h => by cases h
 | (a, b) :: r, i, j, hn, h => by
   simp only [List.map_cons, oN, Bool.and_eq_true, Bool.not_eq_true'] at hn
   simp only [qg, List.map_cons, gd]
   rcases List.mem_cons.1 h with h2 | h2
   ·cases h2; rw [Nat.beq_refl]
   ·have hne : Nat.beq j b = false := by
     cases e : Nat.beq j b with
     | false => rfl
     | true =>
       have := Nat.eq_of_beq_eq_true e
       subst this
       have : ge (r.map (·.2)) j = true := cm.2 (List.mem_map.2 ⟨(i, j), h2, rfl⟩)
       rw [this] at hn; cases hn.1
    rw [hne]
    exact fM hn.2 h2
def Qe {T : Nat → Type} (h : List (Nat × TB T)) (i : Nat) : Bool := (look h i).isSome
def su {T : Nat → Type} (h : List (Nat × TB T)) : List (Nat × Nat) → List (Nat × Nat)
 | [] => []
 | p :: r => match Qe h p.1 with
   | true => p :: su h r
   | false => su h r
def yn (nm : List (Nat × Nat)) (j : Nat) : Nat := (gd (qg nm) j).getD j
def okP (nm : List (Nat × Nat)) (i : Nat) : Bool := inK nm i || !ge (nm.map (·.2)) i
def okN (nm : List (Nat × Nat)) : Bool := oN (nm.map (·.2)) && nm.all fun p => !big p.2
def yJ (ρ : Rn) (nm : List (Nat × Nat)) : Rn := ⟨fun j => match gd (qg nm) j with | some i => ρ.k i | none => ρ.k j⟩
theorem qh {nm : List (Nat × Nat)} {i : Nat} (h : ge (nm.map (·.2)) i = false) : gd (qg nm) i = none := by
 cases e : gd (qg nm) i with
 | none => rfl
 | some j =>
   have := gy e
   obtain ⟨p, hp, hq⟩ := List.mem_map.1 this
   cases hq
   rw [cm.2 (List.mem_map.2 ⟨p, hp, rfl⟩)] at h
   cases h
theorem je {ρ : Rn} {nm : List (Nat × Nat)} (h : okN nm = true) : ∀ i, okP nm i = true → (yJ ρ nm).k (mE nm i) = ρ.k i := fun i hi => by
 unfold okN at h
 rw [Bool.and_eq_true] at h
 unfold yJ mE
 cases e : gd nm i with
 | some b => simp only [Option.getD_some, fM h.1 (gy e)]
 | none =>
   unfold okP inK at hi
   rw [e] at hi
   simp only [Option.isSome_none, Bool.false_or, Bool.not_eq_true'] at hi
   simp only [Option.getD_none, qh hi]
theorem yA {nm : List (Nat × Nat)} (h : okN nm = true) : ∀ i j, okP nm i = true → okP nm j = true → mE nm i = mE nm j → i = j := fun i j hi hj e => by
 have h1 := je (ρ := ⟨fun k => ⟨k, false, []⟩⟩) h i hi
 have h2 := je (ρ := ⟨fun k => ⟨k, false, []⟩⟩) h j hj
 rw [e, h2] at h1
 exact (congrArg Bk.b h1).symm
theorem xe {ρ : Rn} {nm : List (Nat × Nat)} (h : okN nm = true) : Agr ρ (yJ ρ nm) := fun i hi => by
 unfold okN at h
 rw [Bool.and_eq_true] at h
 unfold yJ
 simp only
 rw [qh]
 cases hm : ge (nm.map (·.2)) i with
 | false => rfl
 | true =>
   obtain ⟨p, hp, e⟩ := List.mem_map.1 (cm.1 hm)
   have := List.all_eq_true.1 h.2 p hp
   rw [e, hi] at this; cases this
def TS.ren {T : Nat → Type} (m : Nat → Nat) (σ : TS T) : TS T := { n := σ.n, t := σ.t.map fun p => (p.1, p.2.ren m), h := mF m σ.h, e := [] }
def Mx {T : Nat → Type} (nm : List (Nat × Nat)) (σ : TS T) : TS T := match nm with
 | [] => σ
 | _ => match okN nm && (σ.t.all fun q => q.2.ids (okP nm)) && o8 (okP nm) σ.h with
   | true => σ.ren (mE nm)
   | false => σ
def pJ (E : Enc) (σ σ' : TS E.T) : Prop := ∀ ρ, Inj ρ σ.h → ∃ ρ', Agr ρ ρ' ∧ Inj ρ' σ'.h ∧ kI (σ.to E ρ) (σ'.to E ρ')
theorem pJ.of {E : Enc} {σ σ' : TS E.T} (h : nG E σ σ') : pJ E σ σ' := fun ρ hi => ⟨ρ, Agr.refl ρ, h ρ hi⟩
theorem pJ.trans {E : Enc} {σ σ1 σ2 : TS E.T} (h : pJ E σ σ1) (k : pJ E σ1 σ2) : pJ E σ σ2 := fun ρ hi => by
 obtain ⟨ρ1, a1, i1, s1⟩ := h ρ hi
 obtain ⟨ρ2, a2, i2, s2⟩ := k ρ1 i1
 exact ⟨ρ2, a1.trans a2, i2, s1.trans s2⟩
theorem E3 {E : Env} (nm : List (Nat × Nat)) (σ : TS E.T) : pJ E.toEnc σ (Mx nm σ) := by
 unfold Mx
 split
 ·exact pJ.of (nG.refl σ)
 ·split
  ·rename_i hc
   simp only [Bool.and_eq_true] at hc
   obtain ⟨⟨h1, h2⟩, h3⟩ := hc
   intro ρ hi
   refine ⟨yJ ρ nm, xe h1, oz (je h1) (yA h1) h3 hi, fun F X tm hs => ?_⟩
   have et : tTo E.toEnc (yJ ρ nm) (σ.t.map fun p => (p.1, p.2.ren (mE nm))) = tTo E.toEnc ρ σ.t := by
    unfold tTo
    rw [List.map_map]
    exact List.map_congr_left fun p hp => by
     simp only [Function.comp]
     rw [TV.ren_to (je h1) (List.all_eq_true.1 h2 p hp)]
   have eh : hTo E.toEnc (yJ ρ nm) (mF (mE nm) σ.h) = hTo E.toEnc ρ σ.h := oc (je h1) h3
   refine hs.le3 rfl (fun t u hu => ⟨u, ?_, .inl (.refl _)⟩) (fun k cs hk => ⟨cs, ?_, LeL.refl _⟩) (fun p hp => by cases hp)
   ·simp only [TS.to, TS.ren, et] at hu; exact hu
   ·simp only [TS.to, TS.ren, eh] at hk; exact hk
  ·exact pJ.of (nG.refl σ)
def B1 {T : Nat → Type} (nm : List (Nat × Nat)) (u : TV T) (h : List (Nat × TB T)) : TV T × List (Nat × TB T) := match nm with
 | [] => (u, h)
 | _ => match okN nm && u.ids (okP nm) && o8 (okP nm) h with
   | true => (u.ren (mE nm), mF (mE nm) h)
   | false => (u, h)
theorem HR {E : Env} (nm : List (Nat × Nat)) {u : TV E.T} {h : List (Nat × TB E.T)} {ρ : Rn} (hi : Inj ρ h) : ∃ ρ', Agr ρ ρ' ∧ Inj ρ' (B1 nm u h).2 ∧ (B1 nm u h).1.to E.toEnc ρ' = u.to E.toEnc ρ ∧ hTo E.toEnc ρ' (B1 nm u h).2 = hTo E.toEnc ρ h := by
 unfold B1
 split
 ·exact ⟨ρ, Agr.refl ρ, hi, rfl, rfl⟩
 ·split
  ·rename_i hc
   simp only [Bool.and_eq_true] at hc
   obtain ⟨⟨h1, h2⟩, h3⟩ := hc
   exact ⟨yJ ρ nm, xe h1, oz (je h1) (yA h1) h3 hi, TV.ren_to (je h1) h2, oc (je h1) h3⟩
  ·exact ⟨ρ, Agr.refl ρ, hi, rfl, rfl⟩
end Go.Proofs.YtmjpdbbjiipnfaaGreat
namespace Go.Proofs.YtmjpdbbjiipnfaaGreat
open Go.RowKit P
set_option linter.unusedSimpArgs false
set_option linter.unusedVariables false
inductive It2 where
 | c (c : Code)
 | b (id : Nat)
 | l (c : Code)
 | r (id : Nat) (ops : Array Oper) (draw : Bool)
 | k (c : Code)
inductive RL (T : Nat → Type) where
 | ret (u : TV T) (h : List (Nat × TB T))
 | pan (v : Value)
inductive Lf (T : Nat → Type) where
 | go (ks : List It2) (σ : TS T)
 | done (r : RL T)
def Kv : List Nat → Nat → Bool
 | [], _ => false
 | k :: r, i => match Nat.beq i k with | true => true | false => Kv r i
structure Kp where
 t : List (Nat × Bool)
 p : List (Nat × Nat)
 h : List (Nat × (Option Nat × List Nat))
 m : List (Nat × Nat)
structure Lvs where
 r : List (Nat × Kp)
 l : List (Nat × Kp)
 cut : List Nat
 p : List (Nat × Nat)
 own : Bool
 ph : List (Nat × (Option Nat × List Nat))
 kb : List Nat
 g : List (Nat × List Gh)
 m : List (Nat × Nat)
def Bs (E : Env) (i : Nat) (u : TV E.T) : TV E.T :=
 match u with
 | .ag l => match E.pk i l with
   | some (z, []) => .ag (E.unp i z)
   | _ => u
 | u => u
def A2 (E : Env) (ps : List (Nat × Nat)) : List (Nat × TV E.T) → List (Nat × TV E.T)
 | [] => []
 | (k, u) :: r => (k, match look ps k with | some i => Bs E i u | none => u) :: A2 E ps r
def F3 {T : Nat → Type} : TA T → TA T
 | .tt => .d .bool true
 | .ff => .d .bool false
 | x => x
def AY {T : Nat → Type} (ws : List Nat) : Nat → List (TA T) → List (TA T)
 | _, [] => []
 | i, x :: r => (match Kv ws i with | true => F3 x.rd | false => F3 x) :: AY ws (i + 1) r
def r7 (E : Env) (m : Option Nat × List Nat) (b : TB E.T) : TB E.T :=
 match b with
 | .cs l => match m with
   | (some i, _) => match E.pk i l with
     | some (z, []) => .cs (E.unp i z)
     | _ => b
   | (none, ws) => .cs (AY ws 0 l)
 | b => b
def uh (E : Env) (ms : List (Nat × (Option Nat × List Nat))) : List (Nat × TB E.T) → List (Nat × TB E.T)
 | [] => []
 | (k, b) :: r => (k, match look ms k with | some m => r7 E m b | none => b) :: uh E ms r
def lz : Code → Nat
 | .region id _ _ => id
 | .seq a _ => lz a
 | .cond _ a _ => lz a
 | .block _ c => lz c
 | .loop c => lz c
 | _ => 0
def xt : Code → Nat
 | .seq a _ => xt a
 | .cond _ a _ => xt a
 | .block _ c => xt c
 | .loop c => xt c + 1
 | _ => 0
def l6 (c : Code) : Nat := lz c + 1000 * xt c
def TS.pack (E : Env) (σ : TS E.T) (k : Kp) : TS E.T := { n := σ.n, t := A2 E k.p σ.t, h := uh E k.h σ.h, e := σ.e }
def kG (E : Env) (lv : List (Nat × Kp)) (id : Nat) (σ : TS E.T) : TS E.T :=
 match look lv id with
 | some k => (Mx (su σ.h k.m) (σ.canon k.t (k.h.map fun p => yn (su σ.h k.m) p.1))).pack E k
 | none => σ
def OU (g : List (Nat × List Gh)) (id : Nat) : List Gh := match look g id with
 | some l => l
 | none => []
def ng (id : Nat) : List It2 → Option (List It2)
 | [] => none
 | .c _ :: ks => ng id ks
 | .l _ :: ks => ng id ks
 | .b j :: ks => match Nat.beq id j with
   | true => some ks
   | false => ng id ks
 | _ :: _ => none
def OA {T : Nat → Type} : TV T → Option (TC T)
 | .a x => match nrm (.a x.rd) with
   | .a y => some (.a y)
   | _ => none
 | .ag l => some (.ag l)
 | _ => none
def wW {P : Program} {T : Nat → Type} (Y : Tys P) (σ : TS T) : ResultVar → Option (TC T)
 | .tmp s => match look σ.t s with
   | some u => OA u
   | none => none
 | .cell s ty => match look σ.t s with
   | some (.a (.box k 0)) => match look σ.h k, look Y.ty ty with
     | some (.cs cs), some (.struct _) => match look Y.sz ty with
       | some (n, _) => match Nat.beq n cs.length with
         | true => some (.ag (cs.map TA.rd))
         | false => none
       | none => none
     | some (.cs [c]), some d => match gC d with
       | true => some (.a (F3 c.rd))
       | false => none
     | _, _ => none
   | _ => none
def Pp {T : Nat → Type} : TC T → TV T
 | .a x => .a x
 | .ag l => .ag l
def KT {P : Program} {T : Nat → Type} (Y : Tys P) (own : Bool) (rs : List ResultVar) (σ : TS T) : Option (TV T) :=
 match rs with
 | [.tmp t] => match look σ.t t with
   | some u => some (qd (!own) u)
   | none => none
 | [r] => match wW Y σ r with
   | some x => some (Pp x)
   | none => none
 | [r, r'] => match wW Y σ r, wW Y σ r' with
   | some x, some x' => some (.tu [x, x'])
   | _, _ => none
 | [r, r', r''] => match wW Y σ r, wW Y σ r', wW Y σ r'' with
   | some x, some x', some x'' => some (.tu [x, x', x''])
   | _, _, _ => none
 | [] => some (.tu [])
 | _ => none
section
variable {P : Program} (Y : Tys P) (E : Env) (G : Gam E) (lv : Lvs) (rs : List ResultVar)
def Jo (σ : TS E.T) : Tree (Lf E.T) := match KT Y lv.own rs (σ.pack E ⟨[], lv.p, lv.ph, []⟩) with
 | some u => .leaf (.done (.ret (B1 (su σ.h lv.m) u (bG (σ.pack E ⟨[], lv.p, lv.ph, []⟩).h (lv.kb.map (yn (su σ.h lv.m))))).1 (B1 (su σ.h lv.m) u (bG (σ.pack E ⟨[], lv.p, lv.ph, []⟩).h (lv.kb.map (yn (su σ.h lv.m))))).2))
 | none => .fail
def stp : List It2 → TS E.T → Tree (Lf E.T)
 | [], σ => Jo Y E lv rs σ
 | .b _ :: ks, σ => .leaf (.go ks σ)
 | .l c :: ks, σ => .leaf (.go (.k c :: ks) (kG E lv.l (l6 c) σ))
 | .k c :: ks, σ => .leaf (.go (.c c :: .l c :: ks) σ)
 | .r _ ops draw :: ks, σ => (evR Y E G ops.toList draw σ).bind fun
   | .st σ' => .leaf (.go ks σ')
   | .pan v => .leaf (.done (.pan v))
 | .c c :: ks, σ => match c with
   | .skip => .leaf (.go ks σ)
   | .label _ => .leaf (.go ks σ)
   | .seq a b => .leaf (.go (.c a :: .c b :: ks) σ)
   | .block id c => .leaf (.go (.c c :: .b id :: ks) σ)
   | .loop c => .leaf (.go (.l c :: ks) σ)
   | .cond (.tmp t) a b => match look σ.t t with
     | some (.a .tt) => .leaf (.go (.c a :: ks) σ)
     | some (.a .ff) => .leaf (.go (.c b :: ks) σ)
     | some (.a (.d .bool v)) => .cond v (.leaf (.go (.c a :: ks) (σ.know t .tt))) (.leaf (.go (.c b :: ks) (σ.know t .ff)))
     | _ => .fail
   | .exit id => match ng id ks with
     | some ks' => .leaf (.go ks' σ)
     | none => .fail
   | .ret => Jo Y E lv rs σ
   | .region id ops draw => (Ia E (OU lv.g id) (kG E lv.r id σ)).bind fun τ => .leaf (.go (.r id ops draw :: ks) τ)
   | _ => .fail
def PF : List Nat → Nat → Bool
 | [], _ => false
 | k :: r, i => match Nat.beq i k with | true => true | false => PF r i
def N8 (cut : List Nat) : List It2 → Bool
 | .k _ :: _ => true
 | .r id _ _ :: _ => PF cut id
 | _ => false
def evM : Nat → Bool → List It2 → TS E.T → Tree (Lf E.T)
 | 0, _, ks, σ => .leaf (.go ks σ)
 | m + 1, fst, ks, σ => match fst, N8 lv.cut ks with
   | false, true => .leaf (.go ks σ)
   | _, _ => (stp Y E G lv rs ks σ).bind fun
     | .go ks' σ' => evM m false ks' σ'
     | .done r => .leaf (.done r)
def xc {T : Nat → Type} (F : List It2 → TS T → Prop) (K : RL T → Prop) : Lf T → Prop
 | .go ks σ => F ks σ
 | .done r => K r
def Fin (K : RL E.T → Prop) : Nat → List It2 → TS E.T → Prop
 | 0, _, _ => False
 | n + 1, ks, σ => (stp Y E G lv rs ks σ).holds (xc (Fin K n) K)
def bP (K : RL E.T → Prop) (ks : List It2) (σ : TS E.T) : Prop := ∃ n, Fin Y E G lv rs K n ks σ
def N7 (K : RL E.T → Prop) : Lf E.T → Prop
 | .go ks σ => bP Y E G lv rs K ks σ
 | .done r => K r
end
section
variable {P : Program} {Y : Tys P} {E : Env} {G : Gam E} {lv : Lvs} {rs : List ResultVar} {K : RL E.T → Prop}
theorem fY {L : Type} {R : Nat → L → Prop} (hR : ∀ n m x, n ≤ m → R n x → R m x) : ∀ {t : Tree L}, t.holds (fun x => ∃ n, R n x) → ∃ n, t.holds (R n)
 | .leaf x, h => h
 | .cond true s t, h => by
   obtain ⟨n, h⟩ := fY hR (h.1 rfl)
   exact ⟨n, fun _ => h, fun e => by cases e⟩
 | .cond false s t, h => by
   obtain ⟨n, h⟩ := fY hR (h.2 rfl)
   exact ⟨n, (fun e => by cases e), fun _ => h⟩
 | .bnd o k, ⟨z, h1, h2⟩ => by
   obtain ⟨n, h⟩ := fY hR h2
   exact ⟨n, z, h1, h⟩
 | .sm (.ok z) k p, h => by
   obtain ⟨n, h⟩ := fY hR (h.1 z rfl)
   exact ⟨n, (fun z' e => by cases e; exact h), fun v e => by cases e⟩
 | .sm (.pan v) k p, h => by
   obtain ⟨n, h⟩ := fY hR (h.2 v rfl)
   exact ⟨n, (fun z' e => by cases e), fun v' e => by cases e; exact h⟩
 | .nl [] s t, h => by
   obtain ⟨n, h1⟩ := fY hR (h.1 rfl)
   obtain ⟨m, h2⟩ := fY hR h.2
   exact ⟨n + m, fun _ => h1.mono fun x => hR _ _ x (by omega), h2.mono fun x => hR _ _ x (by omega)⟩
 | .nl (_ :: _) s t, h => by
   obtain ⟨m, h2⟩ := fY hR h.2
   exact ⟨m, (fun e => by cases e), h2⟩
 | .fail, h => h.elim
theorem EN : ∀ (n : Nat) (ks : List It2) (σ : TS E.T), Fin Y E G lv rs K n ks σ → Fin Y E G lv rs K (n + 1) ks σ
 | 0, _, _, h => h.elim
 | n + 1, ks, σ, h => Tree.holds.mono (fun x hx => by
   cases x with
   | go ks' σ' => exact EN n ks' σ' hx
   | done r => exact hx) h
theorem CZ {n m : Nat} (h : n ≤ m) {ks : List It2} {σ : TS E.T} (hf : Fin Y E G lv rs K n ks σ) : Fin Y E G lv rs K m ks σ := by
 induction h with
 | refl => exact hf
 | step _ ih => exact EN _ _ _ ih
theorem po {ks : List It2} {σ : TS E.T} (h : (stp Y E G lv rs ks σ).holds (N7 Y E G lv rs K)) : bP Y E G lv rs K ks σ := by
 have h' : (stp Y E G lv rs ks σ).holds (fun x => ∃ n, xc (Fin Y E G lv rs K n) K x) := h.mono fun x hx => by
  cases x with
  | go ks' σ' => exact hx
  | done r => exact ⟨0, hx⟩
 obtain ⟨n, hn⟩ := fY (R := fun n x => xc (Fin Y E G lv rs K n) K x) (fun n m x hnm hx => by
  cases x with
  | go ks' σ' => exact CZ hnm hx
  | done r => exact hx) h'
 exact ⟨n + 1, hn⟩
theorem Et : ∀ (m : Nat) (fst : Bool) (ks : List It2) (σ : TS E.T), (evM Y E G lv rs m fst ks σ).holds (N7 Y E G lv rs K) → bP Y E G lv rs K ks σ
 | 0, _, ks, σ, h => h
 | m + 1, fst, ks, σ, h => by
   simp only [evM] at h
   split at h
   ·exact h
   ·refine po ((aN h).mono fun x hx => ?_)
    cases x with
    | go ks' σ' => exact Et m false ks' σ' hx
    | done r => exact hx
def QX (P : Program) (fn : Func) (post : AOut → List (Nat × List AV) → Prop) : Exit → AS → Prop
 | .ret, σ | .normal, σ => ∀ (F : Nat → Prop) (X : GW) (tm : Array Value), SimE F X σ tm → ∃ v u H', (results fn tm).run P X.w = .ok v X.w ∧ post (.ret u) H' ∧ SimE F X ⟨1, [(0, u)], H', []⟩ #[v]
 | .panic chain, σ => ∃ v, chain = [⟨v, false, false⟩] ∧ post (.pan v) σ.h
 | _, _ => False
theorem vJ {P : Program} {fn : Func} {f : FuncId} {c : Code} {us : List AV} {H : List (Nat × List AV)} {post : AOut → List (Nat × List AV) → Prop} (hf : P.funcs[f]? = some fn) (hn : (fn.name == "runtime.NumGoroutine") = false) (hb : fn.body = some c) (hus : Nat.ble us.length fn.ntmps = true)
  (h : aA P (QX P fn post) [.c c] ⟨fn.ntmps, slotsOf 0 us, H, []⟩) : ak P f us H post := by
 refine ⟨⟨fn, hf, hn, by rw [hb]; rfl⟩, fun F X vs hs => calls_of_wp hf hb ?_⟩
 have hle := Nat.le_of_ble_eq_true hus
 have h2 := h F X { tmps := vs ++ Array.replicate (fn.ntmps - vs.size) undef, defers := [] } (hs.enter hle) [] rfl
 refine wp_mono h2 fun e a' w' hp => ?_
 obtain ⟨p1, X', σ', p2, p3, p4, p5⟩ := hp
 subst p2
 have fin : QX P fn post .ret σ' → a'.defers = [] ∧ ∃ v, (results fn a'.tmps).run P X'.w = .ok v X'.w ∧ (∃ (X'' : GW) (out : AOut) (H' : List (Nat × List AV)), X''.w = X'.w ∧ post out H' ∧ Av F X'' (.returned v) out H' ∧ Ext F X X'') := by
  intro hq
  obtain ⟨v, u, H2, k1, k2, k3⟩ := hq F X' a'.tmps p4
  exact ⟨p1, v, k1, X', .ret u, H2, rfl, k2, ⟨v, rfl, k3⟩, p5⟩
 cases e with
 | normal => exact fin p3
 | ret => exact fin p3
 | panic chain =>
   obtain ⟨v, rfl, p3⟩ := p3
   exact ⟨p1, X', .pan v, σ'.h, rfl, p3, ⟨rfl, p4.panEnd⟩, p5⟩
 | exit id => exact p3.elim
 | goto l => exact p3.elim
 | outgrown => exact p3.elim
def bO (E : Env) (ρ0 : Rn) (K : RL E.T → Prop) : AOut → List (Nat × List AV) → Prop := fun out H => ∃ r ρ, K r ∧ Agr ρ0 ρ ∧ match r with
 | .ret u h => out = .ret (u.to E.toEnc ρ) ∧ H = hTo E.toEnc ρ h ∧ Inj ρ h
 | .pan v => out = .pan v ∧ H = []
def tr (Y : Tys P) (E : Env) (G : Gam E) (lv : Lvs) (rs : List ResultVar) (K : RL E.T → Prop) (ρ0 : Rn) (n : Nat) : List It2 → List It
 | [] => []
 | .c c :: ks => .c c :: tr Y E G lv rs K ρ0 n ks
 | .b id :: ks => .b id :: tr Y E G lv rs K ρ0 n ks
 | .l c :: ks => .l (fun σ' => ∃ m τ ρ, m < n ∧ (Agr ρ0 ρ ∧ Inj ρ τ.h) ∧ kI σ' (τ.to E.toEnc ρ) ∧ Fin Y E G lv rs K m (.k c :: ks) τ) :: tr Y E G lv rs K ρ0 n ks
 | .r id ops draw :: ks => .c (.region id ops draw) :: tr Y E G lv rs K ρ0 n ks
 | .k c :: ks => .c (.loop c) :: tr Y E G lv rs K ρ0 n ks
inductive ItLe : List It → List It → Prop
 | nil : ItLe [] []
 | same (i : It) {ks ks' : List It} : ItLe ks ks' → ItLe (i :: ks) (i :: ks')
 | l {I J : AS → Prop} {ks ks' : List It} : (∀ σ, I σ → J σ) → ItLe ks ks' → ItLe (.l I :: ks) (.l J :: ks')
theorem ItLe.refl : ∀ ks, ItLe ks ks
 | [] => .nil
 | i :: ks => .same i (ItLe.refl ks)
theorem qm {ρ0 : Rn} {n m : Nat} (h : m ≤ n) : ∀ ks, ItLe (tr Y E G lv rs K ρ0 m ks) (tr Y E G lv rs K ρ0 n ks)
 | [] => .nil
 | .c c :: ks => .same _ (qm h ks)
 | .b id :: ks => .same _ (qm h ks)
 | .l c :: ks => .l (fun σ ⟨q, τ, ρ, h1, h2⟩ => ⟨q, τ, ρ, Nat.lt_of_lt_of_le h1 h, h2⟩) (qm h ks)
 | .r id ops draw :: ks => .same _ (qm h ks)
 | .k c :: ks => .same _ (qm h ks)
theorem Lc {Q : Exit → AS → Prop} : ∀ {ks ks' : List It}, ItLe ks ks' → ∀ e σ, Stk P Q ks e σ → Stk P Q ks' e σ := by
 intro ks ks' h
 induction h with
 | nil => exact fun _ _ h => h
 | same i h ih =>
   intro e σ hs
   cases i with
   | c c =>
     cases e with
     | normal => exact Awp.mono hs (fun e σ => ih e σ)
     | _ => exact ih _ _ hs
   | b id =>
     cases e with
     | exit id' =>
       simp only [Stk] at hs ⊢
       split
       ·rename_i e; rw [if_pos e] at hs; exact ih _ _ hs
       ·rename_i e; rw [if_neg e] at hs; exact ih _ _ hs
     | _ => exact ih _ _ hs
   | l I =>
     cases e with
     | normal => exact hs
     | _ => exact ih _ _ hs
   | o l k r =>
     cases e with
     | normal => exact fun F X a hsim D hd => fN (fun e a w hp => hp.mono fun e σ => ih e σ) _ _ _ (hs F X a hsim D hd)
     | _ => exact ih _ _ hs
 | l hIJ h ih =>
   intro e σ hs
   cases e with
   | normal => exact hIJ σ hs
   | _ => exact ih _ _ hs
theorem zA {Q : Exit → AS → Prop} {ks ks' : List It} {σ : AS} (h : ItLe ks ks') (hr : aA P Q ks σ) : aA P Q ks' σ := Lc h _ _ hr
theorem l5 {Q : Exit → AS → Prop} {ρ0 : Rn} {n : Nat} : ∀ (ks : List It2) {σ : AS}, Q .ret σ → Stk P Q (tr Y E G lv rs K ρ0 n ks) .ret σ
 | [], σ, h => h
 | .c c :: ks, σ, h => l5 ks h
 | .b id :: ks, σ, h => l5 ks h
 | .l c :: ks, σ, h => l5 ks h
 | .r id ops draw :: ks, σ, h => l5 ks h
 | .k c :: ks, σ, h => l5 ks h
theorem mr {Q : Exit → AS → Prop} {ρ0 : Rn} {n : Nat} {v : Value} : ∀ (ks : List It2), (∀ n, Q (.panic [⟨v, false, false⟩]) ⟨n, [], [], []⟩) → zx P Q (tr Y E G lv rs K ρ0 n ks) v
 | [], h => h
 | .c c :: ks, h => mr ks h
 | .b id :: ks, h => mr ks h
 | .l c :: ks, h => mr ks h
 | .r id ops draw :: ks, h => mr ks h
 | .k c :: ks, h => mr ks h
theorem o4 {Q : Exit → AS → Prop} {ρ0 : Rn} {n id : Nat} : ∀ (ks : List It2) {ks' : List It2} {σ : AS}, ng id ks = some ks' → aA P Q (tr Y E G lv rs K ρ0 n ks') σ → Stk P Q (tr Y E G lv rs K ρ0 n ks) (.exit id) σ
 | [], _, _, h, _ => by cases h
 | .c c :: ks, _, _, h, hr => o4 ks h hr
 | .l c :: ks, _, _, h, hr => o4 ks h hr
 | .b j :: ks, ks', σ, h, hr => by
   simp only [ng] at h
   simp only [tr, Stk]
   split at h
   ·rename_i e
    cases h
    rw [if_pos (gj e)]
    exact hr
   ·rename_i e
    rw [if_neg (fun e2 => by subst e2; rw [Nat.beq_refl] at e; cases e)]
    exact o4 ks h hr
 | .r _ _ _ :: _, _, _, h, _ => by cases h
 | .k _ :: _, _, _, h, _ => by cases h
theorem Ij {ρ : Rn} {u : TV E.T} {x : TC E.T} (h : OA u = some x) : x.to E.toEnc ρ = (u.to E.toEnc ρ).rd := by
 unfold OA at h
 split at h
 ·rename_i a
  split at h
  ·rename_i y hy
   cases h
   have := kf E.toEnc ρ (.a a.rd : TV E.T)
   rw [hy] at this
   exact this.trans (TA.rd_to _ _ _)
  ·cases h
 ·cases h; rfl
 ·cases h
theorem xP (i : Nat) (u : TV E.T) (ρ : Rn) : LeV (u.to E.toEnc ρ) ((Bs E i u).to E.toEnc ρ) := by
 unfold Bs
 split
 ·split
  ·rename_i l _ z hz
   have h := E.pk_to i _ z [] ρ hz
   simp only [List.map_nil, List.append_nil] at h
   refine .inr ⟨fun X v hv => ?_, rfl⟩
   have e : (TV.ag (E.unp i z) : TV E.T).to E.toEnc ρ = .ag (E.enc i z) := by
    show AV.ag ((E.unp i z).map _) = _
    rw [E.unp_to]
   rw [e]
   exact uE hv ((gK (ρ := ρ) l).trans h)
  ·exact .inl (.refl _)
 ·exact .inl (.refl _)
theorem sN (ps : List (Nat × Nat)) (ρ : Rn) : ∀ (t : List (Nat × TV E.T)) (k : Nat) (u' : AV), look (tTo E.toEnc ρ (A2 E ps t)) k = some u' → ∃ u, look (tTo E.toEnc ρ t) k = some u ∧ LeV u u'
 | [], k, u', h => by cases h
 | (j, u) :: r, k, u', h => by
   simp only [A2, tTo, List.map_cons, ab] at h ⊢
   split at h
   ·rename_i e
    rw [if_pos e]
    cases h
    refine ⟨_, rfl, ?_⟩
    split
    ·exact xP _ u ρ
    ·exact .inl (.refl _)
   ·rename_i e
    rw [if_neg e]
    exact sN ps ρ r k u' h
theorem xj (ws : List Nat) (ρ : Rn) : ∀ (i : Nat) (l : List (TA E.T)), LeL (l.map (TA.to E.toEnc ρ)) ((AY ws i l).map (TA.to E.toEnc ρ))
 | _, [] => .nil
 | i, x :: r => by
   have hn : ∀ y : TA E.T, (F3 y).to E.toEnc ρ = y.to E.toEnc ρ := fun y => by cases y <;> rfl
   simp only [AY, List.map_cons]
   refine .cons ?_ (xj ws ρ (i + 1) r)
   split
   ·rw [hn, TA.rd_to]; exact nb _
   ·rw [hn]; exact .refl _
theorem Dn (m : Option Nat × List Nat) (b : TB E.T) (ρ : Rn) : LeL (b.to E.toEnc ρ) ((r7 E m b).to E.toEnc ρ) := by
 unfold r7
 split
 ·rename_i l
  split
  ·rename_i i ws
   split
   ·rename_i z hz
    have h := E.pk_to i _ z [] ρ hz
    simp only [List.map_nil, List.append_nil] at h
    show LeL (l.map _) ((E.unp i z).map _)
    rw [E.unp_to]
    exact (gK (ρ := ρ) l).trans h
   ·exact LeL.refl _
  ·exact xj _ ρ 0 l
 ·exact LeL.refl _
theorem qc (m : Option Nat × List Nat) (b : TB E.T) : oy b (r7 E m b) := by
 unfold r7
 split
 ·split
  ·split
   ·exact fun _ => rfl
   ·exact .refl _
  ·exact fun _ => rfl
 ·exact .refl _
theorem uA (ms : List (Nat × (Option Nat × List Nat))) : ∀ (h : List (Nat × TB E.T)), ∀ p ∈ uh E ms h, ∃ q ∈ h, q.1 = p.1 ∧ oy q.2 p.2
 | [], p, hp => by cases hp
 | (j, b) :: r, p, hp => by
   rcases List.mem_cons.1 hp with rfl | hp
   ·refine ⟨_, List.mem_cons_self, rfl, ?_⟩
    simp only
    split
    ·exact qc _ b
    ·exact .refl _
   ·obtain ⟨q, h1, h2, h3⟩ := uA ms r p hp
    exact ⟨q, List.mem_cons_of_mem _ h1, h2, h3⟩
theorem m8 (ms : List (Nat × (Option Nat × List Nat))) (ρ : Rn) : ∀ (h : List (Nat × TB E.T)) (k : Nat) (cs' : List AV), look (hTo E.toEnc ρ (uh E ms h)) k = some cs' → ∃ cs, look (hTo E.toEnc ρ h) k = some cs ∧ LeL cs cs'
 | [], k, u', h => by cases h
 | (j, b) :: r, k, cs', h => by
   have key : ∀ b' : TB E.T, oy b b' → LeL (b.to E.toEnc ρ) (b'.to E.toEnc ρ) → look (hTo E.toEnc ρ ((j, b') :: uh E ms r)) k = some cs' → ∃ cs, look (hTo E.toEnc ρ ((j, b) :: r)) k = some cs ∧ LeL cs cs' := fun b' hsm hle h => by
    cases hl : aG ρ b with
    | false =>
      rw [cv _ _ (by rw [← hsm ρ]; exact hl)] at h
      rw [cv _ _ hl]
      exact m8 ms ρ r k cs' h
    | true =>
      rw [bL _ _ (by rw [← hsm ρ]; exact hl), ab] at h
      rw [bL _ _ hl, ab]
      split at h
      ·rename_i e
       rw [if_pos e]
       cases h
       exact ⟨_, rfl, hle⟩
      ·rename_i e
       rw [if_neg e]
       exact m8 ms ρ r k cs' h
   simp only [uh] at h
   split at h
   ·exact key _ (qc _ b) (Dn _ b ρ) h
   ·exact key _ (.refl _) (LeL.refl _) h
theorem xG (σ : TS E.T) (k : Kp) : nG E.toEnc σ (σ.pack E k) := fun ρ hi => by
 refine ⟨hi.sub fun p hp => let ⟨q, h1, h2, h3⟩ := uA k.h σ.h p hp; ⟨q, h1, h2, h3 ρ⟩, fun F X tm hs => ?_⟩
 exact hs.le3 rfl (fun t u' hu => sN k.p ρ σ.t t u' hu) (fun q cs' hq => m8 k.h ρ σ.h q cs' hq) (fun p hp => hp)
theorem JN (y : TA E.T) (ρ : Rn) : (F3 y).to E.toEnc ρ = y.to E.toEnc ρ := by cases y <;> rfl
theorem HE (x : TC E.T) (ρ : Rn) : (Pp x).to E.toEnc ρ = x.to E.toEnc ρ := by cases x <;> rfl
theorem my {ρ : Rn} {σ : TS E.T} (hi : Inj ρ σ.h) {r : ResultVar} {x : TC E.T} (h : wW Y σ r = some x) : iY Y (tTo E.toEnc ρ σ.t) (hTo E.toEnc ρ σ.h) r = some (x.to E.toEnc ρ) := by
 unfold wW at h
 split at h
 ·split at h
  ·rename_i u hu
   simp only [iY, aQ, hu, Option.map_some, Ij h]
  ·cases h
 ·split at h
  ·rename_i s ty _ k hs
   have hs' : look (tTo E.toEnc ρ σ.t) s = some (.v (.pointer (some ⟨ρ k, 0, none⟩))) := by simp only [aQ, hs, Option.map_some]; rfl
   split at h
   ·rename_i cs fs hh hy
    have hh' : look (hTo E.toEnc ρ σ.h) (ρ k) = some (cs.map (TA.to E.toEnc ρ)) := bD E.toEnc hi hh rfl
    split at h
    ·rename_i n b hz
     split at h
     ·rename_i hn
      cases h
      rw [va hs' hh' hy hz (by simpa using hn) (mV cs)]
      simp only [TC.to, List.map_map]
      exact congrArg (fun l => some (AV.ag l)) (List.map_congr_left fun y _ => (TA.rd_to _ _ y).symm)
     ·cases h
    ·cases h
   ·rename_i c d hno hh hy
    have hh' : look (hTo E.toEnc ρ σ.h) (ρ k) = some [c.to E.toEnc ρ] := bD E.toEnc hi hh rfl
    split at h
    ·rename_i h1
     cases h
     rw [B9 hs' hh' hy h1 (TA.to_notMp _ _ c)]
     simp only [TC.to, JN, TA.rd_to]
    ·cases h
   ·cases h
  ·cases h
theorem E9 {own : Bool} {fn : Func} {ρ : Rn} {σ : TS E.T} {u : TV E.T} (hrs : fn.results.toList = rs) (hi : Inj ρ σ.h) (h : KT Y own rs σ = some u) (F : Nat → Prop) (X : GW) (tm : Array Value) (hs : SimE F X (σ.to E.toEnc ρ) tm) {H2 : List (Nat × List AV)} (hH : ∀ k cs, look H2 k = some cs → look (σ.to E.toEnc ρ).h k = some cs) : ∃ v, (results fn tm).run P X.w = .ok v X.w ∧ SimE F X ⟨1, [(0, u.to E.toEnc ρ)], H2, []⟩ #[v] := by
 have cells : yu Y (tTo E.toEnc ρ σ.t) (hTo E.toEnc ρ σ.h) rs = some (u.to E.toEnc ρ) → ∃ v, (results fn tm).run P X.w = .ok v X.w ∧ SimE F X ⟨1, [(0, u.to E.toEnc ρ)], H2, []⟩ #[v] := fun hc => by
  obtain ⟨k0, v, k1, k2⟩ := FK (F := F) (tm := tm) (fn := fn) hs.slot hs.box (hrs ▸ hc)
  exact ⟨v, k1, hs.retEnd hH k2 k0⟩
 unfold KT at h
 split at h
 ·rename_i t
  split at h
  ·rename_i u0 hu
   cases h
   have hr : zo fn.results.toList (σ.to E.toEnc ρ) = some (u0.to E.toEnc ρ) := by rw [hrs]; simp only [zo, TS.to, aQ, hu, Option.map_some]
   obtain ⟨v, k1, k2⟩ := BG (P := P) (fn := fn) hs hr
   refine ⟨v, k1, k2.le2 rfl (fun s u' hu' => ?_) (fun q cs' hq => ⟨cs', hH q cs' hq, LeL.refl _⟩) (fun p hp => by cases hp)⟩
   simp only [ab] at hu'
   split at hu'
   ·rename_i e; subst e; cases hu'
    refine ⟨_, ah, ?_⟩
    cases own with
    | true => simp only [Bool.not_true, qd, kf]; exact .refl _
    | false => simp only [Bool.not_false, qd, kf, TV.rd_to]; exact nb _
   ·cases hu'
  ·cases h
 ·split at h
  ·rename_i x hx
   cases h
   refine cells ?_
   rw [HE]
   exact my hi hx
  ·cases h
 ·split at h
  ·rename_i x x' hx hx'
   cases h
   exact cells (by simp only [yu, my hi hx, my hi hx']; rfl)
  ·cases h
 ·split at h
  ·rename_i x x' x'' hx hx' hx''
   cases h
   exact cells (by simp only [yu, my hi hx, my hi hx', my hi hx'']; rfl)
  ·cases h
 ·cases h; exact cells rfl
 ·cases h
theorem mY {T : Nat → Type} {h : List (Nat × TB T)} : ∀ {ids : List Nat}, ∀ p ∈ bG h ids, ∃ q ∈ h, q.1 = p.1 ∧ oy q.2 p.2
 | [], p, hp => by cases hp
 | k :: ks, p, hp => by
   simp only [bG] at hp
   split at hp
   ·rename_i b hb
    rcases List.mem_cons.1 hp with rfl | hp
    ·exact ⟨_, bl hb, rfl, .refl _⟩
    ·exact mY p hp
   ·exact mY p hp
theorem Ff {fn : Func} (hrs : fn.results.toList = rs) {ρ0 ρ : Rn} (ha : Agr ρ0 ρ) {σ : TS E.T} (hi : Inj ρ σ.h) {e : Exit} (he : e = .ret ∨ e = .normal) {F : List It2 → TS E.T → Prop} (h : (Jo Y E lv rs σ).holds (xc F K)) : QX P fn (bO E ρ0 K) e (σ.to E.toEnc ρ) := by
 unfold Jo at h
 split at h
 ·rename_i u hu
  obtain ⟨k1, k2⟩ := xG σ ⟨[], lv.p, lv.ph, []⟩ ρ hi
  have : ∀ (F : Nat → Prop) (X : GW) (tm : Array Value), SimE F X (σ.to E.toEnc ρ) tm → ∃ v u H', (results fn tm).run P X.w = .ok v X.w ∧ bO E ρ0 K (.ret u) H' ∧ SimE F X ⟨1, [(0, u)], H', []⟩ #[v] := fun F X tm hs => by
   obtain ⟨v, k3, k4⟩ := E9 (Y := Y) hrs k1 hu F X tm (k2 F X tm hs) (H2 := hTo E.toEnc ρ (bG (σ.pack E ⟨[], lv.p, lv.ph, []⟩).h (lv.kb.map (yn (su σ.h lv.m))))) (jK k1 _)
   obtain ⟨ρ', q1, q2, q3, q4⟩ := HR (E := E) (su σ.h lv.m) (u := u) (h := bG (σ.pack E ⟨[], lv.p, lv.ph, []⟩).h (lv.kb.map (yn (su σ.h lv.m)))) (ρ := ρ) (k1.sub fun p hp => let ⟨q, h1, h2, h3⟩ := mY p hp; ⟨q, h1, h2, h3 ρ⟩)
   exact ⟨v, _, _, k3, ⟨_, ρ', h, ha.trans q1, by rw [q3], q4.symm, q2⟩, k4⟩
  rcases he with rfl | rfl
  ·exact this
  ·exact this
 ·cases h
theorem lq (lvl : List (Nat × Kp)) (id : Nat) (σ : TS E.T) : pJ E.toEnc σ (kG E lvl id σ) := by
 unfold kG
 split
 ·exact ((pJ.of (CC σ _ _)).trans (E3 _ _)).trans (pJ.of (xG _ _))
 ·exact pJ.of (nG.refl σ)
theorem JT {fn : Func} {ρ0 : Rn} (hrs : fn.results.toList = rs) (hm : P.follows .mixedOrders = true) (hG : GOk P Y E G) : ∀ (n : Nat) (ks : List It2) (σ : TS E.T) (ρ : Rn), Agr ρ0 ρ → Inj ρ σ.h → Fin Y E G lv rs K n ks σ → aA P (QX P fn (bO E ρ0 K)) (tr Y E G lv rs K ρ0 n ks) (σ.to E.toEnc ρ) := by
 intro n
 induction n using Nat.strongRecOn with
 | _ n ih =>
   intro ks σ ρ ha hi h
   cases n with
   | zero => cases h
   | succ n =>
     have up : ∀ {ks : List It2} {σ : TS E.T} {ρ : Rn}, Agr ρ0 ρ → Inj ρ σ.h → Fin Y E G lv rs K n ks σ → aA P (QX P fn (bO E ρ0 K)) (tr Y E G lv rs K ρ0 (n + 1) ks) (σ.to E.toEnc ρ) := fun ha hi h => zA (qm (Nat.le_succ n) _) (ih n (Nat.lt_succ_self n) _ _ _ ha hi h)
     cases ks with
     | nil => exact Ff hrs ha (F := Fin Y E G lv rs K n) hi (.inr rfl) h
     | cons it ks =>
       cases it with
       | b id => exact gi (up (ks := ks) ha hi h)
       | l c =>
         have h' : Fin Y E G lv rs K n (.k c :: ks) (kG E lv.l (l6 c) σ) := h
         obtain ⟨ρ', q1, k1, k2⟩ := lq lv.l (l6 c) σ ρ hi
         exact ⟨n, _, ρ', Nat.lt_succ_self n, ⟨ha.trans q1, k1⟩, k2, h'⟩
       | k c =>
         refine D0 (fun y : Nat × TS E.T × Rn => y.2.1.to E.toEnc y.2.2) (fun y => (Agr ρ0 y.2.2 ∧ Inj y.2.2 y.2.1.h) ∧ Fin Y E G lv rs K y.1 (.k c :: ks) y.2.1 ∧ y.1 ≤ n + 1) (fun y => y.1) (n + 1, σ, ρ) (fun _ _ _ h => h) ⟨⟨ha, hi⟩, h, Nat.le_refl _⟩ ?_
         rintro ⟨m, τ, ρ'⟩ ⟨⟨ha', hi'⟩, hf, hle⟩
         cases m with
         | zero => cases hf
         | succ m =>
           have hf' : Fin Y E G lv rs K m (.c c :: .l c :: ks) τ := hf
           have hr := ih m (by simp only at hle; omega) _ τ ρ' ha' hi' hf'
           refine zA (.same _ (.l ?_ (qm (by simp only at hle; omega) ks))) hr
           rintro σ' ⟨q, τ', ρ'', h1, h2, h3, h4⟩
           exact ⟨(q, τ', ρ''), h3, ⟨h2, h4, by simp only at hle ⊢; omega⟩, by simp only; omega⟩
       | r id ops draw =>
         refine MX (Y := Y) hm hG hi ?_
         have h' : ((evR Y E G ops.toList draw σ).bind fun
          | .st σ' => Tree.leaf (Lf.go ks σ')
          | .pan v => .leaf (.done (.pan v))).holds (xc (Fin Y E G lv rs K n) K) := h
         refine (aN h').mono fun x hx => ?_
         cases x with
         | st σ' => exact fun ρ' hi' ha' => up (ha.trans ha') hi' hx
         | pan v => exact mr ks fun n => ⟨v, rfl, ⟨.pan v, ρ0, hx, Agr.refl ρ0, rfl, rfl⟩⟩
       | c c =>
         cases c with
         | skip => exact eF (up (ks := ks) ha hi h)
         | label q => exact FT (up (ks := ks) ha hi h)
         | seq a b => exact fE (up (ks := .c a :: .c b :: ks) ha hi h)
         | block id c => exact dZ (up (ks := .c c :: .b id :: ks) ha hi h)
         | loop c =>
           have h' : Fin Y E G lv rs K n (.l c :: ks) σ := h
           cases n with
           | zero => cases h'
           | succ n' =>
             have h2 : Fin Y E G lv rs K n' (.k c :: ks) (kG E lv.l (l6 c) σ) := h'
             obtain ⟨ρ', q1, k1, k2⟩ := lq lv.l (l6 c) σ ρ hi
             refine qY k2 ?_
             exact zA (qm (by omega) (.k c :: ks)) (ih n' (by omega) (.k c :: ks) _ ρ' (ha.trans q1) k1 h2)
         | cond x a b =>
           cases x with
           | tmp t =>
             have h' : (match look σ.t t with
              | some (.a .tt) => Tree.leaf (Lf.go (.c a :: ks) σ)
              | some (.a .ff) => .leaf (.go (.c b :: ks) σ)
              | some (.a (.d .bool v)) => .cond v (.leaf (.go (.c a :: ks) (σ.know t .tt))) (.leaf (.go (.c b :: ks) (σ.know t .ff)))
              | _ => .fail).holds (xc (Fin Y E G lv rs K n) K) := h
             split at h'
             ·rename_i hl
              exact bC (b := true) (by simp only [TS.to, aQ, hl]; rfl) rfl (up (ks := .c a :: ks) ha hi h')
             ·rename_i hl
              exact be (b := false) (by simp only [TS.to, aQ, hl]; rfl) rfl (up (ks := .c b :: ks) ha hi h')
             ·rename_i v hl
              cases hv : v with
              | true => exact bC (b := v) (by simp only [TS.to, aQ, hl]; rfl) hv (qY (jZ (x := .tt) (b := v) (by rw [hv]; rfl) hl) (up (ks := .c a :: ks) (σ := σ.know t .tt) ha hi (h'.1 hv)))
              | false => exact be (b := v) (by simp only [TS.to, aQ, hl]; rfl) hv (qY (jZ (x := .ff) (b := v) (by rw [hv]; rfl) hl) (up (ks := .c b :: ks) (σ := σ.know t .ff) ha hi (h'.2 hv)))
             ·cases h'
           | _ => cases h
         | exit id =>
           have h' : (match ng id ks with
            | some ks' => Tree.leaf (Lf.go ks' σ)
            | none => .fail).holds (xc (Fin Y E G lv rs K n) K) := h
           split at h'
           ·rename_i ks' hks
            exact eW (o4 ks hks (up ha hi h'))
           ·cases h'
         | ret =>
           exact Lo (l5 ks (Ff hrs ha (F := Fin Y E G lv rs K n) hi (.inl rfl) h))
         | region id ops draw =>
           obtain ⟨ρ1, q0, k1, k2⟩ := lq lv.r id σ ρ hi
           refine qY k2 ?_
           have h' : ((Ia E (OU lv.g id) (kG E lv.r id σ)).bind fun τ => Tree.leaf (Lf.go (.r id ops draw :: ks) τ)).holds (xc (Fin Y E G lv rs K n) K) := h
           obtain ⟨τ, q1, q2⟩ := Bf (aN h')
           obtain ⟨ρ', q3, q4, q5⟩ := q2 ρ1 k1
           exact EJ (up (ks := .r id ops draw :: ks) ((ha.trans q0).trans q3) q4 q1) q5
         | _ => cases h
def slotsT {T : Nat → Type} : Nat → List (TV T) → List (Nat × TV T)
 | _, [] => []
 | k, u :: us => (k, u) :: slotsT (k + 1) us
theorem uv {ρ : Rn} : ∀ (us : List (TV E.T)) (k : Nat), tTo E.toEnc ρ (slotsT k us) = slotsOf k (us.map (TV.to E.toEnc ρ))
 | [], _ => rfl
 | u :: us, k => by simp only [slotsT, tTo, List.map_cons, slotsOf]; exact congrArg _ (uv us (k + 1))
theorem jB {f : FuncId} {fn : Func} (c : Code) (n : Nat) (hm : P.follows .mixedOrders = true) (hG : GOk P Y E G) (hf : P.funcs[f]? = some fn) (hn : (fn.name == "runtime.NumGoroutine") = false) (hb : fn.body = some c) (hnt : fn.ntmps = n) (hrs : fn.results.toList = rs) {us : List (TV E.T)} (hus : Nat.ble us.length n = true) {h0 : List (Nat × TB E.T)}
  (h : bP Y E G lv rs K [.c c] ⟨n, slotsT 0 us, h0, []⟩) (ρ : Rn) (hi : Inj ρ h0) : ak P f (us.map (TV.to E.toEnc ρ)) (hTo E.toEnc ρ h0) (bO E ρ K) := by
 subst hnt
 refine vJ hf hn hb (by simpa using hus) ?_
 obtain ⟨m, hm'⟩ := h
 have hr := JT hrs hm hG m _ _ ρ (Agr.refl ρ) hi hm'
 have hst : (TS.to E.toEnc ρ (⟨fn.ntmps, slotsT 0 us, h0, []⟩ : TS E.T)) = ⟨fn.ntmps, slotsOf 0 (us.map (TV.to E.toEnc ρ)), hTo E.toEnc ρ h0, []⟩ := by
  simp only [TS.to, uv]; rfl
 rw [hst] at hr
 exact hr
theorem fk {f : FuncId} {fn : Func} (c : Code) (n : Nat) (hm : P.follows .mixedOrders = true) (hG : GOk P Y E G) (hf : P.funcs[f]? = some fn) (hn : (fn.name == "runtime.NumGoroutine") = false) (hb : fn.body = some c) (hnt : fn.ntmps = n) (hrs : fn.results.toList = rs) {us : List (TV E.T)} (hus : Nat.ble us.length n = true)
  (h : bP Y E G lv rs K [.c c] ⟨n, slotsT 0 us, [], []⟩) (ρ : Rn) : ak P f (us.map (TV.to E.toEnc ρ)) [] (bO E ρ K) :=
 jB c n hm hG hf hn hb hnt hrs hus h ρ (fun p hp => by cases hp)
theorem bO.ret {ρ : Rn} {u : TV E.T} (hu : (u.ids big) = true) {out : AOut} {H : List (Nat × List AV)} (h : bO E ρ (fun r => r = .ret u []) out H) : out = .ret (u.to E.toEnc ρ) ∧ H = [] := by
 obtain ⟨r, ρ', rfl, ha, h1, h2, _⟩ := h
 exact ⟨by rw [h1, TV.ids_to ha hu], h2⟩
theorem bO.retH {ρ : Rn} {u : TV E.T} {hh : List (Nat × TB E.T)} (hu : (u.ids big) = true) (hb : o8 big hh = true) {out : AOut} {H : List (Nat × List AV)} (h : bO E ρ (fun r => r = .ret u hh) out H) : out = .ret (u.to E.toEnc ρ) ∧ H = hTo E.toEnc ρ hh := by
 obtain ⟨r, ρ', rfl, ha, h1, h2, _⟩ := h
 exact ⟨by rw [h1, TV.ids_to ha hu], by rw [h2, vd ha hb]⟩
def s0 (id : Nat) : Code → List It2 → Option (List It2)
 | .region j ops draw, ks => match Nat.beq id j with
   | true => some (.r j ops draw :: ks)
   | false => none
 | .seq a b, ks => match s0 id a (.c b :: ks) with
   | some x => some x
   | none => s0 id b ks
 | .cond _ a b, ks => match s0 id a ks with
   | some x => some x
   | none => s0 id b ks
 | .block i c, ks => s0 id c (.b i :: ks)
 | .loop c, ks => s0 id c (.l c :: ks)
 | _, _ => none
def sC (key : Nat) : Code → List It2 → Option (List It2)
 | .seq a b, ks => match sC key a (.c b :: ks) with
   | some x => some x
   | none => sC key b ks
 | .cond _ a b, ks => match sC key a ks with
   | some x => some x
   | none => sC key b ks
 | .block i c, ks => sC key c (.b i :: ks)
 | .loop c, ks => match Nat.beq key (l6 c) with
   | true => some (.k c :: ks)
   | false => sC key c (.l c :: ks)
 | _, _ => none
def atR (id : Nat) (c : Code) : List It2 := (s0 id c []).getD []
def atL (key : Nat) (c : Code) : List It2 := (sC key c []).getD []
def Tree.map1 {L R : Type} : Tree (L × Option R) → Tree L
 | .leaf x => .leaf x.1
 | .cond b t f => .cond b t.map1 f.map1
 | .bnd o k => .bnd o fun z => (k z).map1
 | .sm x k p => .sm x (fun z => (k z).map1) fun v => (p v).map1
 | .nl l t f => .nl l t.map1 f.map1
 | .fail => .fail
def Tree.run {L R : Type} : Tree (L × Option R) → Option R
 | .leaf x => x.2
 | .cond b t f => bif b then t.run else f.run
 | .bnd o k => o.bind fun z => (k z).run
 | .sm x k p => match x with
   | .ok z => (k z).run
   | .pan v => (p v).run
 | .nl _ _ f => f.run
 | .fail => none
def Tree.all {L R : Type} (K : L × Option R → Prop) : Tree (L × Option R) → Prop
 | .leaf x => K x
 | .cond _ t f => t.all K ∧ f.all K
 | .bnd _ k => ∀ z, (k z).all K
 | .sm _ k p => (∀ z, (k z).all K) ∧ ∀ v, (p v).all K
 | .nl l t f => (l = [] → ∀ r, f.run = some r → t.run = some r) ∧ t.all K ∧ f.all K
 | .fail => True
theorem eL {L R : Type} {K : L → Prop} {r : R} : ∀ {t : Tree (L × Option R)}, t.run = some r → t.all (fun p => p.2 = some r → K p.1) → t.map1.holds K
 | .leaf x, h, ha => ha h
 | .cond true t f, h, ha => ⟨fun _ => eL h ha.1, fun e => by cases e⟩
 | .cond false t f, h, ha => ⟨(fun e => by cases e), fun _ => eL h ha.2⟩
 | .bnd none k, h, ha => by cases h
 | .bnd (some z) k, h, ha => ⟨z, rfl, eL h (ha z)⟩
 | .nl l t f, h, ha => ⟨fun e => eL (ha.1 e _ h) ha.2.1, eL h ha.2.2⟩
 | .sm (.ok z) k p, h, ha => ⟨(fun z' e => by cases e; exact eL h (ha.1 z)), fun v e => by cases e⟩
 | .sm (.pan v) k p, h, ha => ⟨(fun z' e => by cases e), fun v' e => by cases e; exact eL h (ha.2 v)⟩
 | .fail, h, ha => by cases h
theorem ay {R : Type} {r : R} {g : Option R} {m : Nat} {ks : List It2} {σ : TS E.T} {t : Tree (Lf E.T × Option R)} (hev : evM Y E G lv rs m true ks σ = t.map1) (hrun : g = t.run) (hg : g = some r) (ha : t.all (fun p => p.2 = some r → N7 Y E G lv rs K p.1)) : bP Y E G lv rs K ks σ :=
 Et m true ks σ (by rw [hev]; exact eL (hrun ▸ hg) ha)
theorem bx {R : Type} {enc : R → RL E.T} {r r' : R} {u : RL E.T} (e : u = enc r') (h : some r' = some r) : u = enc r := by cases h; exact e
end
def aa : Nat → Func → Code
 | 0, fn => match fn.body with
   | some c => c
   | none => .skip
 | n + 1, fn => aa n fn
def fj {T : Nat → Type} (t : Ty) : TV T → Option (Den T t)
 | .a x => asD t x
 | _ => none
def Cn (E : Env) (i : Nat) : TV E.T → Option (E.T i)
 | .ag l => match E.pk i l with
   | some (z, []) => some z
   | _ => none
 | _ => none
theorem bm {E : Env} {t : Ty} {u : TV E.T} {x : Den E.T t} (h : fj t u = some x) (ρ : Rn) : LeV (u.to E.toEnc ρ) ((TV.a (.d t x) : TV E.T).to E.toEnc ρ) := by
 unfold fj at h
 split at h
 ·rename_i a
  have := vY E.toEnc ρ h
  rw [TA.rd_to] at this
  exact .inl ((nb _).trans this)
 ·cases h
theorem rp {E : Env} {i : Nat} {u : TV E.T} {z : E.T i} (h : Cn E i u = some z) (ρ : Rn) : LeV (u.to E.toEnc ρ) ((TV.ag (E.unp i z) : TV E.T).to E.toEnc ρ) := by
 unfold Cn at h
 split at h
 ·rename_i l
  split at h
  ·rename_i z' hz
   cases h
   have := xP (E := E) i (.ag l) ρ
   unfold Bs at this
   simp only [hz] at this
   exact this
  ·cases h
 ·cases h
theorem xz {P : Program} {E : Env} {f : FuncId} {us us' : List (TV E.T)} {ρ : Rn} {post : AOut → List (Nat × List AV) → Prop} (h : ak P f (us'.map (TV.to E.toEnc ρ)) [] post) (hl : us.length = us'.length) (hr : ∀ (i : Nat) u u', us[i]? = some u → us'[i]? = some u' → LeV (u.to E.toEnc ρ) (u'.to E.toEnc ρ)) : ak P f (us.map (TV.to E.toEnc ρ)) [] post :=
 h.args (by simpa using hl) fun i u u' hu hu' => by
  simp only [List.getElem?_map, Option.map_eq_some_iff] at hu hu'
  obtain ⟨v, hv, rfl⟩ := hu
  obtain ⟨v', hv', rfl⟩ := hu'
  exact hr i v v' hv hv'
def s8 (E : Env) (ρ : Rn) : List (TV E.T) → List (TV E.T) → Prop
 | [], [] => True
 | u :: us, u' :: us' => LeV (u.to E.toEnc ρ) (u'.to E.toEnc ρ) ∧ s8 E ρ us us'
 | _, _ => False
theorem s8.get {E : Env} {ρ : Rn} : ∀ {us us' : List (TV E.T)}, s8 E ρ us us' → us.length = us'.length ∧ ∀ (i : Nat) u u', us[i]? = some u → us'[i]? = some u' → LeV (u.to E.toEnc ρ) (u'.to E.toEnc ρ)
 | [], [], _ => ⟨rfl, fun i u u' h => by simp at h⟩
 | u :: us, u' :: us', h => by
   obtain ⟨h1, h2⟩ := s8.get h.2
   refine ⟨by simp [h1], fun i v v' hv hv' => ?_⟩
   cases i with
   | zero => simp at hv hv'; subst hv hv'; exact h.1
   | succ i => exact h2 i v v' (by simpa using hv) (by simpa using hv')
 | [], _ :: _, h => h.elim
 | _ :: _, [], h => h.elim
theorem br {P : Program} {E : Env} {f : FuncId} {us us' : List (TV E.T)} {ρ : Rn} {post : AOut → List (Nat × List AV) → Prop} (hr : s8 E ρ us us') (h : ak P f (us'.map (TV.to E.toEnc ρ)) [] post) : ak P f (us.map (TV.to E.toEnc ρ)) [] post := xz h hr.get.1 hr.get.2
abbrev w64 (n : Int) : Int := IntKind.wrap .i64 n
abbrev b2i (b : UInt8) : Int := ((UInt8.toNat b : Nat) : Int)
end Go.Proofs.YtmjpdbbjiipnfaaGreat
namespace Go.Proofs.YtmjpdbbjiipnfaaGreat
open Go.RowKit P
set_option linter.unusedSimpArgs false
set_option linter.unusedVariables false
def Nq : List Nat → Nat → Nat → Nat
 | [], _, _ => 0
 | i :: r, k, j => match Nat.beq j k with
   | true => i
   | false => Nq r (k + 1) j
def nmS (ids : List Nat) (j : Nat) : Nat := match Nat.ble 200000 j with
 | true => Nq ids 200000 j
 | false => Nq ids 100000 j
def zP (ρ : Rn) (ids : List Nat) : Rn := ⟨fun j => ρ.k (nmS ids j)⟩
def AL {E : Env} (us : List (TV E.T)) (ρ ρ' : Rn) : Nat → List (TV E.T) → Prop
 | k, [] => us.length = k
 | k, u' :: r => (∀ u, us[k]? = some u → LeV (u.to E.toEnc ρ) (u'.to E.toEnc ρ')) ∧ AL us ρ ρ' (k + 1) r
theorem AL.get {E : Env} {us : List (TV E.T)} {ρ ρ' : Rn} : ∀ {us' : List (TV E.T)} {k : Nat}, AL us ρ ρ' k us' → us.length = k + us'.length ∧ ∀ (i : Nat) u u', us[k + i]? = some u → us'[i]? = some u' → LeV (u.to E.toEnc ρ) (u'.to E.toEnc ρ')
 | [], k, h => ⟨h, fun i u u' _ h' => by simp at h'⟩
 | v :: r, k, h => by
   obtain ⟨h1, h2⟩ := AL.get (us' := r) h.2
   refine ⟨by simp only [List.length_cons]; omega, fun i u u' hu hu' => ?_⟩
   cases i with
   | zero => simp at hu'; subst hu'; exact h.1 u hu
   | succ i => exact h2 i u u' (by rw [show k + 1 + i = k + (i + 1) by omega]; exact hu) (by simpa using hu')
def BL {E : Env} (hs : List (Nat × TB E.T)) (ρ ρ' : Rn) : List Nat → List (Nat × TB E.T) → Prop
 | [], [] => True
 | i :: is, q :: r => ρ' q.1 = ρ i ∧ (∃ b, look hs i = some b ∧ LeL (b.to E.toEnc ρ) (q.2.to E.toEnc ρ') ∧ aG ρ b = aG ρ' q.2) ∧ BL hs ρ ρ' is r
 | _, _ => False
theorem BL.look {E : Env} {hs : List (Nat × TB E.T)} {ρ ρ' : Rn} : ∀ {ids : List Nat} {h0 : List (Nat × TB E.T)}, BL hs ρ ρ' ids h0 → ∀ k cs', look (hTo E.toEnc ρ' h0) k = some cs' → ∃ cs, Go.Proofs.YtmjpdbbjiipnfaaGreat.look (hTo E.toEnc ρ (bG hs ids)) k = some cs ∧ LeL cs cs'
 | [], [], _, k, cs', h => by cases h
 | i :: is, q :: r, h, k, cs', hk => by
   obtain ⟨h1, ⟨b, h2, h3, h5⟩, h4⟩ := h
   obtain ⟨qn, qb⟩ := q
   simp only at h1 h3 h5
   simp only [bG, h2]
   cases hl : aG ρ b with
   | false =>
     rw [cv _ _ (by rw [← h5]; exact hl)] at hk
     rw [cv _ _ hl]
     exact BL.look h4 k cs' hk
   | true =>
     rw [bL _ _ (by rw [← h5]; exact hl), ab, h1] at hk
     rw [bL _ _ hl, ab]
     split at hk
     ·rename_i e
      rw [if_pos e]
      cases hk
      exact ⟨_, rfl, h3⟩
     ·rename_i e
      rw [if_neg e]
      exact BL.look h4 k cs' hk
 | [], _ :: _, h, _, _, _ => h.elim
 | _ :: _, [], h, _, _, _ => h.elim
theorem Ks {P : Program} {E : Env} {f : FuncId} {us us' : List (TV E.T)} {hs h0 : List (Nat × TB E.T)} {ids : List Nat} {ρ ρ' : Rn} {post post' : AOut → List (Nat × List AV) → Prop} (ha : AL us ρ ρ' 0 us') (hb : BL hs ρ ρ' ids h0) (hc : ak P f (us'.map (TV.to E.toEnc ρ')) (hTo E.toEnc ρ' h0) post) (hp : ∀ out H, post out H → post' out H) : ak P f (us.map (TV.to E.toEnc ρ)) (hTo E.toEnc ρ (bG hs ids)) post' := by
 have h1 : ak P f (us.map (TV.to E.toEnc ρ)) (hTo E.toEnc ρ (bG hs ids)) post := by
  obtain ⟨hl, hr⟩ := ha.get
  refine ⟨hc.1, fun F X vs hs' => hc.2 F X vs ?_⟩
  refine hs'.le3 (by simp [hl]) (fun t u' hu => ?_) (fun k cs' hk => hb.look k cs' hk) (fun p hp => hp)
  obtain ⟨_, h2⟩ := b9 (us'.map (TV.to E.toEnc ρ')) 0 t u' hu
  simp only [Nat.sub_zero, List.getElem?_map, Option.map_eq_some_iff] at h2
  obtain ⟨v', hv', rfl⟩ := h2
  have hlt : t < us.length := by rw [hl]; have := (List.getElem?_eq_some_iff.1 hv').1; omega
  have e : us[0 + t]? = some us[t] := by simp [hlt]
  refine ⟨us[t].to E.toEnc ρ, ?_, hr t _ _ e hv'⟩
  have key : ∀ (us : List AV) (k t : Nat) (u : AV), us[t]? = some u → look (slotsOf k us) (k + t) = some u := by
   intro us
   induction us with
   | nil => intro k t u h; simp at h
   | cons a us ih =>
     intro k t u h
     simp only [slotsOf, ab]
     cases t with
     | zero => simp at h; subst h; simp
     | succ t =>
       rw [if_neg (by omega), show k + (t + 1) = (k + 1) + t by omega]
       exact ih (k + 1) t u (by simpa using h)
  simpa using key (us.map (TV.to E.toEnc ρ)) 0 t (us[t].to E.toEnc ρ) (by simp [hlt])
 exact h1.mono hp
theorem tg {T : Nat → Type} {hs : List (Nat × TB T)} : ∀ {ids : List Nat}, cA hs ids = true → ids.Nodup
 | [], _ => List.nodup_nil
 | i :: r, h => by
   simp only [cA] at h
   split at h
   ·rename_i hm
    exact List.nodup_cons.2 ⟨fun hi => (by rw [cm.2 hi] at hm; cases hm), tg h⟩
   ·cases h
theorem BL.mem {E : Env} {hs : List (Nat × TB E.T)} {ρ ρ' : Rn} : ∀ {ids : List Nat} {h0 : List (Nat × TB E.T)}, BL hs ρ ρ' ids h0 → ids.length = h0.length ∧ ∀ (j : Nat) (h1 : j < ids.length) (h2 : j < h0.length), ρ' h0[j].1 = ρ ids[j] ∧ ∃ b, Go.Proofs.YtmjpdbbjiipnfaaGreat.look hs ids[j] = some b ∧ aG ρ b = aG ρ' h0[j].2
 | [], [], _ => ⟨rfl, fun j h1 => by simp at h1⟩
 | i :: is, q :: r, h => by
   obtain ⟨h1, ⟨b, h2, h3, h5⟩, h4⟩ := h
   obtain ⟨k1, k2⟩ := BL.mem h4
   refine ⟨by simp [k1], fun j hj1 hj2 => ?_⟩
   cases j with
   | zero => exact ⟨h1, b, h2, h5⟩
   | succ j => exact k2 j (by simpa using hj1) (by simpa using hj2)
 | [], _ :: _, h => absurd h id
 | _ :: _, [], h => absurd h id
theorem BL.inj {E : Env} {hs h0 : List (Nat × TB E.T)} {ρ ρ' : Rn} {ids : List Nat} (hi : Inj ρ hs) (hg : cA hs ids = true) (hb : BL hs ρ ρ' ids h0) (hn : oN (h0.map (·.1)) = true) : Inj ρ' h0 := by
 obtain ⟨hl, hm⟩ := hb.mem
 have hnd := List.pairwise_iff_getElem.1 (tg hg)
 have hn0 := List.pairwise_iff_getElem.1 (rC hn)
 intro p hp q hq
 obtain ⟨a, ha, rfl⟩ := List.getElem_of_mem hp
 obtain ⟨b, hb', rfl⟩ := List.getElem_of_mem hq
 obtain ⟨e1, b1, l1, m1⟩ := hm a (by omega) ha
 obtain ⟨e2, b2, l2, m2⟩ := hm b (by omega) hb'
 constructor
 ·intro v1 v2 e
  have := (hi _ (bl l1) _ (bl l2)).1 (by rw [m1]; exact v1) (by rw [m2]; exact v2) (by rw [← e1, ← e2]; exact e)
  simp only at this
  rcases Nat.lt_trichotomy a b with hlt | heq | hgt
  ·exact absurd this (hnd _ _ (by omega) (by omega) hlt)
  ·subst heq; rfl
  ·exact absurd this.symm (hnd _ _ (by omega) (by omega) hgt)
 ·intro e
  rcases Nat.lt_trichotomy a b with hlt | heq | hgt
  ·exact absurd (by rw [List.getElem_map, List.getElem_map]; exact e) (hn0 a b (by simpa using ha) (by simpa using hb') hlt)
  ·subst heq; rfl
  ·exact absurd (by rw [List.getElem_map, List.getElem_map]; exact e.symm) (hn0 b a (by simpa using hb') (by simpa using ha) hgt)
theorem zy {P : Program} {E : Env} {f : FuncId} {us us' : List (TV E.T)} {hs h0 : List (Nat × TB E.T)} {ids : List Nat} {ρ ρ' : Rn} {post post' : AOut → List (Nat × List AV) → Prop} (hi : Inj ρ hs) (hg : cA hs ids = true) (hn : oN (h0.map (·.1)) = true) (ha : AL us ρ ρ' 0 us') (hb : BL hs ρ ρ' ids h0) (hc : Inj ρ' h0 → ak P f (us'.map (TV.to E.toEnc ρ')) (hTo E.toEnc ρ' h0) post) (hp : ∀ out H, post out H → post' out H) : ak P f (us.map (TV.to E.toEnc ρ)) (hTo E.toEnc ρ (bG hs ids)) post' :=
 Ks ha hb (hc (hb.inj hi hg hn)) hp
def CD (ρ ρ' : Rn) : List Nat → List Nat → Prop
 | i :: is, k :: ks => (big k = false ∨ ρ'.k k = ρ.k i) ∧ CD ρ ρ' is ks
 | [], [] => True
 | _, _ => False
def mvL : List Nat → List Nat → List Nat
 | i :: is, k :: ks => match big k with
   | true => mvL is ks
   | false => i :: mvL is ks
 | _, _ => []
theorem CD.get {ρ ρ' : Rn} : ∀ {ids ks : List Nat}, CD ρ ρ' ids ks → ∀ i ∈ ids, i ∉ mvL ids ks → ∃ k, (k, i) ∈ ks.zip ids ∧ big k = true ∧ ρ'.k k = ρ.k i
 | [], [], _, i, hi, _ => by cases hi
 | j :: is, k :: ks, h, i, hi, hn => by
   simp only [mvL] at hn
   cases hb : big k with
   | true =>
     rw [hb] at hn
     rcases List.mem_cons.1 hi with rfl | hi
     ·exact ⟨k, List.mem_cons_self, hb, h.1.resolve_left (by rw [hb]; decide)⟩
     ·obtain ⟨k', h1, h2, h3⟩ := CD.get h.2 i hi hn
      exact ⟨k', List.mem_cons_of_mem _ h1, h2, h3⟩
   | false =>
     rw [hb] at hn
     rcases List.mem_cons.1 hi with rfl | hi
     ·exact absurd List.mem_cons_self hn
     ·obtain ⟨k', h1, h2, h3⟩ := CD.get h.2 i hi fun hc => hn (List.mem_cons_of_mem _ hc)
      exact ⟨k', List.mem_cons_of_mem _ h1, h2, h3⟩
 | [], _ :: _, h, _, _, _ => absurd h id
 | _ :: _, [], h, _, _, _ => absurd h id
def Ed {T : Nat → Type} {Z : Type} (u : Z → TV T) (h : Z → List (Nat × TB T)) : PR Z → RL T
 | .ok z => .ret (u z) (h z)
 | .pan v => .pan v
theorem vV {P : Program} {E : Env} {f : FuncId} {us us' : List (TV E.T)} {hs h0 : List (Nat × TB E.T)} {ids ks : List Nat} {ex : List (Nat × Nat)} {ρ ρ' : Rn} {Z : Type} {p : PR Z} {uc u : Z → TV E.T} {hc h : Z → List (Nat × TB E.T)} (hi : Inj ρ hs) (hg : cA hs ids = true) (hn : oN (h0.map (·.1)) = true) (ha : AL us ρ ρ' 0 us') (hb : BL hs ρ ρ' ids h0) (hf : CD ρ ρ' ids ks) (hv : oN ((ks.zip ids ++ ex).map (·.2)) = true)
  (hk : Inj ρ' h0 → ak P f (us'.map (TV.to E.toEnc ρ')) (hTo E.toEnc ρ' h0) (bO E ρ' fun r => r = Ed uc hc p))
  (hu : ∀ z, (uc z).ren (mE (ks.zip ids ++ ex)) = u z ∧ mF (mE (ks.zip ids ++ ex)) (hc z) = h z ∧ (uc z).ids (inK (ks.zip ids ++ ex)) = true ∧ o8 (inK (ks.zip ids ++ ex)) (hc z) = true) :
  ak P f (us.map (TV.to E.toEnc ρ)) (hTo E.toEnc ρ (bG hs ids)) fun out H => match (generalizing := false) p with
   | .ok z => ∃ ρ3 : Rn, (∀ i ∈ ids, i ∉ mvL ids ks → ρ3.k i = ρ.k i) ∧ out = .ret ((u z).to E.toEnc ρ3) ∧ H = hTo E.toEnc ρ3 (h z) ∧ Inj ρ3 (h z)
   | .pan v => out = .pan v := by
 refine Ks ha hb (hk (hb.inj hi hg hn)) ?_
 rintro out H ⟨r, ρ2, rfl, hagr, hr⟩
 cases p with
 | pan v => exact hr.1
 | ok z =>
   obtain ⟨h1, h2, h3⟩ := hr
   obtain ⟨k1, k2, k3, k4⟩ := hu z
   have key : ∀ j, inK (ks.zip ids ++ ex) j = true → (⟨fun i => match gd (qg (ks.zip ids ++ ex)) i with | some j => ρ2.k j | none => ρ.k i⟩ : Rn).k (mE (ks.zip ids ++ ex) j) = ρ2.k j := fun j hj => by
    unfold inK at hj
    obtain ⟨b, hb⟩ := Option.isSome_iff_exists.1 hj
    have := fM hv (gy hb)
    simp only [mE, hb, Option.getD_some, this]
   have kinj : ∀ i j, inK (ks.zip ids ++ ex) i = true → inK (ks.zip ids ++ ex) j = true → mE (ks.zip ids ++ ex) i = mE (ks.zip ids ++ ex) j → i = j := fun i j hi hj e => by
    unfold inK at hi hj
    obtain ⟨a, ha⟩ := Option.isSome_iff_exists.1 hi
    obtain ⟨b, hb⟩ := Option.isSome_iff_exists.1 hj
    simp only [mE, ha, hb, Option.getD_some] at e
    subst e
    have e1 := fM hv (gy ha)
    have e2 := fM hv (gy hb)
    rw [e1] at e2; cases e2; rfl
   refine ⟨⟨fun i => match gd (qg (ks.zip ids ++ ex)) i with | some j => ρ2.k j | none => ρ.k i⟩, fun i hi hm => ?_, ?_, ?_, ?_⟩
   ·obtain ⟨k, q1, q2, q3⟩ := hf.get i hi hm
    have := fM hv (List.mem_append_left ex q1)
    simp only [this]
    rw [hagr k q2, q3]
   ·rw [h1, ← k1, TV.ren_to key k3]
   ·rw [h2, ← k2, oc key k4]
   ·rw [← k2]; exact oz key kinj k4 h3
def bnX {T : Nat → Type} {α : Type} (o : Option α) (k : α → XR T) : XR T := match o with
 | some x => k x
 | none => .bad
theorem cZ {P : Program} {E : Env} {f : FuncId} {us : List (TV E.T)} {hs : List (Nat × TB E.T)} {α : Type} {o : Option α} {k : α → XR E.T} (h : ∀ x, o = some x → (k x).ok P f us hs) : (bnX o k).ok P f us hs := by
 cases o with
 | none => trivial
 | some x => exact h x rfl
def gdX {T : Nat → Type} (b : Bool) (x : XR T) : XR T := match b with
 | true => x
 | false => .bad
theorem dr {P : Program} {E : Env} {f : FuncId} {us : List (TV E.T)} {hs : List (Nat × TB E.T)} {b : Bool} {x : XR E.T} (h : b = true → x.ok P f us hs) : (gdX b x).ok P f us hs := by
 cases b with
 | false => trivial
 | true => exact h rfl
section
variable {E : Env} {us : List (TV E.T)} {hs : List (Nat × TB E.T)} {l : List (TA E.T)} {k i j : Nat} {t : Ty} {ρ ρ' : Rn}
def pN {α : Type} (us : List α) (n : Nat) : Bool := Nat.beq us.length n
theorem fC {α : Type} {us : List α} {n : Nat} (h : pN us n = true) : us.length = n := Nat.eq_of_beq_eq_true h
def aD {T : Nat → Type} (t : Ty) (us : List (TV T)) (k : Nat) : Option (Den T t) := match us[k]? with
 | some u => fj t u
 | none => none
def aF {T : Nat → Type} (f : FuncId) (us : List (TV T)) (k : Nat) : Option (List (TA T)) := match us[k]? with
 | some (.fn g l) => match Nat.beq g f with
   | true => some l
   | false => none
 | some (.a (.raw (.func (.func g) ⟨[]⟩ ⟨[]⟩))) => match Nat.beq g f with
   | true => some []
   | false => none
 | _ => none
theorem xT {x : Den E.T t} (h : aD t us k = some x) : ∀ u, us[k]? = some u → LeV (u.to E.toEnc ρ) ((TV.a (.d t x) : TV E.T).to E.toEnc ρ') := fun u hu => by
 unfold aD at h
 rw [hu] at h
 exact bm h ρ
theorem yz {f : FuncId} {is js : List Nat} (h : aF f us k = some l) (hc : cbs l = some is) (e : (is.map fun i => ρ i) = js.map fun i => ρ' i) : ∀ u, us[k]? = some u → LeV (u.to E.toEnc ρ) ((TV.fn f (js.map fun i => .box i 0) : TV E.T).to E.toEnc ρ') := fun u hu => by
 unfold aF at h
 rw [hu] at h
 split at h
 ·rename_i g l' hu'
  split at h
  ·rename_i hg
   cases hu'; cases h
   have := Nat.eq_of_beq_eq_true hg
   subst this
   left
   rw [vO hc]
   simp only [TV.to, List.map_map]
   have e2 : is.map ((TA.to E.toEnc ρ) ∘ fun i => (TA.box i 0 : TA E.T)) = js.map ((TA.to E.toEnc ρ') ∘ fun i => (TA.box i 0 : TA E.T)) := by
    have : ∀ (is : List Nat) (ρ : Rn), is.map ((TA.to E.toEnc ρ) ∘ fun i => (TA.box i 0 : TA E.T)) = (is.map ρ).map fun k => AV.v (.pointer (some ⟨k, 0, none⟩)) := fun is ρ => by
     rw [List.map_map]; rfl
    rw [this, this, e]
   rw [e2]
   exact .refl _
  ·cases h
 ·rename_i g hu'
  split at h
  ·rename_i hg
   cases hu'; cases h
   have := Nat.eq_of_beq_eq_true hg
   subst this
   cases hc
   have hj : js = [] := by
    cases js with
    | nil => rfl
    | cons a b => cases e
   subst hj
   right
   refine ⟨fun X v hr => ?_, rfl⟩
   have := bj hr
   subst this
   exact .fn g [] #[] rfl (fun i u x hu hx => by simp at hu)
  ·cases h
 ·cases h
def CL {E : Env} (l : List (TA E.T)) (ρ ρ' : Rn) : Nat → List (TA E.T) → Prop
 | k, [] => l.length = k
 | k, u' :: r => (∀ u, l[k]? = some u → Le1 (u.to E.toEnc ρ) (u'.to E.toEnc ρ')) ∧ CL l ρ ρ' (k + 1) r
theorem CL.le : ∀ {l' : List (TA E.T)} {l : List (TA E.T)} {k : Nat}, CL l ρ ρ' k l' → LeL ((l.drop k).map (TA.to E.toEnc ρ)) (l'.map (TA.to E.toEnc ρ'))
 | [], l, k, h => by
   have h' : l.length = k := h
   rw [List.drop_eq_nil_of_le (by omega)]; exact .nil
 | u' :: r, l, k, h => by
   have hlen : ∀ (r : List (TA E.T)) (k : Nat), CL l ρ ρ' k r → l.length = k + r.length := by
    intro r
    induction r with
    | nil => intro k h; exact h
    | cons a r ih => intro k h; have := ih _ h.2; simp only [List.length_cons]; omega
   have hk : k < l.length := by have := hlen _ _ h; simp only [List.length_cons] at this; omega
   rw [List.drop_eq_getElem_cons hk]
   exact .cons (h.1 _ (List.getElem?_eq_getElem hk)) (CL.le h.2)
theorem bO.pan {v : Value} {out : AOut} {H : List (Nat × List AV)} (h : bO E ρ (fun r => r = .pan v) out H) : out = .pan v := by
 obtain ⟨r, ρ', rfl, ha, h1, h2⟩ := h
 exact h1
def bV {T : Nat → Type} (t : Ty) (hs : List (Nat × TB T)) (i : Nat) : Option (List (Den T t)) := kY hs t i
theorem Eb {x : List (Den E.T t)} (h : bV t hs i = some x) (e : ρ'.k j = ρ.k i) : ∃ b, look hs i = some b ∧ LeL (b.to E.toEnc ρ) ((TB.vec j t x : TB E.T).to E.toEnc ρ') ∧ aG ρ b = aG ρ' (TB.vec j t x : TB E.T) := by
 have hb := eP (σ := ⟨0, [], hs, []⟩) h
 refine ⟨_, hb, ?_, ?_⟩
 ·simp only [TB.to, e]; exact LeL.refl _
 ·simp only [aG, e]
def isV {T : Nat → Type} (t : Ty) : TA T → Option (Nat × Nat)
 | .vec t' i n => match decide (t' = t) with
   | true => some (i, n)
   | false => none
 | _ => none
theorem Fs {T : Nat → Type} {t : Ty} {p : Nat × Nat} {a : TA T} (h : isV t a = some p) : a = .vec t p.1 p.2 := by
 unfold isV at h
 split at h
 ·split at h
  ·rename_i hb
   have := of_decide_eq_true hb
   subst this
   cases h; rfl
  ·cases h
 ·cases h
def aV {T : Nat → Type} (t : Ty) (us : List (TV T)) (k : Nat) : Option (Nat × Nat) := match us[k]? with
 | some (.a a) => isV t a
 | _ => none
theorem PT {n : Nat} (h : aV t us k = some (i, n)) (e : ρ'.k j = ρ.k i) : ∀ u, us[k]? = some u → LeV (u.to E.toEnc ρ) ((TV.a (.vec t j n) : TV E.T).to E.toEnc ρ') := fun u hu => by
 unfold aV at h
 rw [hu] at h
 split at h
 ·rename_i a hu'
  cases hu'
  rw [Fs h]
  left
  simp only [TV.to, TA.to, e]; exact .refl _
 ·cases h
def aVi {T : Nat → Type} (t : Ty) (us : List (TV T)) (k : Nat) : Option Nat := match aV t us k with
 | some p => some p.1
 | none => none
def aVn {T : Nat → Type} (t : Ty) (us : List (TV T)) (k : Nat) : Option Nat := match aV t us k with
 | some p => some p.2
 | none => none
theorem Eh {n : Nat} (h : aVi t us k = some i) (h2 : aVn t us k = some n) (e : ρ'.k j = ρ.k i) : ∀ u, us[k]? = some u → LeV (u.to E.toEnc ρ) ((TV.a (.vec t j n) : TV E.T).to E.toEnc ρ') := by
 unfold aVi at h; unfold aVn at h2
 cases hc : aV t us k with
 | none => rw [hc] at h; cases h
 | some p =>
   rw [hc] at h h2
   cases h; cases h2
   exact PT hc e
def isU {T : Nat → Type} (t : Ty) : TA T → Option (Nat × Nat × Nat)
 | .vsl t' i off n => match decide (t' = t) with
   | true => some (i, off, n)
   | false => none
 | .vec t' i n => match decide (t' = t) with
   | true => some (i, 0, n)
   | false => none
 | _ => none
theorem JP (b : Bk) (sz n : Nat) : vecV b sz n = kK b sz 0 n := by
 unfold vecV kK
 rw [Nat.zero_add]
 split
 ·rfl
 ·rw [Nat.zero_mul, ite_self]
theorem Gm {E : Env} {ρ : Rn} {t : Ty} {p : Nat × Nat × Nat} {a : TA E.T} (h : isU t a = some p) : a.to E.toEnc ρ = (TA.vsl t p.1 p.2.1 p.2.2 : TA E.T).to E.toEnc ρ := by
 unfold isU at h
 split at h
 ·split at h
  ·rename_i hb
   have := of_decide_eq_true hb
   subst this
   cases h; rfl
  ·cases h
 ·split at h
  ·rename_i hb
   have := of_decide_eq_true hb
   subst this
   cases h
   simp only [TA.to, JP]
  ·cases h
 ·cases h
def aU {T : Nat → Type} (t : Ty) (us : List (TV T)) (k : Nat) : Option (Nat × Nat × Nat) := match us[k]? with
 | some (.a a) => isU t a
 | _ => none
def aUi {T : Nat → Type} (t : Ty) (us : List (TV T)) (k : Nat) : Option Nat := match aU t us k with
 | some p => some p.1
 | none => none
def aUo {T : Nat → Type} (t : Ty) (us : List (TV T)) (k : Nat) : Option Nat := match aU t us k with
 | some p => some p.2.1
 | none => none
def aUn {T : Nat → Type} (t : Ty) (us : List (TV T)) (k : Nat) : Option Nat := match aU t us k with
 | some p => some p.2.2
 | none => none
theorem O7 {off n : Nat} (h : aUi t us k = some i) (h2 : aUo t us k = some off) (h3 : aUn t us k = some n) (e : ρ'.k j = ρ.k i) : ∀ u, us[k]? = some u → LeV (u.to E.toEnc ρ) ((TV.a (.vsl t j off n) : TV E.T).to E.toEnc ρ') := fun u hu => by
 unfold aUi at h; unfold aUo at h2; unfold aUn at h3
 cases hc : aU t us k with
 | none => rw [hc] at h; cases h
 | some p =>
   rw [hc] at h h2 h3
   cases h; cases h2; cases h3
   unfold aU at hc
   rw [hu] at hc
   split at hc
   ·rename_i a hu'
    cases hu'
    left
    have e2 : (TV.a a : TV E.T).to E.toEnc ρ = (TV.a (.vsl t p.1 p.2.1 p.2.2) : TV E.T).to E.toEnc ρ := Gm hc
    rw [e2]
    simp only [TV.to, TA.to, e]; exact .refl _
   ·cases hc
def xOf {T : Nat → Type} (h : List (TV T) → PV T) : List (TV T) → List (Nat × TB T) → XR T := fun us hs => match h us with
 | .one u => .ret (some ()) [] (fun _ => u) fun _ => []
 | .opt o u => .ret o [] u fun _ => []
 | .bad => .bad
end
theorem yN {P : Program} {E : Env} {f : FuncId} {h : List (TV E.T) → PV E.T} (hf : ∀ us, (h us).ok fun u => ∀ ρ, ak P f (us.map (TV.to E.toEnc ρ)) [] (fun out H => out = .ret (u.to E.toEnc ρ) ∧ H = [])) : XOk P E f (xOf h) := fun us hs => by
 have hu := hf us
 unfold xOf
 cases hh : h us with
 | one u => rw [hh] at hu; exact fun z hz => ⟨rfl, fun ρ hi => hu ρ⟩
 | opt o u => rw [hh] at hu; exact fun z hz => ⟨rfl, fun ρ hi => hu z hz ρ⟩
 | bad => trivial
theorem Fy {l : List Nat} (h : l.length = 0) : l = [] := List.length_eq_zero_iff.1 h
end Go.Proofs.YtmjpdbbjiipnfaaGreat
