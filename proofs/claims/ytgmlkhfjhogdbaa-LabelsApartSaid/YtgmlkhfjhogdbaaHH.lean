/- Typed abstract values: code. -/
import Derived.Test.YtgmlkhfjhogdbaaHG
import Derived.Test.YtgmlkhfjhogdbaaGE
import Derived.Test.YtgmlkhfjhogdbaaGW
namespace Go.Proofs.Ytgmlkhfjhogdbaa
open Go.RowKit P
set_option linter.unusedSimpArgs false
set_option linter.unusedVariables false

/-- Is an operation wanted? -/
inductive Want where
  | yes
  | no
  | nor
  | sym (b want : Bool) (d : Nat)
  | bad
def wantT {T : Nat → Type} (l : List Oper) (σ : TS T) (o : Oper) : Want :=
  match o.guard with
  | none => .yes
  | some (j, want) => match (l[j]?).bind (·.dst) with
    | some d => match Nat.ble (d + 1) σ.n with
      | true => match look σ.t d with
        | some (.a .tt) => (match want with | true => .yes | false => .no)
        | some (.a .ff) => (match want with | true => .no | false => .yes)
        | some (.a (.d .bool b)) => .sym b want d
        | some (.a (.raw (.tuple _))) => .nor
        | _ => .bad
      | false => .bad
    | none => .bad
def TS.know {T : Nat → Type} (σ : TS T) (d : Nat) (x : TA T) : TS T := { n := σ.n, t := (d, .a x) :: σ.t, h := σ.h, e := σ.e }
section
variable {P : Program} (Y : Tys P) (E : Env) (G : Gam E)
/-- What comes of an operation. -/
inductive OL (T : Nat → Type) where
  | st (σ : TS T)
  | pan (v : Value)
def goodIds {T : Nat → Type} (h : List (Nat × TB T)) : List Nat → Bool
  | [] => true
  | i :: r => match look h i, memN r i with
    | some _, false => goodIds h r
    | _, _ => false
def TS.give {T : Nat → Type} (σ : TS T) (ids : List Nat) (h' : List (Nat × TB T)) : TS T := { n := σ.n, t := σ.t, h := h' ++ dropHH ids σ.h, e := dropCT σ.e }
def evXR {T : Nat → Type} (σ : TS T) (d : Nat) : XR T → Tree (OL T)
  | .bad => .fail
  | .ret o ids u h => match goodIds σ.h ids with
    | true => .bnd o fun z => .leaf (.st ((σ.give ids (h z)).put d (u z)))
    | false => .fail
  | .may o ids u h => match goodIds σ.h ids with
    | true => .bnd o fun p => .sm p (fun z => .leaf (.st ((σ.give ids (h z)).put d (u z)))) fun v => .leaf (.pan v)
    | false => .fail
/-- What is panicked with. -/
def panT (E : Env) (u : TV E.T) : Option Value := match u.ids fun _ => false with
  | true => panV (u.to E.toEnc id)
  | false => none
def evX (o : Oper) (σ : TS E.T) : Tree (OL E.T) :=
  match o.dst with
  | some d => match Nat.ble (d + 1) σ.n with
    | true => match o.op with
      | .call { callee := .value (.func f), args := xs, argTypes := ats } => match xHas G.x f with
        | true => match opTs σ xs.toList with
          | some us => evXR σ d (xRun G.x f (fixArgs E ats.toList us) σ.h)
          | none => .fail
        | false => (evOp Y E G o σ).bind fun σ' => .leaf (.st σ')
      | .call { callee := .value (.tmp s), args := xs, argTypes := ats } => match look σ.t s, opTs σ xs.toList with
        | some (.fn f caps), some us => match caps.all TA.plain with
          | true => evXR σ d (xRun G.x f (fixArgs E ats.toList us ++ caps.map .a) σ.h)
          | false => .fail
        | some (.a (.fnb f is)), some us => evXR σ d (xRun G.x f (fixArgs E ats.toList us ++ is.map fun i => .a (.box i 0)) σ.h)
        | _, _ => .fail
      | .binOp op t x y _ => match asL (opT σ x), opT σ y, look Y.ty t, op with
        | some ⟨_, l⟩, some (.a (.raw (.slice none 0 0))), some (.slice _), .eql => .nl l (.leaf (.st (σ.put d (.a .tt)))) (.leaf (.st (σ.put d (.a .ff))))
        | some ⟨_, l⟩, some (.a (.raw (.slice none 0 0))), some (.slice _), .neq => .nl l (.leaf (.st (σ.put d (.a .ff)))) (.leaf (.st (σ.put d (.a .tt))))
        | _, _, _, _ => (evOp Y E G o σ).bind fun σ' => .leaf (.st σ')
      | _ => (evOp Y E G o σ).bind fun σ' => .leaf (.st σ')
    | false => .fail
  | none => match o.op with
    | .panic x => match opT σ x with
      | some u => match panT E u with
        | some v => .leaf (.pan v)
        | none => .fail
      | none => .fail
    | _ => (evOp Y E G o σ).bind fun σ' => .leaf (.st σ')
/-- On, unless there was a panic. -/
def andT {T : Nat → Type} (f : TS T → Tree (OL T)) : OL T → Tree (OL T)
  | .st σ => f σ
  | .pan v => .leaf (.pan v)
def passT (σ : TS E.T) (o : Oper) : Tree (TS E.T) :=
  match o.dst with
  | some d => match Nat.ble (d + 1) σ.n with
    | true => .leaf (σ.put d (.a (.raw undef)))
    | false => .fail
  | none => .fail
def evOps (l : List Oper) : List Oper → TS E.T → Tree (OL E.T)
  | [], σ => .leaf (.st σ)
  | o :: rest, σ => match wantT l σ o with
    | .yes => (evX Y E G o σ).bind (andT (evOps l rest))
    | .no => (passT E σ o).bind (evOps l rest)
    | .nor => (passT E σ o).bind (evOps l rest)
    | .sym b true d => .cond b ((evX Y E G o (σ.know d .tt)).bind (andT (evOps l rest))) ((passT E (σ.know d .ff) o).bind (evOps l rest))
    | .sym b false d => .cond b ((passT E (σ.know d .tt) o).bind (evOps l rest)) ((evX Y E G o (σ.know d .ff)).bind (andT (evOps l rest)))
    | .bad => .fail
/-- An operation in a region that draws: it turns nothing. -/
def evQ (o : Oper) (σ : TS E.T) : Tree (TS E.T) :=
  match o.dst with
  | some d => match Nat.ble (d + 1) σ.n with
    | true => match o.op with
      | .pick c x y => match opT σ c with
        | some (.a .tt) => match opT σ x with
          | some u => .leaf (σ.put d u.rd)
          | none => .fail
        | some (.a .ff) => match opT σ y with
          | some u => .leaf (σ.put d u.rd)
          | none => .fail
        | some (.a (.d .bool b)) => match opT σ x, opT σ y with
          | some u, some v => .cond b (.leaf (σ.put d u.rd)) (.leaf (σ.put d v.rd))
          | _, _ => .fail
        | _ => .fail
      | .buildSlice t 0 ⟨[]⟩ => match look Y.ty t, look E.et t with
        | some (.slice e), some (.sl ty) => match look Y.sz e with
          | some (sz, _) => match Nat.beq sz (csz E.toEnc ty) with
            | true => .leaf (σ.put d (.a (.clip ty [])))
            | false => .fail
          | none => .fail
        | _, _ => .fail
      | .call { callee := .builtin .append, args := ⟨[x, y]⟩, argTypes := ⟨[t, u]⟩ } => match opT σ x, look Y.ty t, look Y.ty u with
        | some (.a (.clip ty l)), some (.slice e), some du => match look Y.sz e, addT ty (opT σ y) with
          | some (sz, by_), some m => match isStrSl du && Nat.ble 1 by_ && Nat.beq sz (csz E.toEnc ty) with
            | true => .nl m (.leaf (σ.put d (.a (.clip ty l)))) (.bnd (appC by_ l m) fun r => .leaf (σ.put d (.a (.own ty r))))
            | false => .fail
          | _, _ => .fail
        | _, _, _ => .fail
      | op => pureT Y E G σ d op o.type
    | false => .fail
  | none => .fail
def evQs (l : List Oper) : List Oper → TS E.T → Tree (TS E.T)
  | [], σ => .leaf σ
  | o :: rest, σ => match wantT l σ o with
    | .yes => (evQ Y E G o σ).bind (evQs l rest)
    | .no => (passT E σ o).bind (evQs l rest)
    | .sym b true d => .cond b ((evQ Y E G o (σ.know d .tt)).bind (evQs l rest)) ((passT E (σ.know d .ff) o).bind (evQs l rest))
    | .sym b false d => .cond b ((passT E (σ.know d .tt) o).bind (evQs l rest)) ((evQ Y E G o (σ.know d .ff)).bind (evQs l rest))
    | _ => .fail
/-- Does an operation turn something? -/
def bs0 (l : List Oper) (s : Nat) : Bool := l.any fun o => match o.dst, o.op with
  | some d, .buildSlice _ 0 ⟨[]⟩ => Nat.beq d s
  | _, _ => false
def effB (xs bs : Nat → Bool) : Op → Bool
  | .store _ _ _ => true
  | .mapUpdate _ _ _ _ => true
  | .alloc _ => true
  | .box _ _ => true
  | .makeMap _ _ => true
  | .panic _ => true
  | .call { callee := .builtin .append, args := ⟨.tmp s :: _⟩, argTypes := _ } => !bs s
  | .call { callee := .builtin .append, args := _, argTypes := _ } => true
  | .call { callee := .value (.func f), args := _, argTypes := _ } => xs f
  | _ => false
def effD (mu : List Nat) : Option Nat → Bool
  | some d => hasB mu d
  | none => false
def splitE (xs bs : Nat → Bool) (mu : List Nat) : List Oper → List Oper × List Oper
  | [] => ([], [])
  | o :: r => match effD mu o.dst || effB xs bs o.op with
    | true => ([], o :: r)
    | false => match splitE xs bs mu r with
      | (a, b) => (o :: a, b)
def ownS {T : Nat → Type} (σ : TS T) (s : Nat) : Bool := match look σ.t s with
  | some (.a (.own _ _)) => true
  | _ => false
def TS.alsT {T : Nat → Type} (σ : TS T) (m : List (Nat × Nat)) : TS T := { n := σ.n, t := σ.t, h := σ.h, e := (m.filter fun p => ownS σ p.2).map (fun p => (p.1, Root.s p.2)) ++ σ.e }
def TS.withB {T : Nat → Type} (σ : TS T) (h : List (Nat × TB T)) : TS T := { n := σ.n, t := σ.t, h := h, e := σ.e }
def storeL (σ : TS E.T) (t : TypeId) (k o n : Nat) (y : Operand) : Option (List (TA E.T)) :=
  match look σ.h k, opT σ y with
  | some (.cs cs), some u => match u.cs1 with
    | some vs => match Nat.beq vs.length n && Nat.ble (o + n) cs.length with
      | true => some (spl cs o (nilC ((look E.ct t).getD []) vs))
      | false => none
    | none => none
  | _, _ => none
def lateB (ops body : List Oper) (om oa : Oper) (after : List Oper) : Bool := match om.op with
  | .store _ _ _ => drawLB ops body om oa after
  | _ => false
/-- A region that draws, with a store among it. -/
def lateR (ops body : List Oper) (om oa : Oper) (after : List Oper) (σ : TS E.T) : Tree (OL E.T) :=
  match om.op with
  | .store t x y => match opT σ x, look Y.sz t with
    | some (.a (.box kk _)), some (n, _) => match drawLB ops body om oa after && (look σ.h kk).isSome with
      | true => (evQs Y E G ops body (σ.withB (noBox kk σ.h))).bind fun σ' => match opT σ' x with
        | some (.a (.box k2 p)) => match Nat.beq k2 kk with
          | true => match storeL E (σ'.withB σ.h) t kk p n y with
            | some cs => evOps Y E G ops (oa :: after) (((σ'.withB σ.h).setc kk cs).alsT (slotMoves body))
            | none => .fail
          | false => .fail
        | _ => .fail
      | false => .fail
    | _, _ => .fail
  | _ => .fail
/-! Regions that draw: what turns nothing, in whatever order, among a chain of what does. -/
def detV {T : Nat → Type} : TV T → Bool
  | .a (.d (.int _) _) => true
  | .a (.d .byte _) => true
  | .a (.d .bool _) => true
  | .a (.d .str _) => true
  | .a (.box _ _) => true
  | .a (.mpr _) => true
  | .a (.raw _) => true
  | .a .tt => true
  | .a .ff => true
  | .a (.bsl _ _ _ _) => true
  | _ => false
def kindN : Op → Bool
  | .move _ => true
  | .fieldAddr _ _ _ => true
  | .load _ _ => true
  | .binOp _ _ _ _ _ => true
  | .unOp _ _ _ => true
  | .index _ _ _ => true
  | .nilCheck _ => true
  | .slice _ _ _ _ _ => true
  | .convert _ _ _ => true
  | .call { callee := .builtin .len, args := _, argTypes := _ } => true
  | _ => false
def clsN (xs bs : Nat → Bool) (mu : List Nat) (l : List Oper) : List Oper → List Nat → List Bool
  | [], _ => []
  | o :: r, cd => match kindN o.op && !(effD mu o.dst || effB xs bs o.op) && o.guard.isNone && o.dst.isSome && !(seesOf l o).any (hasB cd) with
    | true => true :: clsN xs bs mu l r cd
    | false => false :: clsN xs bs mu l r (match o.dst with | some d => d :: cd | none => cd)
def mNf (fl : List Bool) (i : Nat) : Bool := fl.getD i false
def chainOf : Nat → List Bool → List Nat
  | _, [] => []
  | k, true :: r => chainOf (k + 1) r
  | k, false :: r => k :: chainOf (k + 1) r
def dstIs (s : Nat) (o : Oper) : Bool := match o.dst with
  | some d => Nat.beq d s
  | none => false
/-- Where a pointer points to, as far as is seen. -/
def ptrB (l : List Oper) (σ : TS E.T) : Nat → Operand → Option (Nat × Nat)
  | 0, _ => none
  | n + 1, .tmp s => match l.find? (dstIs s) with
    | some o => match o.op with
      | .move y => ptrB l σ n y
      | .nilCheck y => ptrB l σ n y
      | .fieldAddr t y i => match look Y.ty t, ptrB l σ n y with
        | some (.struct fs), some (k, p) => match fs[i]? with
          | some f => some (k, p + f.offset)
          | none => none
        | _, _ => none
      | .load _ y => match ptrB l σ n y with
        | some (k, p) => match look σ.h k with
          | some (.cs cs) => match cs[p]? with
            | some (.box j q) => some (j, q)
            | _ => none
          | _ => none
        | none => none
      | _ => none
    | none => match look σ.t s with
      | some (.a (.box k p)) => some (k, p)
      | _ => none
  | _, _ => none
def inH {T : Nat → Type} (ids : List Nat) (h : List (Nat × TB T)) : List (Nat × TB T) := h.filter fun p => memN ids p.1
def outH {T : Nat → Type} (ids : List Nat) (h : List (Nat × TB T)) : List (Nat × TB T) := h.filter fun p => !memN ids p.1
def mixIds (l : List Oper) (σ : TS E.T) (fl : List Bool) : List Nat := l.zipIdx.filterMap fun q => match mNf fl q.2, q.1.op with
  | true, .load _ y => (ptrB Y E l σ l.length y).map (·.1)
  | _, _ => none
def baseB (l : List Oper) (σ : TS E.T) (x : Operand) : Option Nat := match x with
  | .tmp s => match l.find? (dstIs s) with
    | some o => match o.op with
      | .load _ y => (ptrB Y E l σ l.length y).map (·.1)
      | _ => none
    | none => none
  | _ => none
def isIn (ids : List Nat) : Option Nat → Bool
  | some k => memN ids k
  | none => false
/-- Does an operation turn a box among these? -/
def touchB (l : List Oper) (σ : TS E.T) (ids : List Nat) (i : Nat) : Bool := match l[i]? with
  | some o => match o.op with
    | .store _ x _ => isIn ids ((ptrB Y E l σ l.length x).map (·.1))
    | .call { callee := .builtin .append, args := xs, argTypes := _ } => xs.toList.any fun x => isIn ids (baseB Y E l σ x)
    | .call { callee := .value _, args := xs, argTypes := _ } => xs.toList.any fun x => isIn ids ((ptrB Y E l σ l.length x).map (·.1))
    | _ => false
  | none => false
/-- What an operation waits for, through others too. -/
def cloD (l : List Oper) : Nat → List Nat → List Nat
  | 0, S => S
  | i + 1, S => cloD l i (match hasB S i, l[i]? with
    | true, some o => depsOf o ++ S
    | _, _ => S)
def mBf (l : List Oper) (cs2 : List Nat) (i : Nat) : Bool := match cs2 with
  | [] => true
  | c :: _ => hasB (cloD l (c + 1) [c]) i
def ldsOf (l : List Oper) (σ : TS E.T) (fl : List Bool) (mB : Nat → Bool) : List (Nat × Nat × Nat) := l.zipIdx.filterMap fun q => match mNf fl q.2 && mB q.2, q.1.op, q.1.dst with
  | true, .load _ y, some d => match ptrB Y E l σ l.length y with
    | some (k, p) => match look σ.h k with
      | some (.cs cs) => match cs[p]? with
        | some c => match detV (.a c : TV E.T) with
          | true => none
          | false => some (d, k, p)
        | none => none
      | _ => none
    | none => none
  | _, _, _ => none
def ldCell (σ : TS E.T) (op : Op) (kk p : Nat) : Option (TA E.T) := match op with
  | .load t x => match opT σ x, look Y.ty t, look σ.h kk with
    | some (.a (.box k2 p2)), some dsc, some (.cs cs) => match Nat.beq k2 kk && Nat.beq p2 p && oneB dsc with
      | true => cs[p]?
      | false => none
    | _, _, _ => none
  | _ => none
def mvN (l : List Oper) (fl : List Bool) (σ : TS E.T) (op : Op) : Option (TV E.T) := match op with
  | .move (.tmp s) => match l.zipIdx.all fun q => !mNf fl q.2 || !(dstIs s q.1) with
    | true => opT σ (.tmp s)
    | false => none
  | _ => none
def bstT {T : Nat → Type} (mB : Nat → Bool) (i : Nat) (σ : TS T) : TS T := match mB i with
  | true => σ
  | false => σ.withB []
def evN (l : List Oper) (fl : List Bool) (mB : Nat → Bool) (ld : List (Nat × Nat × Nat)) : Nat → List Oper → TS E.T → Tree (TS E.T)
  | _, [], σ => .leaf σ
  | k, o :: rest, σ => match mNf fl k with
    | false => evN l fl mB ld (k + 1) rest σ
    | true => match o.dst, o.guard with
      | some d, none => match Nat.ble (d + 1) σ.n with
        | true => match ldAt ld d with
          | some (_, kk, p) => match mB k, ldCell Y E σ o.op kk p with
            | true, some c => evN l fl mB ld (k + 1) rest (σ.put d (.a c.rd))
            | _, _ => .fail
          | none => match mvN E l fl σ o.op with
            | some u => evN l fl mB ld (k + 1) rest (σ.put d u.rd)
            | none => match evP Y E G (bstT mB k σ) o.op o.type with
              | .one u => match detV u with
                | true => evN l fl mB ld (k + 1) rest (σ.put d u)
                | false => .fail
              | .opt z u => .bnd z fun x => match detV (u x) with
                | true => evN l fl mB ld (k + 1) rest (σ.put d (u x))
                | false => .fail
              | .bad => .fail
        | false => .fail
      | _, _ => .fail
/-- An operation of the chain. -/
def evE (all : Bool) (o : Oper) (σ : TS E.T) : Tree (OL E.T) :=
  match o.guard with
  | some _ => .fail
  | none => match o.op with
    | .call { callee := .value (.func f), args := xs, argTypes := ats } => match xHas G.x f, o.dst with
      | true, some d => match Nat.ble (d + 1) σ.n, opTs σ xs.toList with
        | true, some us => evXR σ d (xRun G.x f (fixArgs E ats.toList us) σ.h)
        | _, _ => .fail
      | false, some d => match Nat.ble (d + 1) σ.n with
        | true => (pureT Y E G σ d o.op o.type).bind fun σ' => .leaf (.st σ')
        | false => .fail
      | _, _ => .fail
    | op => match all, o.dst with
      | true, _ => match creO G.mu o with
        | false => (evOp Y E G o σ).bind fun σ' => .leaf (.st σ')
        | true => .fail
      | false, some d => match Nat.ble (d + 1) σ.n with
        | true => (pureT Y E G σ d op o.type).bind fun σ' => .leaf (.st σ')
        | false => .fail
      | false, none => .fail
def evCs (all : Bool) (n : Nat) (l : List Oper) : List Nat → TS E.T → Tree (OL E.T)
  | [], σ => .leaf (.st σ)
  | c :: cs, σ => match Nat.beq σ.n n, l[c]? with
    | true, some o => (evE Y E G all o σ).bind (andT (evCs all n l cs))
    | _, _ => .fail
def TS.alsA {T : Nat → Type} (σ : TS T) (m : List (Nat × Nat)) : TS T := { n := σ.n, t := σ.t, h := σ.h, e := m.map (fun p => (p.1, Root.s p.2)) ++ σ.e }
def TS.alcT {T : Nat → Type} (σ : TS T) (ld : List (Nat × Nat × Nat)) : TS T := { n := σ.n, t := σ.t, h := σ.h, e := ld.map (fun p => (p.1, Root.c p.2.1 p.2.2)) ++ σ.e }
def TS.ownE {T : Nat → Type} (σ : TS T) : TS T := { n := σ.n, t := σ.t, h := σ.h, e := σ.e.filter fun p => (σ.ownAt p.2).isSome }
def ldOkB (l : List Oper) (fl : List Bool) (ld : List (Nat × Nat × Nat)) : Bool := decide (ld.map (·.1)).Nodup && ld.all fun p => l.zipIdx.any fun q => mNf fl q.2 && dstIs p.1 q.1
def hasAll {T : Nat → Type} (h : List (Nat × TB T)) (ids : List Nat) : Bool := ids.all fun k => (look h k).isSome
/-! Regions that draw, small ones: every order is walked. -/
def parT {L : Type} : List (Tree L) → Tree L
  | [] => .fail
  | [t] => t
  | t :: r => .nl ([] : List Nat) t (parT r)
def evA (o : Oper) (σ : TS E.T) : Tree (OL E.T) :=
  match o.guard with
  | some _ => .fail
  | none => match o.op with
    | .call { callee := .value (.func f), args := xs, argTypes := ats } => match xHas G.x f, o.dst with
      | true, some d => match Nat.ble (d + 1) σ.n, opTs σ xs.toList with
        | true, some us => evXR σ d (xRun G.x f (fixArgs E ats.toList us) σ.h)
        | _, _ => .fail
      | _, _ => (evOp Y E G o σ).bind fun σ' => .leaf (.st σ')
    | _ => (evOp Y E G o σ).bind fun σ' => .leaf (.st σ')
def anyT (n0 : Nat) (l : List Oper) : Nat → List Nat → TS E.T → Tree (OL E.T)
  | 0, done, σ => match rdyOf l done with
    | [] => .leaf (.st σ)
    | _ => .fail
  | n + 1, done, σ => match rdyOf l done with
    | [] => .leaf (.st σ)
    | is => parT (is.map fun i => match Nat.beq σ.n n0, l[i]? with
      | true, some o => (evA Y E G o σ).bind (andT (anyT n0 l n (i :: done)))
      | _, _ => .fail)
def anyR (ops : List Oper) (σ : TS E.T) : Tree (OL E.T) :=
  match Nat.ble ops.length 8 with
  | true => anyT Y E G σ.n ops ops.length [] σ
  | false => .fail
def mixR2 (ops : List Oper) (σ : TS E.T) (fl : List Bool) (ids cs1 cs2 : List Nat) (ld : List (Nat × Nat × Nat)) : Tree (OL E.T) :=
  match mixB ops (mNf fl) (cs1 ++ cs2) && hasAll σ.h ids && ldOkB ops fl ld with
  | true => (evN Y E G ops fl (mBf ops cs2) ld 0 ops (σ.withB (inH ids σ.h))).bind fun σN =>
    (evCs Y E G false σ.n ops cs1 ((σN.withB (outH ids σ.h)).alsA (nMoves ops (mNf fl) 0 ops))).bind (andT fun σ1 =>
      match hasAll σ.h (σ1.h.map (·.1)) && (σ1.h.all fun p => !memN ids p.1) with
      | true => evCs Y E G true σ.n ops cs2 ((σ1.withB (σ1.h ++ inH ids σ.h)).alcT ld).ownE
      | false => .fail)
  | false => anyR Y E G ops σ
def mixR1 (ops : List Oper) (σ : TS E.T) (fl : List Bool) (ids ch : List Nat) : Tree (OL E.T) :=
  mixR2 Y E G ops σ fl ids (ch.takeWhile fun i => !touchB Y E ops σ ids i) (ch.dropWhile fun i => !touchB Y E ops σ ids i) (ldsOf Y E ops σ fl (mBf ops (ch.dropWhile fun i => !touchB Y E ops σ ids i)))
def mixR (ops : List Oper) (σ : TS E.T) : Tree (OL E.T) :=
  match σ.e with
  | [] => mixR1 Y E G ops σ (clsN (xHas G.x) (bs0 ops) G.mu ops ops []) (mixIds Y E ops σ (clsN (xHas G.x) (bs0 ops) G.mu ops ops [])) (chainOf 0 (clsN (xHas G.x) (bs0 ops) G.mu ops ops []))
  | _ => .fail
def evR (ops : List Oper) (draw : Bool) (σ : TS E.T) : Tree (OL E.T) :=
  match draw with
  | false => evOps Y E G ops ops σ
  | true => match splitE (xHas G.x) (bs0 ops) G.mu ops, σ.e with
    | (_, []), [] => match drawB ops with
      | true => (evQs Y E G ops ops σ).bind fun σ' => .leaf (.st σ')
      | false => .fail
    | (body, om :: after), [] => match drawCB ops body om after with
      | true => (evQs Y E G ops body σ).bind fun σ' => evOps Y E G ops (om :: after) (σ'.alsT (slotMoves body))
      | false => match after with
        | oa :: after => match lateB ops body om oa after with
          | true => lateR Y E G ops body om oa after σ
          | false => mixR Y E G ops σ
        | [] => mixR Y E G ops σ
    | _, _ => .fail
end
section
variable {P : Program} {Y : Tys P} {E : Env} {G : Gam E} {ρ : Nat → Nat} {σ : TS E.T} {Q : Exit → AS → Prop} {ks : List It} {l : List Oper} {k : Nat} {o : Oper} {rest : List Oper}
theorem know_sub {d : Nat} {b : Bool} {x : TA E.T} (hx : x.to E.toEnc ρ = .v (.bool b)) (hl : look σ.t d = some (.a (.d .bool b))) : SubS (σ.to E.toEnc ρ) ((σ.know d x).to E.toEnc ρ) := fun F X tm hs => by
  refine hs.le2 rfl (fun t u' hu => ⟨u', ?_, .refl _⟩) (fun q cs' hq => ⟨cs', hq, LeL.refl _⟩) (fun p hp => hp)
  have e : ((σ.know d x).to E.toEnc ρ).t = (d, x.to E.toEnc ρ) :: tTo E.toEnc ρ σ.t := rfl
  rw [e, look_cons] at hu
  split at hu
  · rename_i e2; subst e2
    simp only [TS.to, look_tTo, hl]
    rw [hx] at hu
    cases hu; rfl
  · exact hu
theorem wantT_yes (h : wantT l σ o = .yes) : wantedA l (σ.to E.toEnc ρ) o = some true := by
  unfold wantT at h
  unfold wantedA
  split at h
  · rename_i hg; rw [hg]
  · rename_i j want hg
    rw [hg]
    split at h
    · rename_i d hd
      simp only [hd]
      split at h
      · rename_i hn
        have hlt := lt_of_ble hn
        rw [if_pos (show d < (σ.to E.toEnc ρ).n from hlt)]
        split at h
        · rename_i hl
          simp only [TS.to, look_tTo, hl]
          cases want <;> first | rfl | cases h
        · rename_i hl
          simp only [TS.to, look_tTo, hl]
          cases want <;> first | rfl | cases h
        · cases h
        · cases h
        · cases h
      · cases h
    · cases h
theorem wantT_no (h : wantT l σ o = .no) : wantedA l (σ.to E.toEnc ρ) o = some false := by
  unfold wantT at h
  unfold wantedA
  split at h
  · cases h
  · rename_i j want hg
    rw [hg]
    split at h
    · rename_i d hd
      simp only [hd]
      split at h
      · rename_i hn
        have hlt := lt_of_ble hn
        rw [if_pos (show d < (σ.to E.toEnc ρ).n from hlt)]
        split at h
        · rename_i hl
          simp only [TS.to, look_tTo, hl]
          cases want <;> first | rfl | cases h
        · rename_i hl
          simp only [TS.to, look_tTo, hl]
          cases want <;> first | rfl | cases h
        · cases h
        · cases h
        · cases h
      · cases h
    · cases h
theorem wantT_nor (h : wantT l σ o = .nor) : wantedU l (σ.to E.toEnc ρ) o = true := by
  unfold wantT at h
  unfold wantedU
  split at h
  · cases h
  · rename_i j want hg
    rw [hg]
    split at h
    · rename_i d hd
      simp only [hd]
      split at h
      · rename_i hn
        have hlt := lt_of_ble hn
        split at h
        · cases want <;> cases h
        · cases want <;> cases h
        · cases h
        · rename_i xs hl
          simp only [TS.to, look_tTo, hl, Option.map_some, TV.to, TA.to]
          exact decide_eq_true hlt
        · cases h
      · cases h
    · cases h
theorem wantT_sym {b want : Bool} {d : Nat} (h : wantT l σ o = .sym b want d) : look σ.t d = some (.a (.d .bool b)) ∧ ∀ (c : Bool) (x : TA E.T), (∀ ρ, x.to E.toEnc ρ = .v (.bool c)) → wantedA l ((σ.know d x).to E.toEnc ρ) o = some (c == want) := by
  unfold wantT at h
  unfold wantedA
  split at h
  · cases h
  · rename_i j want' hg
    rw [hg]
    split at h
    · rename_i d' hd
      split at h
      · rename_i hn
        have hlt := lt_of_ble hn
        split at h
        · cases want' <;> cases h
        · cases want' <;> cases h
        · rename_i b' hl
          cases h
          refine ⟨hl, fun c x hx => ?_⟩
          simp only [hd]
          rw [if_pos (show d < ((σ.know d x).to E.toEnc ρ).n from hlt)]
          have e : look ((σ.know d x).to E.toEnc ρ).t d = some (.v (.bool c)) := by
            show look ((d, x.to E.toEnc ρ) :: tTo E.toEnc ρ σ.t) d = _
            rw [look_hd, hx]
          rw [e]
        · cases h
        · cases h
      · cases h
    · cases h
theorem passT_ok (hi : Inj ρ σ.h) (ho : l[k]? = some o) (hw : wantedA l (σ.to E.toEnc ρ) o = some false) (h : (passT E σ o).holds (On P E Q ρ (.o l (k + 1) rest :: ks))) : ARun P Q (.o l k (o :: rest) :: ks) (σ.to E.toEnc ρ) := by
  unfold passT at h
  split at h
  · rename_i d hd
    split at h
    · rename_i hn
      refine ar_unwanted' ho hw hd hn ?_
      have := h ρ hi (Agr.refl ρ)
      rw [put_to] at this
      exact this
    · cases h
  · cases h
theorem passU_ok (hi : Inj ρ σ.h) (ho : l[k]? = some o) (hw : wantedU l (σ.to E.toEnc ρ) o = true) (h : (passT E σ o).holds (On P E Q ρ (.o l (k + 1) rest :: ks))) : ARun P Q (.o l k (o :: rest) :: ks) (σ.to E.toEnc ρ) := by
  unfold passT at h
  split at h
  · rename_i d hd
    split at h
    · rename_i hn
      refine ar_unwantedU ho hw hd hn ?_
      have := h ρ hi (Agr.refl ρ)
      rw [put_to] at this
      exact this
    · cases h
  · cases h
/-- Left by a panic, whatever stands in the slots. -/
def PanX (P : Program) (Q : Exit → AS → Prop) (ks : List It) (v : Value) : Prop := ∀ n, Stk P Q ks (.panic [{ v := v, recovered := false }]) ⟨n, [], [], []⟩
theorem PanX.toK {v : Value} {σ : AS} (h : PanX P Q ks v) : PanK P Q ks v σ := ⟨[], [], fun _ _ h => (by simp [look_nil] at h), fun _ _ h => (by simp [look_nil] at h), h _⟩
/-- Whence one goes on, or a panic. -/
def OnX (P : Program) (E : Env) (Q : Exit → AS → Prop) (ρ : Nat → Nat) (its ks : List It) : OL E.T → Prop
  | .st σ => On P E Q ρ its σ
  | .pan v => PanX P Q ks v
theorem goodIds_get {T : Nat → Type} {h : List (Nat × TB T)} : ∀ {ids : List Nat}, goodIds h ids = true → ∀ i ∈ ids, ∃ b, look h i = some b
  | [], _, i, hi => by cases hi
  | j :: r, hg, i, hi => by
    simp only [goodIds] at hg
    split at hg
    · rename_i b hb hm
      rcases List.mem_cons.1 hi with rfl | hi
      · exact ⟨b, hb⟩
      · exact goodIds_get hg i hi
    · cases hg
theorem keep_sub (hi : Inj ρ σ.h) (ids : List Nat) : ∀ k cs, look (hTo E.toEnc ρ (keepHH σ.h ids)) k = some cs → look (σ.to E.toEnc ρ).h k = some cs := fun k cs hk => by
  obtain ⟨i, b, h1, h2, h3⟩ := look_hTo_inv hk
  rw [← h1, ← h3]
  exact look_hTo E.toEnc hi (look_keepHH h2)
theorem drop_sub (hi : Inj ρ σ.h) (ids : List Nat) : ∀ k cs, look (hTo E.toEnc ρ (dropHH ids σ.h)) k = some cs → look (σ.to E.toEnc ρ).h k = some cs ∧ look (hTo E.toEnc ρ (keepHH σ.h ids)) k = none := fun k cs hk => by
  obtain ⟨i, b, h1, h2, h3⟩ := look_hTo_inv hk
  obtain ⟨h4, h5⟩ := look_dropHH h2
  refine ⟨by rw [← h1, ← h3]; exact look_hTo E.toEnc hi h4, ?_⟩
  cases hn : look (hTo E.toEnc ρ (keepHH σ.h ids)) k with
  | none => rfl
  | some cs' =>
    obtain ⟨j, b', m1, m2, m3⟩ := look_hTo_inv hn
    obtain ⟨m4, m5⟩ := look_keepIn m2
    have := hi _ (look_mem h4) _ (look_mem m4) (h1.trans m1.symm)
    simp only at this
    subst this
    exact absurd m5 h5
theorem layAll_none : ∀ (n : Nat) (σ : AS), layAll (List.replicate n none) σ = σ
  | 0, _ => rfl
  | n + 1, σ => layAll_none n σ
theorem give_inj {ids : List Nat} {h' : List (Nat × TB E.T)} (hi : Inj ρ σ.h) (hg : goodIds σ.h ids = true) (hm : h'.map (·.1) = ids) : Inj ρ (σ.give ids h').h := hi.sub fun p hp => by
  rcases List.mem_append.1 hp with hp | hp
  · have : p.1 ∈ ids := hm ▸ List.mem_map_of_mem hp
    obtain ⟨b, hb⟩ := goodIds_get hg _ this
    exact ⟨_, look_mem hb, rfl⟩
  · exact ⟨p, dropHH_ids p hp, rfl⟩
theorem give_to (ids : List Nat) (h' : List (Nat × TB E.T)) : (σ.give ids h').to E.toEnc ρ = callSt (σ.to E.toEnc ρ) [] (hTo E.toEnc ρ (dropHH ids σ.h)) (hTo E.toEnc ρ h') := by
  unfold callSt TS.give TS.to
  simp only [layAll, AS.dropC]
  congr 1
  · exact List.map_append
  · exact (dropC_eTo σ.e).symm
theorem callSt_none {σ : AS} {n : Nat} {Hr H' : List (Nat × List AV)} : callSt σ (List.replicate n none) Hr H' = callSt σ [] Hr H' := by
  unfold callSt
  rw [layAll_none]; rfl
theorem oneSome_none : ∀ n, oneSome (List.replicate n none) = true
  | 0 => rfl
  | n + 1 => oneSome_none n
theorem slotsOnly_none : ∀ n, slotsOnly (List.replicate n none) = true
  | 0 => rfl
  | n + 1 => slotsOnly_none n
theorem pargs_rd {σ : AS} : ∀ {xs : List Operand} {us0 us : List AV}, opVs σ xs = some us0 → LeL us0 us → us.all (fun u => (own1 (some u)).isNone) = true → PArgs σ xs us (List.replicate us.length none)
  | [], us0, us, h, hl, hp => by
    cases h
    cases hl
    exact .nil
  | x :: xs, us0, us, h, hl, hp => by
    simp only [opVs] at h
    split at h
    · rename_i u us1 h1 h2
      cases h
      cases hl with
      | cons hu hr =>
        simp only [List.all_cons, Bool.and_eq_true] at hp
        exact .cons (.rd h1 hu (by simpa using hp.1)) (pargs_rd h2 hr hp.2)
    · cases h
/-- A call out of what is known of the callee. -/
theorem evXR_ok {d : Nat} {f : FuncId} {us : List (TV E.T)} {x : XR E.T} (hi : Inj ρ σ.h) (hx : x.ok P f us σ.h)
    (run : ∀ {post : AOut → List (Nat × List AV) → Prop} {ids : List Nat}, goodIds σ.h ids = true → ACalls P f (us.map (TV.to E.toEnc ρ)) (hTo E.toEnc ρ (keepHH σ.h ids)) post → (∀ out H', post out H' → CallEnd P Q ks l k rest d (callSt (σ.to E.toEnc ρ) [] (hTo E.toEnc ρ (dropHH ids σ.h)) H') out) → ARun P Q (.o l k (o :: rest) :: ks) (σ.to E.toEnc ρ))
    (h : (evXR σ d x).holds (OnX P E Q ρ (.o l (k + 1) rest :: ks) ks)) : ARun P Q (.o l k (o :: rest) :: ks) (σ.to E.toEnc ρ) := by
  have goOn : ∀ {ids : List Nat} {h' : List (Nat × TB E.T)} {u : TV E.T}, goodIds σ.h ids = true → h'.map (·.1) = ids → On P E Q ρ (.o l (k + 1) rest :: ks) ((σ.give ids h').put d u) → CallEnd P Q ks l k rest d (callSt (σ.to E.toEnc ρ) [] (hTo E.toEnc ρ (dropHH ids σ.h)) (hTo E.toEnc ρ h')) (.ret (u.to E.toEnc ρ)) := fun {ids h' u} hg hm hq => by
    have := hq ρ (give_inj hi hg hm) (Agr.refl ρ)
    rw [put_to, give_to] at this
    exact this
  cases x with
  | bad => cases h
  | ret ov ids u hh =>
    unfold evXR at h
    simp only at h
    split at h
    · rename_i hg
      obtain ⟨z, hz, h⟩ := h
      obtain ⟨hm, hc⟩ := hx z hz
      refine run hg (hc ρ hi) ?_
      rintro out H' ⟨rfl, rfl⟩
      exact goOn hg hm h
    · cases h
  | may ov ids u hh =>
    unfold evXR at h
    simp only at h
    split at h
    · rename_i hg
      obtain ⟨p, hp, h⟩ := h
      obtain ⟨hm, hc⟩ := hx p hp
      refine run hg (hc ρ hi) ?_
      intro out H' ho
      cases p with
      | ok z =>
        obtain ⟨rfl, rfl⟩ := ho
        exact goOn hg (hm z rfl) (h.1 z rfl)
      | pan v =>
        subst ho
        exact PanX.toK (h.2 v rfl)
    · cases h
theorem panT_to {u : TV E.T} {v : Value} (h : panT E u = some v) : panV (u.to E.toEnc ρ) = some v := by
  unfold panT at h
  split at h
  · rename_i hu
    rw [TV.ids_to (ρ := id) (ρ' := ρ) (fun i e => by cases e) hu]
    exact h
  · cases h
theorem eff_nil {σ : AS} {op : BinOp} {neg : Bool} (hop : (op = .eql ∧ neg = false) ∨ (op = .neq ∧ neg = true)) {d : Nat} {t ty yt e : TypeId} {x y : Operand} {pos : String} {af : Array Edge} {g : Option (Nat × Bool)} {ow : Bool} {sz : Nat} {L : List (List AV)} (ht : P.underlying t = some (.slice e)) (hx : opV σ x = some (.sl ow sz L)) (hy : opV σ y = some (.v (.slice none 0 0))) (hd : Nat.ble (d + 1) σ.n = true) {R : AS → Prop} (hR : ∀ b, (b = true → L = []) → R (σ.put d (.v (.bool (b != neg))))) : EffOp P ⟨some d, .binOp op t x y yt, ty, pos, af, g⟩ σ R := by
  intro F X a hs
  have h1 := opV_rel (hs.r (.binOp op t x y yt)) (by simp [Op.operands]) hx
  have h2 := opV_val (hs.r (.binOp op t x y yt)) (by simp [Op.operands]) hy
  have key : ∃ (ad : Option Addr) (n c : Nat), a.eval x = .slice ad n c ∧ (ad.isNone = true → L = []) := by
    generalize a.eval x = v at h1
    cases h1 with
    | nl _ _ ad c => exact ⟨ad, 0, c, rfl, fun _ => rfl⟩
    | sl _ _ _ b off cap n c hg hn hc hs' hm hr => exact ⟨_, _, _, rfl, fun h => by cases h⟩
  obtain ⟨ad, n, c, e1, e2⟩ := key
  have hrun : (execOp a.eval ⟨some d, .binOp op t x y yt, ty, pos, af, g⟩).run P X.w = .ok (.value (.bool (ad.isNone != neg))) X.w := by
    simp only [execOp, e1, h2]
    refine run_val ?_
    have q := Lib.run_eql_slice_nil X.w t e ad n c 0 0 ht
    rcases hop with ⟨rfl, rfl⟩ | ⟨rfl, rfl⟩
    · simp [eqGuard, q, go_sem]
    · have q' : (Op.equal t (.slice ad n c) (.slice none 0 0)).run P X.w = .ok ad.isNone X.w := by
        simp [Op.equal, Op.maxDepth, Lib.run_equalIn_slice_nil X.w 9999 t e ad n c 0 0 ht]
      simp [eqGuard, binOp, go_sem, q']
  unfold Runs
  rw [hrun]
  refine ⟨X, _, rfl, hR ad.isNone e2, ?_, Ext.refl F X⟩
  exact hs.put_new (lt_of_ble hd) (New.refl X) hs.gb (.v _) (FreshOk.plain rfl)
theorem evX_ok (hi : Inj ρ σ.h) (hG : GOk P Y E G) (ho : l[k]? = some o) (hw : wantedA l (σ.to E.toEnc ρ) o = some true) (h : (evX Y E G o σ).holds (OnX P E Q ρ (.o l (k + 1) rest :: ks) ks)) : ARun P Q (.o l k (o :: rest) :: ks) (σ.to E.toEnc ρ) := by
  have old : ((evOp Y E G o σ).bind fun σ' => Tree.leaf (OL.st σ')).holds (OnX P E Q ρ (.o l (k + 1) rest :: ks) ks) → ARun P Q (.o l k (o :: rest) :: ks) (σ.to E.toEnc ρ) := fun h => evOp_ok (Y := Y) hi hG ho hw (holds_bind h)
  obtain ⟨dst, op, ty, pos, af, g⟩ := o
  unfold evX at h
  simp only at h
  split at h
  · rename_i d
    split at h
    · rename_i hd
      split at h
      · rename_i f xs ats
        split at h
        · split at h
          · rename_i us hx
            refine evXR_ok hi (xRun_ok hG.x f _ σ.h) (fun {post ids} hg hc hR => ?_) h
            have hpa := pargs_rd (opTs_to (ρ := ρ) hx) (fixArgs_le ats.toList us (fixArgs_len _ _)) (fixArgs_plain _ _)
            refine ar_callX rfl hc ho hw hpa (oneSome_none _) (fun kk oo hm => absurd (List.eq_of_mem_replicate hm) (by simp)) (keep_sub hi ids) (fun kk cs hk => by rw [layAll_none]; exact drop_sub hi ids kk cs hk) hd ?_
            intro out H' hp
            rw [callSt_none]
            exact hR out H' hp
          · cases h
        · exact old h
      · rename_i s xs ats
        split at h
        · rename_i f caps us hs hx
          split at h
          · rename_i hcap
            refine evXR_ok hi (xRun_ok hG.x f _ σ.h) (fun {post ids} hg hc hR => ?_) h
            have hpa := pargs_rd (opTs_to (ρ := ρ) hx) (fixArgs_le ats.toList us (fixArgs_len _ _)) (fixArgs_plain _ _)
            have hcaps : (caps.map (TV.a)).map (TV.to E.toEnc ρ) = caps.map (TA.to E.toEnc ρ) := by simp only [List.map_map]; rfl
            rw [List.map_append, hcaps] at hc
            refine ar_callXF rfl (by simp only [TS.to, look_tTo, hs]; rfl) hc ho hw hpa ?_ (oneSome_none _) (slotsOnly_none _) (keep_sub hi ids) (fun kk cs hk => drop_sub hi ids kk cs hk) hd ?_
            · rw [List.all_eq_true]
              intro u hu
              obtain ⟨x, hx1, rfl⟩ := List.mem_map.1 hu
              exact Option.isNone_iff_eq_none.2 (TA.plain_to _ _ (List.all_eq_true.1 hcap x hx1))
            · intro out H' hp
              rw [callSt_none]
              exact hR out H' hp
          · cases h
        · rename_i f is us hs hx
          refine evXR_ok hi (xRun_ok hG.x f _ σ.h) (fun {post ids} hg hc hR => ?_) h
          have hpa := pargs_rd (opTs_to (ρ := ρ) hx) (fixArgs_le ats.toList us (fixArgs_len _ _)) (fixArgs_plain _ _)
          have hcaps : (is.map fun i => (TV.a (.box i 0) : TV E.T)).map (TV.to E.toEnc ρ) = is.map fun i => AV.v (.pointer (some ⟨ρ i, 0, none⟩)) := by simp only [List.map_map]; rfl
          rw [List.map_append, hcaps] at hc
          refine ar_callXF rfl (by simp only [TS.to, look_tTo, hs]; rfl) hc ho hw hpa ?_ (oneSome_none _) (slotsOnly_none _) (keep_sub hi ids) (fun kk cs hk => drop_sub hi ids kk cs hk) hd ?_
          · rw [List.all_eq_true]
            intro u hu
            obtain ⟨x, hx1, rfl⟩ := List.mem_map.1 hu
            rfl
          · intro out H' hp
            rw [callSt_none]
            exact hR out H' hp
        · cases h
      · rename_i op t x y yt
        split at h
        · rename_i ty' l e hl hy ht
          obtain ⟨ow, hx⟩ := asL_to (ρ := ρ) hl
          refine ar_eff ho hw (eff_nil (.inl ⟨rfl, rfl⟩) (Y.tyOk _ _ ht) hx (opT_to (ρ := ρ) hy) hd fun b hb => ?_)
          cases b with
          | true =>
            have := h.1 (by simpa using hb rfl) ρ hi (Agr.refl ρ)
            rw [put_to] at this
            exact this
          | false =>
            have := h.2 ρ hi (Agr.refl ρ)
            rw [put_to] at this
            exact this
        · rename_i ty' l e hl hy ht
          obtain ⟨ow, hx⟩ := asL_to (ρ := ρ) hl
          refine ar_eff ho hw (eff_nil (.inr ⟨rfl, rfl⟩) (Y.tyOk _ _ ht) hx (opT_to (ρ := ρ) hy) hd fun b hb => ?_)
          cases b with
          | true =>
            have := h.1 (by simpa using hb rfl) ρ hi (Agr.refl ρ)
            rw [put_to] at this
            exact this
          | false =>
            have := h.2 ρ hi (Agr.refl ρ)
            rw [put_to] at this
            exact this
        · exact old h
      · exact old h
    · cases h
  · split at h
    · rename_i x
      split at h
      · rename_i u hx
        split at h
        · rename_i v hv
          exact ar_panic ho hw (opT_to (ρ := ρ) hx) (panT_to hv) (PanX.toK h)
        · cases h
      · cases h
    · exact old h
theorem OnX.agr {its ks : List It} {ρ' : Nat → Nat} (ha : Agr ρ ρ') : ∀ {x : OL E.T}, OnX P E Q ρ its ks x → OnX P E Q ρ' its ks x
  | .st σ, h => fun ρ'' hi h' => h ρ'' hi (ha.trans h')
  | .pan v, h => h
theorem evOps_ok (hG : GOk P Y E G) (l : List Oper) : ∀ (rest : List Oper) (k : Nat) (σ : TS E.T) (ρ : Nat → Nat), (∀ (i : Nat) o, rest[i]? = some o → l[k + i]? = some o) → k + rest.length = l.length → Inj ρ σ.h → (evOps Y E G l rest σ).holds (OnX P E Q ρ ks ks) → ARun P Q (.o l k rest :: ks) (σ.to E.toEnc ρ)
  | [], k, σ, ρ, hl, hk, hi, h => ar_end (by simpa using hk) (h ρ hi (Agr.refl ρ))
  | o :: rest, k, σ, ρ, hl, hk, hi, h => by
    have ho : l[k]? = some o := by simpa using hl 0 o rfl
    have hl' : ∀ (i : Nat) o', rest[i]? = some o' → l[k + 1 + i]? = some o' := fun i o' hq => by
      have := hl (i + 1) o' (by simpa using hq)
      rw [show k + 1 + i = k + (i + 1) by omega]; exact this
    have hk' : k + 1 + rest.length = l.length := by simp only [List.length_cons] at hk; omega
    have next : ∀ {t : Tree (TS E.T)}, (t.bind (evOps Y E G l rest)).holds (OnX P E Q ρ ks ks) → t.holds (On P E Q ρ (.o l (k + 1) rest :: ks)) := fun {t} h =>
      (holds_bind h).mono fun σ' hσ ρ' hi' ha => evOps_ok hG l rest (k + 1) σ' ρ' hl' hk' hi' (hσ.mono fun x hx => hx.agr ha)
    have nextX : ∀ {t : Tree (OL E.T)}, (t.bind (andT (evOps Y E G l rest))).holds (OnX P E Q ρ ks ks) → t.holds (OnX P E Q ρ (.o l (k + 1) rest :: ks) ks) := fun {t} h =>
      (holds_bind h).mono fun x hx => by
        cases x with
        | st σ' => exact fun ρ' hi' ha => evOps_ok hG l rest (k + 1) σ' ρ' hl' hk' hi' (Tree.holds.mono (fun x hx => OnX.agr ha hx) hx)
        | pan v => exact hx
    simp only [evOps] at h
    split at h
    · rename_i hw
      exact evX_ok (Y := Y) hi hG ho (wantT_yes hw) (nextX h)
    · rename_i hw
      exact passT_ok hi ho (wantT_no hw) (next h)
    · rename_i hw
      exact passU_ok hi ho (wantT_nor hw) (next h)
    · rename_i b d hw
      obtain ⟨h1, h2⟩ := wantT_sym (ρ := ρ) hw
      cases hb : b with
      | true =>
        refine ar_subO rfl (know_sub (x := .tt) (b := b) (by rw [hb]; rfl) h1) ?_
        exact evX_ok (Y := Y) (σ := σ.know d .tt) hi hG ho (h2 true .tt fun _ => rfl) (nextX (h.1 hb))
      | false =>
        refine ar_subO rfl (know_sub (x := .ff) (b := b) (by rw [hb]; rfl) h1) ?_
        exact passT_ok (σ := σ.know d .ff) hi ho (h2 false .ff fun _ => rfl) (next (h.2 hb))
    · rename_i b d hw
      obtain ⟨h1, h2⟩ := wantT_sym (ρ := ρ) hw
      cases hb : b with
      | true =>
        refine ar_subO rfl (know_sub (x := .tt) (b := b) (by rw [hb]; rfl) h1) ?_
        exact passT_ok (σ := σ.know d .tt) hi ho (h2 true .tt fun _ => rfl) (next (h.1 hb))
      | false =>
        refine ar_subO rfl (know_sub (x := .ff) (b := b) (by rw [hb]; rfl) h1) ?_
        exact evX_ok (Y := Y) (σ := σ.know d .ff) hi hG ho (h2 false .ff fun _ => rfl) (nextX (h.2 hb))
    · cases h

/-! ### Regions that draw -/
/-- States that read alike. -/
def Alike (σ σ' : AS) : Prop := σ.n = σ'.n ∧ σ.h = σ'.h ∧ σ.e = σ'.e ∧ ∀ i, look σ.t i = look σ'.t i
theorem Alike.opv {σ σ' : AS} {u : AV} (h : Alike σ σ') (ho : OpV P o σ' u) : OpV P o σ u := fun F X a hs => ho F X a ⟨hs.gb, hs.fb, fun t u hm hu => hs.slot t u hm (by rw [h.2.2.2]; exact hu), fun k cs hk => hs.box k cs (by rw [h.2.1]; exact hk)⟩
theorem Alike.put {σ σ' : AS} (h : Alike σ σ') (d : Nat) (u : AV) : Alike (σ.put d u) (σ'.put d u) := by
  obtain ⟨h1, h2, h3, h4⟩ := h
  refine ⟨h1, h2, by simp only [AS.put, h3], fun i => ?_⟩
  simp only [AS.put, look_cons]
  rw [h4]
theorem Alike.q {K : AS → Prop} (hK : ∀ σ σ', Alike σ σ' → K σ' → K σ) (l : List Oper) : ∀ (rest : List Oper) (σ σ' : AS), Alike σ σ' → QSem P l K rest σ' → QSem P l K rest σ
  | [], σ, σ', h, hq => hK σ σ' h hq
  | o :: rest, σ, σ', h, hq => by
    obtain ⟨d, u, h1, h2, h3, h4⟩ := hq
    refine ⟨d, u, h1, by rw [h.1]; exact h2, ?_, Alike.q hK l rest _ _ (h.put d u) h4⟩
    have hw : wantedA l σ o = wantedA l σ' o := wantedA_congr h.1 fun j want d hg hd => h.2.2.2 d
    rw [hw]
    rcases h3 with ⟨k1, k2⟩ | h3
    · exact .inl ⟨k1, h.opv k2⟩
    · exact .inr h3
theorem Alike.know {d : Nat} {b : Bool} {x : TA E.T} (hx : x.to E.toEnc ρ = .v (.bool b)) (hl : look σ.t d = some (.a (.d .bool b))) : Alike (σ.to E.toEnc ρ) ((σ.know d x).to E.toEnc ρ) := by
  refine ⟨rfl, rfl, rfl, fun i => ?_⟩
  show look (tTo E.toEnc ρ σ.t) i = look ((d, x.to E.toEnc ρ) :: tTo E.toEnc ρ σ.t) i
  rw [look_cons]
  split
  · rename_i e; subst e; rw [look_tTo, hl, hx]; rfl
  · rfl
abbrev OnQ (P : Program) (E : Env) (ρ : Nat → Nat) (K : AS → Prop) (l : List Oper) (rest : List Oper) (h : List (Nat × TB E.T)) (σ' : TS E.T) : Prop := σ'.h = h → QSem P l K rest (σ'.to E.toEnc ρ)
theorem evQ_ok {K : AS → Prop} (hi : Inj ρ σ.h) (hG : GOk P Y E G) (hw : wantedA l (σ.to E.toEnc ρ) o = some true) (h : (evQ Y E G o σ).holds (OnQ P E ρ K l rest σ.h)) : QSem P l K (o :: rest) (σ.to E.toEnc ρ) := by
  obtain ⟨dst, op, ty, pos, af, g⟩ := o
  unfold evQ at h
  simp only at h
  have pick : ∀ {d : Nat} {u : TV E.T}, dst = some d → Nat.ble (d + 1) σ.n = true → OpV P ⟨dst, op, ty, pos, af, g⟩ (σ.to E.toEnc ρ) (u.to E.toEnc ρ).rd → OnQ P E ρ K l rest σ.h (σ.put d u.rd) → QSem P l K (⟨dst, op, ty, pos, af, g⟩ :: rest) (σ.to E.toEnc ρ) := by
    intro d u hdst hd hv hq
    refine q_op hw hdst hd hv ?_
    have := hq rfl
    rw [put_to, TV.rd_to] at this
    exact this
  split at h
  · rename_i d
    split at h
    · rename_i hd
      split at h
      · rename_i c x y
        split at h
        · rename_i hc
          split at h
          · rename_i u hu
            exact pick rfl hd (opv_pickt (b := true) (opT_to hc) rfl (opT_to hu)) h
          · cases h
        · rename_i hc
          split at h
          · rename_i u hu
            exact pick rfl hd (opv_pickf (b := false) (opT_to hc) rfl (opT_to hu)) h
          · cases h
        · rename_i b hc
          split at h
          · rename_i u v hu hv
            cases hb : b with
            | true => exact pick rfl hd (opv_pickt (b := b) (opT_to hc) hb (opT_to hu)) (h.1 hb)
            | false => exact pick rfl hd (opv_pickf (b := b) (opT_to hc) hb (opT_to hv)) (h.2 hb)
          · cases h
        · cases h
      · rename_i t
        split at h
        · rename_i e ty' h0 het
          split at h
          · rename_i sz by_ hz
            split at h
            · rename_i hs
              have hs' := beq_of hs
              subst hs'
              refine q_op hw rfl hd (opv_build0 (T := Y) h0 hz) ?_
              have := h rfl
              rw [put_to] at this
              exact this
            · cases h
          · cases h
        · cases h
      · rename_i x y t u
        split at h
        · rename_i ty' L e du hx h0 hu
          split at h
          · rename_i sz by_ m hz hm
            split at h
            · rename_i hc
              simp only [Bool.and_eq_true] at hc
              obtain ⟨⟨hnz, hb⟩, hs⟩ := hc
              have hs' := beq_of hs
              subst hs'
              obtain ⟨v, S, k1, k2, k3⟩ := addT_to (ρ := ρ) hm
              have hnz' : du = .string ∨ ∃ e', du = .slice e' := by cases du <;> first | exact .inl rfl | exact .inr ⟨_, rfl⟩ | cases hnz
              by_cases hm0 : m = []
              · have hq := h.1 hm0
                refine q_op hw rfl hd (opv_append_cl0 (T := Y) (L := L.map (cells E.toEnc ty')) (opT_to (ρ := ρ) hx) h0 hu hnz' hz k1 (by rw [k2, hm0]; rfl) k3) ?_
                have := hq rfl
                rw [put_to] at this
                exact this
              · obtain ⟨r', hr, hq⟩ := h.2
                obtain ⟨h1, h2⟩ := appC_some hr
                refine q_op hw rfl hd (opv_append_cl (T := Y) (L := L.map (cells E.toEnc ty')) (m := m.map (cells E.toEnc ty')) (opT_to (ρ := ρ) hx) h0 hu hnz' hz hb k1 k2 k3 (by simpa using h1) (by simpa using hm0)) ?_
                have := hq rfl
                rw [put_to, h2] at this
                have e2 : (TV.a (TA.own ty' (L ++ m)) : TV E.T).to E.toEnc ρ = .sl true (csz E.toEnc ty') (L.map (cells E.toEnc ty') ++ m.map (cells E.toEnc ty')) := by
                  show AV.sl true _ (List.map _ (L ++ m)) = _
                  rw [List.map_append]
                rw [e2] at this
                exact this
            · cases h
          · cases h
        · cases h
      · have hok := evP_ok (Y := Y) (σ := σ) (d := some d) (ty := ty) (pos := pos) (af := af) (g := g) hi hG op
        unfold pureT at h
        cases hp : evP Y E G σ op ty with
        | one u =>
          rw [hp] at h hok
          refine q_op hw rfl hd hok ?_
          rw [← put_to]
          exact h rfl
        | opt q u =>
          rw [hp] at h hok
          obtain ⟨z, hz, h⟩ := h
          refine q_op hw rfl hd (hok z hz) ?_
          rw [← put_to]
          exact h rfl
        | bad => rw [hp] at h; cases h
    · cases h
  · cases h
theorem passQ_ok {K : AS → Prop} (hw : wantedA l (σ.to E.toEnc ρ) o = some false) (h : (passT E σ o).holds (OnQ P E ρ K l rest σ.h)) : QSem P l K (o :: rest) (σ.to E.toEnc ρ) := by
  unfold passT at h
  split at h
  · rename_i d hd
    split at h
    · rename_i hn
      refine q_unwanted hw hd hn ?_
      have := h rfl
      rw [put_to] at this
      exact this
    · cases h
  · cases h
theorem evQs_ok {K : AS → Prop} (hK : ∀ σ σ', Alike σ σ' → K σ' → K σ) (hG : GOk P Y E G) (l : List Oper) (H : List (Nat × TB E.T)) (hi : Inj ρ H) : ∀ (rest : List Oper) (σ : TS E.T), σ.h = H → (evQs Y E G l rest σ).holds (fun σ' => σ'.h = H → K (σ'.to E.toEnc ρ)) → QSem P l K rest (σ.to E.toEnc ρ)
  | [], σ, hh, h => h hh
  | o :: rest, σ, hh, h => by
    have next : ∀ {t : Tree (TS E.T)}, (t.bind (evQs Y E G l rest)).holds (fun σ' => σ'.h = H → K (σ'.to E.toEnc ρ)) → t.holds (OnQ P E ρ K l rest σ.h) := fun {t} h =>
      (holds_bind h).mono fun σ' hσ (hh' : σ'.h = σ.h) => evQs_ok hK hG l H hi rest σ' (hh'.trans hh) hσ
    have hi' : Inj ρ σ.h := hh ▸ hi
    simp only [evQs] at h
    split at h
    · rename_i hw
      exact evQ_ok (Y := Y) hi' hG (wantT_yes hw) (next h)
    · rename_i hw
      exact passQ_ok (wantT_no hw) (next h)
    · rename_i b d hw
      obtain ⟨h1, h2⟩ := wantT_sym (ρ := ρ) hw
      cases hb : b with
      | true =>
        refine Alike.q hK l _ _ _ (Alike.know (x := .tt) (b := b) (by rw [hb]; rfl) h1) ?_
        exact evQ_ok (Y := Y) (σ := σ.know d .tt) hi' hG (h2 true .tt fun _ => rfl) (next (h.1 hb))
      | false =>
        refine Alike.q hK l _ _ _ (Alike.know (x := .ff) (b := b) (by rw [hb]; rfl) h1) ?_
        exact passQ_ok (σ := σ.know d .ff) (h2 false .ff fun _ => rfl) (next (h.2 hb))
    · rename_i b d hw
      obtain ⟨h1, h2⟩ := wantT_sym (ρ := ρ) hw
      cases hb : b with
      | true =>
        refine Alike.q hK l _ _ _ (Alike.know (x := .tt) (b := b) (by rw [hb]; rfl) h1) ?_
        exact passQ_ok (σ := σ.know d .tt) (h2 true .tt fun _ => rfl) (next (h.1 hb))
      | false =>
        refine Alike.q hK l _ _ _ (Alike.know (x := .ff) (b := b) (by rw [hb]; rfl) h1) ?_
        exact evQ_ok (Y := Y) (σ := σ.know d .ff) hi' hG (h2 false .ff fun _ => rfl) (next (h.2 hb))
    · cases h
theorem alike_sub {σ σ' : AS} (h : Alike σ σ') : SubS σ σ' := fun F X tm hs => hs.le2 h.1.symm (fun t u' hu => ⟨u', by rw [h.2.2.2]; exact hu, .refl _⟩) (fun q cs' hq => ⟨cs', by rw [h.2.1]; exact hq, LeL.refl _⟩) (fun p hp => by rw [h.2.2.1]; exact hp)
theorem splitE_eq {xs bs : Nat → Bool} {mu : List Nat} : ∀ {l a b : List Oper}, splitE xs bs mu l = (a, b) → l = a ++ b
  | [], _, _, h => by cases h; rfl
  | o :: r, a, b, h => by
    simp only [splitE] at h
    split at h
    · cases h; rfl
    · cases hs : splitE xs bs mu r with
      | mk a' b' =>
        rw [hs] at h
        cases h
        rw [splitE_eq hs]; rfl
theorem Alike.als {σ σ' : AS} (h : Alike σ σ') (m : List (Nat × Nat)) : Alike (σ.als m) (σ'.als m) := ⟨h.1, h.2.1, by simp only [AS.als, h.2.2.1], h.2.2.2⟩
theorem als_subT {m : List (Nat × Nat)} : SubS ((σ.to E.toEnc ρ).als m) ((σ.alsT m).to E.toEnc ρ) := fun F X tm hs => by
  refine hs.le2 rfl (fun t u' hu => ⟨u', hu, .refl _⟩) (fun q cs' hq => ⟨cs', hq, LeL.refl _⟩) (fun p hp => ?_)
  have e : ((σ.alsT m).to E.toEnc ρ).e = eTo ρ ((m.filter fun p => ownS σ p.2).map (fun p => (p.1, Root.s p.2)) ++ σ.e) := rfl
  rw [e] at hp
  simp only [eTo, List.map_append, List.map_map] at hp
  simp only [AS.als, TS.to, eTo]
  rcases List.mem_append.1 hp with hp | hp
  · obtain ⟨q, hq, rfl⟩ := List.mem_map.1 hp
    exact List.mem_append_left _ (List.mem_map.2 ⟨q, (List.mem_filter.1 hq).1, rfl⟩)
  · exact List.mem_append_right _ hp
theorem noBox_to {kk : Nat} : ∀ {h : List (Nat × TB E.T)}, (∀ p ∈ h, ρ p.1 = ρ kk → p.1 = kk) → hTo E.toEnc ρ (noBox kk h) = noBox (ρ kk) (hTo E.toEnc ρ h)
  | [], _ => rfl
  | p :: r, hi => by
    have ih := noBox_to (kk := kk) (h := r) fun q hq => hi q (List.mem_cons_of_mem _ hq)
    show hTo E.toEnc ρ (if p.1 = kk then noBox kk r else p :: noBox kk r) = if ρ p.1 = ρ kk then noBox (ρ kk) (hTo E.toEnc ρ r) else (ρ p.1, p.2.to E.toEnc ρ) :: noBox (ρ kk) (hTo E.toEnc ρ r)
    by_cases e : p.1 = kk
    · rw [if_pos e, if_pos (by rw [e]), ih]
    · rw [if_neg e, if_neg (fun e2 => e (hi p List.mem_cons_self e2)), ← ih]; rfl
theorem noBox_sub {α : Type} {kk : Nat} {p : Nat × α} : ∀ {h : List (Nat × α)}, p ∈ noBox kk h → p ∈ h
  | [], h => by cases h
  | q :: r, h => by
    simp only [noBox] at h
    split at h
    · exact List.mem_cons_of_mem _ (noBox_sub h)
    · rcases List.mem_cons.1 h with rfl | h
      · exact List.mem_cons_self
      · exact List.mem_cons_of_mem _ (noBox_sub h)
theorem opV_congr {σ σ' : AS} {x : Operand} (h : ∀ t, Operand.tmp t = x → look σ.t t = look σ'.t t) : opV σ x = opV σ' x := by
  cases x with
  | tmp t => exact h t rfl
  | const v => rfl
  | func f => rfl
  | global g => rfl
theorem alike_setc {σ1 σ2 : AS} (h1 : Alike σ1 σ2) (H : List (Nat × List AV)) (kk : Nat) (cs : List AV) : Alike ((σ1.withH H).setc kk cs) ((σ2.withH H).setc kk cs) :=
  ⟨h1.1, rfl, by simp only [AS.setc, AS.dropC, AS.withH, h1.2.2.1], h1.2.2.2⟩
theorem lateR_ok {id : Nat} {ops : List Oper} {body after : List Oper} {om oa : Oper} (hm : P.follows .mixedOrders = true) (hG : GOk P Y E G) (hi : Inj ρ σ.h) (he : σ.e = []) (hl : ops = body ++ om :: oa :: after) (h : (lateR Y E G ops body om oa after σ).holds (OnX P E Q ρ ks ks)) : ARun P Q (.c (.region id ops.toArray true) :: ks) (σ.to E.toEnc ρ) := by
  obtain ⟨dst, op, ty, pos, af, g⟩ := om
  unfold lateR at h
  simp only at h
  split at h
  · rename_i t x y
    split at h
    · rename_i kk p0 n by_ hx hz
      split at h
      · rename_i hB
        simp only [Bool.and_eq_true] at hB
        obtain ⟨hB, hK0⟩ := hB
        have hdst : dst = none := by
          simp only [drawLB, Bool.and_eq_true] at hB
          have := hB.1.1.2.2
          simpa using this
        subst hdst
        obtain ⟨b0, hb0⟩ := Option.isSome_iff_exists.1 hK0
        have hn0 : hTo E.toEnc ρ (noBox kk σ.h) = noBox (ρ kk) (hTo E.toEnc ρ σ.h) := noBox_to fun p hp e => hi p hp (kk, b0) (look_mem hb0) e
        have hn1 : (σ.to E.toEnc ρ).withH (noBox (ρ kk) (σ.to E.toEnc ρ).h) = (σ.withB (noBox kk σ.h)).to E.toEnc ρ := by
          show AS.mk _ _ _ _ = AS.mk _ _ _ _
          rw [show (σ.withB (noBox kk σ.h)).h = noBox kk σ.h from rfl, hn0]; rfl
        refine ar_drawL (k' := ρ kk) hm hl hB (by simp only [TS.to, he]; rfl) ?_
        rw [hn1]
        refine evQs_ok (Y := Y) (K := fun σ' => ∃ cs' : List AV, (∀ σ1 : AS, σ1.n = (σ.to E.toEnc ρ).n → σ1.e = [] → σ1.h = (σ.to E.toEnc ρ).h → (∀ t0, Operand.tmp t0 ∈ (Oper.mk none (.store t x y) ty pos af g).op.operands.toList → look σ1.t t0 = look σ'.t t0) → EffTo P ⟨none, .store t x y, ty, pos, af, g⟩ σ1 (σ1.setc (ρ kk) cs')) ∧ ARun P Q (.o ops (body.length + 1) (oa :: after) :: ks) (((σ'.withH (σ.to E.toEnc ρ).h).setc (ρ kk) cs').als (slotMoves body))) (fun σ1 σ2 h1 ⟨cs', q1, q2⟩ => ⟨cs', fun τ e1 e2 e3 e4 => q1 τ e1 e2 e3 fun t0 ht => (e4 t0 ht).trans (h1.2.2.2 t0), ar_subO rfl (alike_sub (Alike.als (alike_setc h1 _ _ _) _)) q2⟩) hG ops (noBox kk σ.h) (fun p hp q hq e => hi p (noBox_sub hp) q (noBox_sub hq) e) body (σ.withB (noBox kk σ.h)) rfl ?_
        refine (holds_bind h).mono fun σ' hσ (hh : σ'.h = noBox kk σ.h) => ?_
        split at hσ
        · rename_i k2 p hx2
          split at hσ
          · rename_i hk2
            have hk2 := beq_of hk2
            subst hk2
            split at hσ
            · rename_i cs hst
              unfold storeL at hst
              split at hst
              · rename_i cs0 u hb hy
                split at hst
                · rename_i vs hvs
                  split at hst
                  · rename_i hc
                    cases hst
                    simp only [Bool.and_eq_true] at hc
                    obtain ⟨c1, c2, c3, c4⟩ := cs1_to (ρ := ρ) hvs
                    have hb' : look σ.h k2 = some (.cs cs0) := hb
                    have hy' : opT σ' y = some u := hy
                    refine ⟨splice (cs0.map (TA.to E.toEnc ρ)) p (u.to E.toEnc ρ).rd.cells, fun τ e1 e2 e3 e4 => ?_, ?_⟩
                    · refine effTo_store (P := P) (T := Y) (ty := ty) (pos := pos) (af := af) (g := g) ?_ (by rw [e3]; exact look_box hi hb') ?_ c1 hz (by rw [c2, List.length_map]; exact hc.1) c3 c4 (by simpa using hc.2) (notMpB cs0)
                      · exact (opV_congr fun t0 ht => e4 t0 (by rw [← ht]; simp [Op.operands])).trans (opT_to (ρ := ρ) hx2)
                      · exact (opV_congr fun t0 ht => e4 t0 (by rw [← ht]; simp [Op.operands])).trans (opT_to (ρ := ρ) hy')
                    · have hle := nilC_to (E := E) (ρ := ρ) ((look E.ct t).getD []) vs
                      refine ar_subO rfl ?_ (ar_subO rfl (als_subT (σ := (σ'.withB σ.h).setc k2 (spl cs0 p (nilC ((look E.ct t).getD []) vs))) (m := slotMoves body)) (evOps_ok (Y := Y) hG ops (oa :: after) (body.length + 1) _ ρ (fun i o ho => ?_) ?_ ?_ hσ))
                      · intro F X tm hs
                        refine hs.le2 rfl (fun t u' hu => ⟨u', hu, .refl _⟩) (fun q cs' hq => ?_) (fun pp hp => ?_)
                        · have e : ((((σ'.withB σ.h).setc k2 (spl cs0 p (nilC ((look E.ct t).getD []) vs))).to E.toEnc ρ).als (slotMoves body)).h = (ρ k2, (spl cs0 p (nilC ((look E.ct t).getD []) vs)).map (TA.to E.toEnc ρ)) :: hTo E.toEnc ρ σ.h := rfl
                          rw [e, look_cons] at hq
                          have e2 : ((((σ'.to E.toEnc ρ).withH (σ.to E.toEnc ρ).h).setc (ρ k2) (splice (cs0.map (TA.to E.toEnc ρ)) p (u.to E.toEnc ρ).rd.cells)).als (slotMoves body)).h = (ρ k2, splice (cs0.map (TA.to E.toEnc ρ)) p (u.to E.toEnc ρ).rd.cells) :: hTo E.toEnc ρ σ.h := rfl
                          rw [e2, look_cons]
                          split at hq
                          · rename_i e3
                            rw [if_pos e3]
                            cases hq
                            refine ⟨_, rfl, ?_⟩
                            rw [map_spl, c2]
                            unfold splice
                            rw [hle.length]
                            exact ((LeL.refl _).append hle).append (LeL.refl _)
                          · rename_i e3
                            rw [if_neg e3]
                            exact ⟨cs', hq, LeL.refl _⟩
                        · simp only [AS.als] at hp ⊢
                          rw [setc_to] at hp; exact hp
                      · rw [hl, List.getElem?_append_right (by omega), show body.length + 1 + i - body.length = i + 1 by omega]; simpa using ho
                      · rw [hl]; simp only [List.length_append, List.length_cons]; omega
                      · exact setc_inj (σ := σ'.withB σ.h) hi hb _
                  · cases hst
                · cases hst
              · cases hst
            · cases hσ
          · cases hσ
        · cases hσ
      · cases h
    · cases h
  · cases h
/-! ### Mixed regions -/
theorem detV_to {u : TV E.T} (h : detV u = true) : ∃ x, u.to E.toEnc ρ = .v x := by
  unfold detV at h
  split at h <;> first | exact ⟨_, rfl⟩ | cases h
def stA (ρ : Nat → Nat) (ids : List Nat) (b : Nat) : Bool := ids.any fun k => Nat.beq (ρ k) b
theorem stA_mem {ids : List Nat} {H : List (Nat × TB E.T)} (hi : Inj ρ H) (hids : hasAll H ids = true) {p : Nat × TB E.T} (hp : p ∈ H) : memN ids p.1 = stA ρ ids (ρ p.1) := by
  rw [Bool.eq_iff_iff]
  unfold stA
  rw [memN_mem, List.any_eq_true]
  constructor
  · exact fun h => ⟨p.1, h, Nat.beq_refl _⟩
  · rintro ⟨k, hk, e⟩
    have := List.all_eq_true.1 hids k hk
    obtain ⟨b, hb⟩ := Option.isSome_iff_exists.1 this
    have := hi (k, b) (look_mem hb) p hp (Nat.eq_of_beq_eq_true e)
    simp only at this
    rw [← this]; exact hk
theorem inH_to {ids : List Nat} {H : List (Nat × TB E.T)} (hi : Inj ρ H) (hids : hasAll H ids = true) : hTo E.toEnc ρ (inH ids H) = (hTo E.toEnc ρ H).filter fun p => stA ρ ids p.1 := by
  unfold hTo inH
  rw [List.filter_map]
  congr 1
  exact List.filter_congr fun p hp => stA_mem hi hids hp
theorem outH_to {ids : List Nat} {H : List (Nat × TB E.T)} (hi : Inj ρ H) (hids : hasAll H ids = true) : hTo E.toEnc ρ (outH ids H) = (hTo E.toEnc ρ H).filter fun p => !stA ρ ids p.1 := by
  unfold hTo outH
  rw [List.filter_map]
  congr 1
  exact List.filter_congr fun p hp => by rw [stA_mem hi hids hp]; rfl
theorem inH_sub {T : Nat → Type} {ids : List Nat} {h : List (Nat × TB T)} : ∀ p ∈ inH ids h, p ∈ h := fun p hp => (List.mem_filter.1 hp).1
theorem outH_sub {T : Nat → Type} {ids : List Nat} {h : List (Nat × TB T)} : ∀ p ∈ outH ids h, p ∈ h := fun p hp => (List.mem_filter.1 hp).1
theorem Inj.of_mem {T : Nat → Type} {ρ : Nat → Nat} {h h' : List (Nat × TB T)} (hi : Inj ρ h) (hs : ∀ p ∈ h', p ∈ h) : Inj ρ h' := hi.sub fun p hp => ⟨p, hs p hp, rfl⟩
def ldR (ρ : Nat → Nat) (ld : List (Nat × Nat × Nat)) : List (Nat × Nat × Nat) := ld.map fun p => (p.1, ρ p.2.1, p.2.2)
theorem ldAt_R (ρ : Nat → Nat) (ld : List (Nat × Nat × Nat)) (d : Nat) : ldAt (ldR ρ ld) d = (ldAt ld d).map fun p => (p.1, ρ p.2.1, p.2.2) := by
  unfold ldAt ldR
  rw [List.find?_map]; rfl
theorem bstT_to {mB : Nat → Bool} {k : Nat} : (bstT mB k σ).to E.toEnc ρ = bst mB k (σ.to E.toEnc ρ) := by
  unfold bstT bst
  cases mB k <;> rfl
theorem bstT_inj {mB : Nat → Bool} {k : Nat} (hi : Inj ρ σ.h) : Inj ρ (bstT mB k σ).h := by
  unfold bstT
  cases mB k
  · exact fun p hp => by cases hp
  · exact hi
theorem dstIs_iff {s : Nat} {o : Oper} : dstIs s o = true ↔ o.dst = some s := by
  unfold dstIs
  split
  · rename_i d h; rw [h]; simp [Nat.beq_eq]
  · rename_i h; rw [h]; simp
theorem mvN_some {fl : List Bool} {op : Op} {u : TV E.T} (h : mvN E l fl σ op = some u) : ∃ s, op = .move (.tmp s) ∧ opT σ (.tmp s) = some u ∧ ∀ (q : Nat) o', l[q]? = some o' → mNf fl q = true → o'.dst ≠ some s := by
  unfold mvN at h
  split at h
  · rename_i s
    split at h
    · rename_i ha
      refine ⟨s, rfl, h, fun q o' ho hm hd => ?_⟩
      have := List.all_eq_true.1 ha (o', q) (mem_zi ho)
      simp only [hm, dstIs_iff.2 hd] at this
      cases this
    · cases h
  · cases h
theorem ldCell_some {op : Op} {kk p : Nat} {c : TA E.T} (h : ldCell Y E σ op kk p = some c) : ∃ t x dsc cs, op = .load t x ∧ opT σ x = some (.a (.box kk p)) ∧ look Y.ty t = some dsc ∧ oneB dsc = true ∧ look σ.h kk = some (.cs cs) ∧ cs[p]? = some c := by
  unfold ldCell at h
  split at h
  · rename_i t x
    split at h
    · rename_i k2 p2 dsc cs hx h0 hb
      split at h
      · rename_i hc
        simp only [Bool.and_eq_true] at hc
        have e1 := Nat.eq_of_beq_eq_true hc.1.1
        have e2 := Nat.eq_of_beq_eq_true hc.1.2
        subst e1 e2
        exact ⟨t, x, dsc, cs, rfl, hx, h0, hc.2, hb, h⟩
      · cases h
    · cases h
  · cases h
theorem evN_ok {K : AS → Prop} {fl : List Bool} {mB : Nat → Bool} {ld : List (Nat × Nat × Nat)} {H : List (Nat × TB E.T)} (hG : GOk P Y E G) (hi : Inj ρ H) : ∀ (rest : List Oper) (k : Nat) (σ : TS E.T), σ.h = H → (evN Y E G l fl mB ld k rest σ).holds (fun σ' => K (σ'.to E.toEnc ρ)) → NSemX P l (mNf fl) mB (ldR ρ ld) K k rest (σ.to E.toEnc ρ)
  | [], k, σ, hh, h => h
  | o :: rest, k, σ, hh, h => by
    have hi' : Inj ρ σ.h := hh ▸ hi
    unfold evN at h
    unfold NSemX
    cases hm : mNf fl k with
    | false => rw [hm] at h; exact evN_ok hG hi rest (k + 1) σ hh h
    | true =>
      rw [hm] at h
      simp only at h
      obtain ⟨dst, op, ty, pos, af, g⟩ := o
      simp only at h
      split at h
      · rename_i d
        split at h
        · rename_i hd
          have fin : ∀ {u : TV E.T}, OpV P ⟨some d, op, ty, pos, af, none⟩ (bst mB k (σ.to E.toEnc ρ)) (u.to E.toEnc ρ) → DetX P l (mNf fl) mB (ldR ρ ld) k (σ.to E.toEnc ρ) ⟨some d, op, ty, pos, af, none⟩ (u.to E.toEnc ρ) → (evN Y E G l fl mB ld (k + 1) rest (σ.put d u)).holds (fun σ' => K (σ'.to E.toEnc ρ)) → ∃ d' u', some d = some d' ∧ (none : Option (Nat × Bool)) = none ∧ Nat.ble (d' + 1) (σ.to E.toEnc ρ).n = true ∧ OpV P ⟨some d, op, ty, pos, af, none⟩ (bst mB k (σ.to E.toEnc ρ)) u' ∧ DetX P l (mNf fl) mB (ldR ρ ld) k (σ.to E.toEnc ρ) ⟨some d, op, ty, pos, af, none⟩ u' ∧ NSemX P l (mNf fl) mB (ldR ρ ld) K (k + 1) rest ((σ.to E.toEnc ρ).put d' u') := fun {u} h1 h2 h3 => by
            refine ⟨d, u.to E.toEnc ρ, rfl, rfl, hd, h1, h2, ?_⟩
            have := evN_ok hG hi rest (k + 1) (σ.put d u) hh h3
            rw [put_to] at this
            exact this
          split at h
          · rename_i d' kk p hld
            split at h
            · rename_i c hmb hc
              obtain ⟨t, x, dsc, cs, rfl, hx, h0, h1, hb, hcp⟩ := ldCell_some hc
              have e : (TV.a c.rd : TV E.T).to E.toEnc ρ = (c.to E.toEnc ρ).rd := TA.rd_to _ _ _
              have hcs : (cs.map (TA.to E.toEnc ρ))[p]? = some (c.to E.toEnc ρ) := by simp [hcp]
              have hbk : bst mB k (σ.to E.toEnc ρ) = σ.to E.toEnc ρ := by unfold bst; rw [hmb]
              refine fin (u := .a c.rd) ?_ ⟨by rw [e]; exact plain_rd _, fun d2 hd2 => ?_⟩ h
              · rw [e, hbk]
                exact opv_load_box (T := Y) (opT_to (ρ := ρ) hx) (look_box hi' hb) hcs h0 h1 (TA.to_notMp _ _ _)
              · cases hd2
                rw [ldAt_R, hld, e]
                refine ⟨hmb, ?_⟩
                exact loadC_box (T := Y) (opT_to (ρ := ρ) hx) (look_box hi' hb) hcs h0 h1 (notMpB cs)
            · cases h
          · rename_i hld
            have hldn : ∀ d2, some d = some d2 → ldAt (ldR ρ ld) d2 = none := fun d2 e => by cases e; rw [ldAt_R, hld]; rfl
            split at h
            · rename_i u hu
              obtain ⟨s, rfl, hx, hs⟩ := mvN_some hu
              refine fin (u := u.rd) ?_ ⟨by rw [TV.rd_to]; exact plain_rd _, fun d2 hd2 => ?_⟩ h
              · rw [TV.rd_to]
                refine opv_move_rd (x := .tmp s) ?_ (.inl rfl)
                have := opT_to (ρ := ρ) hx
                show look (bst mB k (σ.to E.toEnc ρ)).t s = _
                have e : (bst mB k (σ.to E.toEnc ρ)).t = (σ.to E.toEnc ρ).t := by unfold bst; cases mB k <;> rfl
                rw [e]; exact this
              · rw [hldn d2 hd2]
                exact .inr ⟨s, rfl, hs⟩
            · have hok := evP_ok (Y := Y) (σ := bstT mB k σ) (d := some d) (ty := ty) (pos := pos) (af := af) (g := none) (bstT_inj hi') hG op
              cases hp : evP Y E G (bstT mB k σ) op ty with
              | one u =>
                rw [hp] at h hok
                simp only at h
                split at h
                · rename_i hdet
                  obtain ⟨x, hx⟩ := detV_to (ρ := ρ) hdet
                  have hok' : OpV P ⟨some d, op, ty, pos, af, none⟩ ((bstT mB k σ).to E.toEnc ρ) (u.to E.toEnc ρ) := hok
                  rw [bstT_to] at hok'
                  exact fin hok' ⟨by rw [hx]; rfl, fun d2 hd2 => by rw [hldn d2 hd2]; exact .inl ⟨x, hx⟩⟩ h
                · cases h
              | opt q u =>
                rw [hp] at h hok
                obtain ⟨z, hz, h⟩ := h
                simp only at h
                split at h
                · rename_i hdet
                  obtain ⟨x, hx⟩ := detV_to (ρ := ρ) hdet
                  have hok' : OpV P ⟨some d, op, ty, pos, af, none⟩ ((bstT mB k σ).to E.toEnc ρ) ((u z).to E.toEnc ρ) := hok z hz
                  rw [bstT_to] at hok'
                  exact fin hok' ⟨by rw [hx]; rfl, fun d2 hd2 => by rw [hldn d2 hd2]; exact .inl ⟨x, hx⟩⟩ h
                · cases h
              | bad => rw [hp] at h; cases h
        · cases h
      · cases h
/-- Whence one goes on, the names being as they are. -/
def OnS (R : AS → Prop) (RP : Value → List (Nat × List AV) → Prop) (ρ : Nat → Nat) : OL E.T → Prop
  | .st σ' => Inj ρ σ'.h → R (σ'.to E.toEnc ρ)
  | .pan v => RP v []
theorem evXR_effX {R : AS → Prop} {RP : Value → List (Nat × List AV) → Prop} {d : Nat} {f : FuncId} {us : List (TV E.T)} {x : XR E.T} (hi : Inj ρ σ.h) (hx : x.ok P f us σ.h)
    (run : ∀ {post : AOut → List (Nat × List AV) → Prop} {ids : List Nat}, ACalls P f (us.map (TV.to E.toEnc ρ)) (hTo E.toEnc ρ (keepHH σ.h ids)) post → (∀ u H', post (.ret u) H' → R ((callSt (σ.to E.toEnc ρ) [] (hTo E.toEnc ρ (dropHH ids σ.h)) H').put d u)) → (∀ v H', post (.pan v) H' → RP v []) → EffX P o (σ.to E.toEnc ρ) R RP)
    (h : (evXR σ d x).holds (OnS R RP ρ)) : EffX P o (σ.to E.toEnc ρ) R RP := by
  have goOn : ∀ {ids : List Nat} {h' : List (Nat × TB E.T)} {u : TV E.T}, goodIds σ.h ids = true → h'.map (·.1) = ids → OnS R RP ρ (.st ((σ.give ids h').put d u)) → R ((callSt (σ.to E.toEnc ρ) [] (hTo E.toEnc ρ (dropHH ids σ.h)) (hTo E.toEnc ρ h')).put d (u.to E.toEnc ρ)) := fun {ids h' u} hg hm hq => by
    have := hq (give_inj hi hg hm)
    rw [put_to, give_to] at this
    exact this
  cases x with
  | bad => cases h
  | ret ov ids u hh =>
    unfold evXR at h
    simp only at h
    split at h
    · rename_i hg
      obtain ⟨z, hz, h⟩ := h
      obtain ⟨hm, hc⟩ := hx z hz
      refine run (hc ρ hi) ?_ ?_
      · rintro u' H' ⟨e, rfl⟩
        cases e
        exact goOn hg hm h
      · rintro v H' ⟨e, _⟩
        cases e
    · cases h
  | may ov ids u hh =>
    unfold evXR at h
    simp only at h
    split at h
    · rename_i hg
      obtain ⟨p, hp, h⟩ := h
      obtain ⟨hm, hc⟩ := hx p hp
      cases p with
      | ok z =>
        refine run (hc ρ hi) ?_ ?_
        · rintro u' H' ⟨e, rfl⟩
          cases e
          exact goOn hg (hm z rfl) (h.1 z rfl)
        · rintro v H' ⟨e, _⟩
          cases e
      | pan v =>
        refine run (hc ρ hi) ?_ ?_
        · intro u' H' e
          cases e
        · intro v' H' e
          cases e
          exact h.2 v rfl
    · cases h
theorem evE_ok {R : AS → Prop} {RP : Value → List (Nat × List AV) → Prop} {all : Bool} (hi : Inj ρ σ.h) (hG : GOk P Y E G) (hR : all = true → Low R) (h : (evE Y E G all o σ).holds (OnS R RP ρ)) : EffX P o (σ.to E.toEnc ρ) R RP := by
  have pure : ∀ {d : Nat}, o.dst = some d → Nat.ble (d + 1) σ.n = true → ((pureT Y E G σ d o.op o.type).bind fun σ' => Tree.leaf (OL.st σ')).holds (OnS R RP ρ) → EffX P o (σ.to E.toEnc ρ) R RP := fun {d} h1 h2 h3 => by
    refine effX_eff (pureT_eff (Y := Y) (R := R) (A := fun ρ' => ρ' = ρ) hi hG rfl h1 h2 ?_)
    refine (holds_bind h3).mono fun σ' hσ ρ' hi' e => ?_
    subst e
    exact hσ hi'
  unfold evE at h
  split at h
  · cases h
  · rename_i hg
    split at h
    · rename_i f xs ats hop
      split at h
      · rename_i d hf hdst
        split at h
        · rename_i us hd hx
          obtain ⟨dst, op, ty, pos, af, g⟩ := o
          simp only at hop hdst hg
          subst hop hdst hg
          refine evXR_effX hi (xRun_ok hG.x f _ σ.h) (fun {post ids} hc hr hp => ?_) h
          have hpa := pargs_rd (opTs_to (ρ := ρ) hx) (fixArgs_le ats.toList us (fixArgs_len _ _)) (fixArgs_plain _ _)
          refine effX_call hc hpa (oneSome_none _) (fun kk oo hm => absurd (List.eq_of_mem_replicate hm) (by simp)) (keep_sub hi ids) (fun kk cs hk => by rw [layAll_none]; exact drop_sub hi ids kk cs hk) hd ?_ ?_ ?_
          · intro u H' hp'
            rw [callSt_none]
            exact hr u H' hp'
          · intro v H' hp'
            exact ⟨[], fun k cs hk => by simp [look_nil] at hk, hp v H' hp'⟩
          · intro H'
            rw [callSt_none]; rfl
        · cases h
      · rename_i d hf hdst
        split at h
        · rename_i hd
          exact pure hdst hd h
        · cases h
      · cases h
    · split at h
      · split at h
        · rename_i hc
          refine effX_eff (evOp_eff (Y := Y) (R := R) (A := fun ρ' => ρ' = ρ) hi hG (hR rfl) rfl (fun e => by rw [hc] at e; cases e) ?_)
          refine (holds_bind h).mono fun σ' hσ ρ' hi' e => ?_
          subst e
          exact hσ hi'
        · cases h
      · rename_i d hdst
        split at h
        · rename_i hd
          exact pure hdst hd h
        · cases h
      · cases h
theorem low_csemX {n : Nat} {RP : Value → List (Nat × List AV) → Prop} {K : AS → Prop} (hK : Low K) : ∀ l : List Oper, Low (CSemX P n RP K l)
  | [] => hK
  | o :: rest => fun σ σ' hn hs h => by
    refine ⟨hn.trans h.1, fun F X a hsim => ?_⟩
    rw [hn]
    exact h.2 F X a (hs _ _ _ hsim)
theorem evCs_ok {K : AS → Prop} {RP : Value → List (Nat × List AV) → Prop} {all : Bool} {n : Nat} (hG : GOk P Y E G) (hK : all = true → Low K) : ∀ (cs : List Nat) (σ : TS E.T), Inj ρ σ.h → (evCs Y E G all n l cs σ).holds (OnS K RP ρ) → CSemX P n RP K (cs.filterMap fun i => l[i]?) (σ.to E.toEnc ρ)
  | [], σ, hi, h => h hi
  | c :: cs, σ, hi, h => by
    unfold evCs at h
    split at h
    · rename_i o hn ho
      rw [List.filterMap_cons, ho]
      refine ⟨Nat.eq_of_beq_eq_true hn, evE_ok (Y := Y) hi hG (fun e => low_csemX (hK e) _) ?_⟩
      refine (holds_bind h).mono fun x hx => ?_
      cases x with
      | st σ' => exact fun hi' => evCs_ok hG hK cs σ' hi' hx
      | pan v => exact hx
    · cases h
theorem alsA_to (m : List (Nat × Nat)) : (σ.alsA m).to E.toEnc ρ = (σ.to E.toEnc ρ).als m := by
  have e : eTo ρ (m.map (fun p => (p.1, Root.s p.2)) ++ σ.e) = m.map (fun p => (p.1, Root.s p.2)) ++ eTo ρ σ.e := by
    unfold eTo
    rw [List.map_append, List.map_map]; rfl
  show AS.mk _ _ _ _ = AS.mk _ _ _ _
  congr 1
theorem alcT_to (ld : List (Nat × Nat × Nat)) : (σ.alcT ld).to E.toEnc ρ = (σ.to E.toEnc ρ).alc (ldR ρ ld) := by
  have e : eTo ρ (ld.map (fun p => (p.1, Root.c p.2.1 p.2.2)) ++ σ.e) = (ldR ρ ld).map (fun p => (p.1, Root.c p.2.1 p.2.2)) ++ eTo ρ σ.e := by
    unfold eTo ldR
    rw [List.map_append, List.map_map, List.map_map]; rfl
  show AS.mk _ _ _ _ = AS.mk _ _ _ _
  congr 1
theorem ownE_sub : SubS (σ.to E.toEnc ρ) (σ.ownE.to E.toEnc ρ) := fun F X tm hs => by
  refine hs.le2 rfl (fun t u' hu => ⟨u', hu, .refl _⟩) (fun q cs' hq => ⟨cs', hq, LeL.refl _⟩) (fun p hp => ?_)
  simp only [TS.to, TS.ownE, eTo, List.mem_map] at hp ⊢
  obtain ⟨q, hq, rfl⟩ := hp
  exact ⟨q, (List.mem_filter.1 hq).1, rfl⟩
theorem ldOkB_ok {fl : List Bool} {ld : List (Nat × Nat × Nat)} (h : ldOkB l fl ld = true) : ((ldR ρ ld).map (·.1)).Nodup ∧ ∀ p ∈ ldR ρ ld, ∃ (q : Nat) (o : Oper), l[q]? = some o ∧ mNf fl q = true ∧ o.dst = some p.1 := by
  unfold ldOkB at h
  rw [Bool.and_eq_true] at h
  have e : (ldR ρ ld).map (·.1) = ld.map (·.1) := by unfold ldR; rw [List.map_map]; rfl
  refine ⟨by rw [e]; exact of_decide_eq_true h.1, fun p hp => ?_⟩
  obtain ⟨p0, hp0, rfl⟩ := List.mem_map.1 hp
  have := List.all_eq_true.1 h.2 p0 hp0
  obtain ⟨q, hq, hc⟩ := List.any_eq_true.1 this
  rw [Bool.and_eq_true] at hc
  have hq' : l[q.2]? = some q.1 := by
    have := List.mem_zipIdx_iff_getElem?.1 hq
    simpa using this
  exact ⟨q.2, q.1, hq', hc.1, dstIs_iff.1 hc.2⟩
theorem hasB_mem {l : List Nat} {i : Nat} (h : hasB l i = true) : i ∈ l := by
  induction l with
  | nil => cases h
  | cons a r ih =>
    simp only [hasB] at h
    first
      | (split at h
         · rename_i e; rw [Nat.eq_of_beq_eq_true e]; exact List.mem_cons_self
         · exact List.mem_cons_of_mem _ (ih h))
      | (simp only [Bool.or_eq_true] at h
         rcases h with h | h
         · have := Nat.eq_of_beq_eq_true h; subst this; exact List.mem_cons_self
         · exact List.mem_cons_of_mem _ (ih h))
theorem parT_holds {L : Type} {K : L → Prop} : ∀ {ts : List (Tree L)}, (parT ts).holds K → ∀ t ∈ ts, t.holds K
  | [], h, t, ht => by cases ht
  | [t], h, t', ht => by
    rw [List.mem_singleton] at ht
    subst ht; exact h
  | t :: t2 :: r, h, t', ht => by
    rcases List.mem_cons.1 ht with rfl | ht
    · exact h.1 rfl
    · exact parT_holds (ts := t2 :: r) h.2 t' ht
def OnA (R : AS → Prop) (RP : Value → List (Nat × List AV) → Prop) (ρ : Nat → Nat) : OL E.T → Prop
  | .st σ' => ∀ ρ', Inj ρ' σ'.h → Agr ρ ρ' → R (σ'.to E.toEnc ρ')
  | .pan v => RP v []
theorem OnA.toS {R : AS → Prop} {RP : Value → List (Nat × List AV) → Prop} {x : OL E.T} (h : OnA R RP ρ x) : OnS R RP ρ x := by
  cases x with
  | st σ' => exact fun hi => h ρ hi (Agr.refl ρ)
  | pan v => exact h
theorem evA_ok {R : AS → Prop} {RP : Value → List (Nat × List AV) → Prop} (hi : Inj ρ σ.h) (hG : GOk P Y E G) (hR : Low R) (h : (evA Y E G o σ).holds (OnA R RP ρ)) : o.guard = none ∧ EffX P o (σ.to E.toEnc ρ) R RP := by
  have old : ((evOp Y E G o σ).bind fun σ' => Tree.leaf (OL.st σ')).holds (OnA R RP ρ) → EffX P o (σ.to E.toEnc ρ) R RP := fun h =>
    effX_eff (evOp_eff (Y := Y) (R := R) (A := Agr ρ) hi hG hR (Agr.refl ρ) (fun _ d b hn => Agr.upd hn) ((holds_bind h).mono fun σ' hσ => hσ))
  unfold evA at h
  split at h
  · cases h
  · rename_i hg
    refine ⟨hg, ?_⟩
    split at h
    · rename_i f xs ats hop
      split at h
      · rename_i d hf hdst
        split at h
        · rename_i us hd hx
          obtain ⟨dst, op, ty, pos, af, g⟩ := o
          simp only at hop hdst hg
          subst hop hdst hg
          refine evXR_effX hi (xRun_ok hG.x f _ σ.h) (fun {post ids} hc hr hp => ?_) (h.mono fun x hx => hx.toS)
          have hpa := pargs_rd (opTs_to (ρ := ρ) hx) (fixArgs_le ats.toList us (fixArgs_len _ _)) (fixArgs_plain _ _)
          refine effX_call hc hpa (oneSome_none _) (fun kk oo hm => absurd (List.eq_of_mem_replicate hm) (by simp)) (keep_sub hi ids) (fun kk cs hk => by rw [layAll_none]; exact drop_sub hi ids kk cs hk) hd ?_ ?_ ?_
          · intro u H' hp'
            rw [callSt_none]
            exact hr u H' hp'
          · intro v H' hp'
            exact ⟨[], fun k cs hk => by simp [look_nil] at hk, hp v H' hp'⟩
          · intro H'
            rw [callSt_none]; rfl
        · cases h
      · exact old h
    · exact old h
theorem low_aany {n0 : Nat} (hK : Low (fun τ => ARun P Q ks τ)) : ∀ (n : Nat) (done : List Nat), Low (AAny P Q ks l n0 n done)
  | 0, done => fun σ σ' hn hs h => ⟨h.1, hK σ σ' hn hs h.2⟩
  | n + 1, done => fun σ σ' hn hs h => ⟨fun e => hK σ σ' hn hs (h.1 e), fun i hi o ho => by
    obtain ⟨h1, h2, h3⟩ := h.2 i hi o ho
    refine ⟨hn.trans h1, h2, fun F X a hsim => ?_⟩
    rw [hn]
    exact h3 F X a (hs _ _ _ hsim)⟩
theorem anyT_ok {n0 : Nat} (hG : GOk P Y E G) (hK : Low (fun τ => ARun P Q ks τ)) (l : List Oper) : ∀ (n : Nat) (done : List Nat) (σ : TS E.T) (ρ : Nat → Nat), Inj ρ σ.h → (anyT Y E G n0 l n done σ).holds (OnX P E Q ρ ks ks) → AAny P Q ks l n0 n done (σ.to E.toEnc ρ)
  | 0, done, σ, ρ, hi, h => by
    unfold anyT at h
    split at h
    · rename_i e; exact ⟨e, h ρ hi (Agr.refl ρ)⟩
    · cases h
  | n + 1, done, σ, ρ, hi, h => by
    unfold anyT at h
    split at h
    · rename_i e
      exact ⟨fun _ => h ρ hi (Agr.refl ρ), fun i hi' => by rw [e] at hi'; cases hi'⟩
    · rename_i e
      refine ⟨fun e' => absurd e' (by simpa using e), fun i hi' o ho => ?_⟩
      have hb := parT_holds h _ (List.mem_map_of_mem hi')
      simp only [ho] at hb
      split at hb
      · rename_i o' hn e1
        have e2 : o = o' := Option.some.inj e1
        subst e2
        have := evA_ok (Y := Y) (R := AAny P Q ks l n0 n (i :: done)) (RP := fun v H2 => Stk P Q ks (.panic [{ v := v, recovered := false }]) ⟨n0, [], H2, []⟩) hi hG (low_aany hK n _) ((holds_bind hb).mono fun x hx => by
          cases x with
          | st σ' => exact fun ρ' hi2 ha => anyT_ok hG hK l n (i :: done) σ' ρ' hi2 (Tree.holds.mono (fun y hy => OnX.agr ha hy) hx)
          | pan v => exact hx _)
        exact ⟨Nat.eq_of_beq_eq_true hn, this.1, this.2⟩
      · cases hb
theorem anyR_ok {id : Nat} {ops : List Oper} (hm : P.follows .mixedOrders = true) (hG : GOk P Y E G) (hi : Inj ρ σ.h) (h : (anyR Y E G ops σ).holds (OnX P E Q ρ ks ks)) : ARun P Q (.c (.region id ops.toArray true) :: ks) (σ.to E.toEnc ρ) := by
  unfold anyR at h
  split at h
  · refine ar_nop ?_
    refine ar_any hm ?_
    refine anyT_ok (Y := Y) hG (low_arun rfl) ops ops.length [] σ ρ hi (h.mono fun x hx => ?_)
    cases x with
    | st σ' => exact fun ρ' hi' ha => ar_end rfl (hx ρ' hi' ha)
    | pan v => exact hx
  · cases h
theorem cloD_ok {p : Nat → Prop} (hp : ∀ (q : Nat) oq, l[q]? = some oq → p q → ∀ d ∈ depsOf oq, p d) : ∀ (n : Nat) (S : List Nat), (∀ j ∈ S, p j) → ∀ j ∈ cloD l n S, p j
  | 0, S, h => h
  | n + 1, S, h => cloD_ok hp n _ (by
    split
    · rename_i o h1 h2
      intro j hj
      rcases List.mem_append.1 hj with hj | hj
      · exact hp n o h2 (h n (hasB_mem h1)) j hj
      · exact h j hj
    · exact h)
theorem mixR2_ok {id : Nat} {ops : List Oper} {fl : List Bool} {ids cs1 cs2 : List Nat} {ld : List (Nat × Nat × Nat)} (hm : P.follows .mixedOrders = true) (hG : GOk P Y E G) (hi : Inj ρ σ.h) (he : σ.e = []) (h : (mixR2 Y E G ops σ fl ids cs1 cs2 ld).holds (OnX P E Q ρ ks ks)) : ARun P Q (.c (.region id ops.toArray true) :: ks) (σ.to E.toEnc ρ) := by
  unfold mixR2 at h
  split at h
  · rename_i hB
    simp only [Bool.and_eq_true] at hB
    obtain ⟨⟨hB, hids⟩, hld⟩ := hB
    obtain ⟨hld1, hld2⟩ := ldOkB_ok (ρ := ρ) hld
    refine ar_nop ?_
    refine ar_drawX (st := stA ρ ids) (mN := mNf fl) (mB := mBf ops cs2) (ld := ldR ρ ld) (cs1 := cs1) (cs2 := cs2) hm (mixB_ok hB) (fun i c o hmi hmb hc ho => ?_) (by simp only [TS.to, he]; rfl) hld1 hld2 ?_
    · unfold mBf at hmb
      cases cs2 with
      | nil => cases hc
      | cons c' r =>
        simp only [List.head?_cons, Option.some.injEq] at hc
        subst hc
        exact fun p hp hc => cloD_ok hp (c' + 1) [c'] (fun j hj => by rw [List.mem_singleton] at hj; subst hj; exact hc) i (hasB_mem hmb)
    · have e1 : (σ.to E.toEnc ρ).withH ((σ.to E.toEnc ρ).h.filter fun p => stA ρ ids p.1) = (σ.withB (inH ids σ.h)).to E.toEnc ρ := by
        show AS.mk _ _ _ _ = AS.mk _ _ _ _
        rw [show (σ.withB (inH ids σ.h)).h = inH ids σ.h from rfl, inH_to hi hids]; rfl
      rw [e1]
      refine evN_ok (Y := Y) hG (hi.of_mem inH_sub) ops 0 _ rfl ?_
      refine (holds_bind h).mono fun σN hN => ?_
      have e2 : ((σN.to E.toEnc ρ).withH ((σ.to E.toEnc ρ).h.filter fun p => !stA ρ ids p.1)).als (nMoves ops (mNf fl) 0 ops) = ((σN.withB (outH ids σ.h)).alsA (nMoves ops (mNf fl) 0 ops)).to E.toEnc ρ := by
        rw [alsA_to]
        congr 1
        show AS.mk _ _ _ _ = AS.mk _ _ _ _
        rw [show (σN.withB (outH ids σ.h)).h = outH ids σ.h from rfl, outH_to hi hids]; rfl
      rw [e2]
      refine evCs_ok (Y := Y) (all := false) hG (fun e => by cases e) cs1 _ (hi.of_mem outH_sub) ?_
      refine (holds_bind hN).mono fun x hx => ?_
      cases x with
      | pan v => exact ⟨[], fun k cs hk => by simp [look_nil] at hk, hx _⟩
      | st σ1 =>
        intro hi1
        simp only [andT] at hx
        split at hx
        · rename_i hs
          rw [Bool.and_eq_true] at hs
          have hin : Inj ρ (σ1.h ++ inH ids σ.h) := hi.sub fun p hp => by
            rcases List.mem_append.1 hp with hp | hp
            · have := List.all_eq_true.1 hs.1 p.1 (List.mem_map_of_mem hp)
              obtain ⟨b, hb⟩ := Option.isSome_iff_exists.1 this
              exact ⟨(p.1, b), look_mem hb, rfl⟩
            · exact ⟨p, inH_sub p hp, rfl⟩
          have e3 : ((σ1.to E.toEnc ρ).withH ((σ1.to E.toEnc ρ).h ++ (σ.to E.toEnc ρ).h.filter fun p => stA ρ ids p.1)).alc (ldR ρ ld) = ((σ1.withB (σ1.h ++ inH ids σ.h)).alcT ld).to E.toEnc ρ := by
            rw [alcT_to]
            congr 1
            show AS.mk _ _ _ _ = AS.mk _ _ _ _
            have : hTo E.toEnc ρ (σ1.h ++ inH ids σ.h) = hTo E.toEnc ρ σ1.h ++ hTo E.toEnc ρ (inH ids σ.h) := List.map_append
            rw [show (σ1.withB (σ1.h ++ inH ids σ.h)).h = σ1.h ++ inH ids σ.h from rfl, this, inH_to hi hids]; rfl
          rw [e3]
          refine (low_csemX (low_arun rfl) _).low ?_ ownE_sub rfl
          refine evCs_ok (Y := Y) (all := true) hG (fun _ => low_arun rfl) cs2 _ hin ?_
          refine hx.mono fun y hy => ?_
          cases y with
          | pan v => exact hy _
          | st σ3 => exact fun hi3 => ar_end rfl (hy ρ hi3 (Agr.refl ρ))
        · cases hx
  · exact anyR_ok (Y := Y) hm hG hi h
theorem mixR_ok {id : Nat} {ops : List Oper} (hm : P.follows .mixedOrders = true) (hG : GOk P Y E G) (hi : Inj ρ σ.h) (h : (mixR Y E G ops σ).holds (OnX P E Q ρ ks ks)) : ARun P Q (.c (.region id ops.toArray true) :: ks) (σ.to E.toEnc ρ) := by
  unfold mixR at h
  split at h
  · rename_i he
    exact mixR2_ok (Y := Y) hm hG hi he h
  · cases h
theorem evR_ok {id : Nat} {ops : Array Oper} {draw : Bool} (hm : P.follows .mixedOrders = true) (hG : GOk P Y E G) (hi : Inj ρ σ.h) (h : (evR Y E G ops.toList draw σ).holds (OnX P E Q ρ ks ks)) : ARun P Q (.c (.region id ops draw) :: ks) (σ.to E.toEnc ρ) := by
  have hops : ops = ops.toList.toArray := by simp
  unfold evR at h
  split at h
  · rw [hops]
    refine ar_region ?_
    exact evOps_ok (Y := Y) hG ops.toList ops.toList 0 σ ρ (fun i o ho => by simpa using ho) (by simp) hi h
  · split at h
    · rename_i he
      split at h
      · rename_i hB
        rw [hops]
        refine ar_nop ?_
        refine ar_draw hm hB (by simp only [TS.to, he]; rfl) ?_
        refine evQs_ok (Y := Y) (K := fun σ' => ARun P Q (.o [] 0 [] :: ks) σ') (fun σ1 σ2 h1 h2 => ar_subO rfl (alike_sub h1) h2) hG ops.toList σ.h hi ops.toList σ rfl ?_
        exact (holds_bind h).mono fun σ' hσ (hh : σ'.h = σ.h) => ar_end rfl (hσ ρ (hh ▸ hi) (Agr.refl ρ))
      · cases h
    · rename_i body om after hsp he
      split at h
      · rename_i hB
        have hl := splitE_eq hsp
        rw [hops]
        refine ar_drawC hm hl hB (by simp only [TS.to, he]; rfl) ?_
        refine evQs_ok (Y := Y) (K := fun σ' => ARun P Q (.o ops.toList body.length (om :: after) :: ks) (σ'.als (slotMoves body))) (fun σ1 σ2 h1 h2 => ar_subO rfl (alike_sub (h1.als _)) h2) hG ops.toList σ.h hi body σ rfl ?_
        refine (holds_bind h).mono fun σ' hσ (hh : σ'.h = σ.h) => ?_
        refine ar_subO rfl als_subT ?_
        refine evOps_ok (Y := Y) hG ops.toList (om :: after) body.length (σ'.alsT (slotMoves body)) ρ (fun i o ho => ?_) ?_ (hh ▸ hi) hσ
        · rw [hl, List.getElem?_append_right (by omega)]; simpa using ho
        · rw [hl]; simp
      · split at h
        · split at h
          · rw [hops]
            exact lateR_ok (Y := Y) hm hG hi he (splitE_eq hsp) h
          · rw [hops]
            exact mixR_ok (Y := Y) hm hG hi h
        · rw [hops]
          exact mixR_ok (Y := Y) hm hG hi h
    · cases h
end
end Go.Proofs.Ytgmlkhfjhogdbaa
