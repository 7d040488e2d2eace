/- Typed abstract values: what operations yield, the rest. -/
import Derived.Test.YtgmlkhfjhogdbaaHB
namespace Go.Proofs.Ytgmlkhfjhogdbaa
open Go.RowKit P
set_option linter.unusedSimpArgs false
set_option linter.unusedVariables false

/-- A part of a list, an element, where there are such. -/
def idxC {α : Type} (l : List α) (i : Int) : Option α := if 0 ≤ i then l[i.toNat]? else none
def subC {α : Type} (l : List α) (i j : Int) : Option (List α) := if 0 ≤ i ∧ i ≤ j ∧ j ≤ l.length then some ((l.take j.toNat).drop i.toNat) else none
def sub3C {α : Type} (l : List α) (i j m : Int) : Option (List α) := if 0 ≤ i ∧ i ≤ j ∧ j ≤ m ∧ m ≤ l.length then some ((l.take j.toNat).drop i.toNat) else none
def bndT {T : Nat → Type} (σ : TS T) (q : Option Operand) (z : Int) : Option Int :=
  match q with
  | none => some z
  | some q => match asI (opT σ q) with
    | some (.i64, i) => some i
    | _ => none
/-- A cell's value as it stands in a constant. -/
def atomT {T : Nat → Type} : Value → TA T
  | .int .u8 n => if ((UInt8.ofNat n.toNat).toNat : Int) = n then .d .byte (UInt8.ofNat n.toNat) else .raw (.int .u8 n)
  | .int k n => .d (.int k) n
  | .bool b => .d .bool b
  | .string s => .d .str s.data.toList
  | v => .raw v
theorem atomT_to (E : Enc) (ρ : Nat → Nat) (v : Value) : (atomT v : TA E.T).to E ρ = .v v := by
  cases v with
  | int k n =>
    cases k with
    | u8 =>
      unfold atomT
      simp only
      split
      · rename_i h
        show AV.v (.int .u8 ((UInt8.ofNat n.toNat).toNat : Int)) = _
        rw [h]
      · rfl
    | _ => rfl
  | _ => rfl
/-- The cells that a value is. -/
def TA.simple {T : Nat → Type} : TA T → Bool
  | .d (.nam _) _ => false
  | .raw (.agg _) => false
  | .raw (.tuple _) => false
  | .clip _ _ => false
  | _ => true
def TV.cs {T : Nat → Type} : TV T → Option (List (TA T))
  | .a x => match x.simple with | true => some [x] | false => none
  | .ag l => some l
  | _ => none
def spl {α : Type} (cs : List α) (o : Nat) (us : List α) : List α := cs.take o ++ us ++ cs.drop (o + us.length)
def opTs {T : Nat → Type} (σ : TS T) : List Operand → Option (List (TV T))
  | [] => some []
  | x :: xs => match opT σ x, opTs σ xs with
    | some u, some us => some (u :: us)
    | _, _ => none
/-- nil, of a slice's type. -/
def nilFix (E : Env) (t : TypeId) (u : TV E.T) : TV E.T :=
  match u with
  | .a (.raw (.slice none 0 0)) => match look E.et t with
    | some (.sl ty) => .a (.own ty [])
    | _ => u
  | u => u
def fixArgs (E : Env) : List TypeId → List (TV E.T) → List (TV E.T)
  | t :: ts, u :: us => nrm (nilFix E t u).rd :: fixArgs E ts us
  | [], us => us.map fun u => nrm u.rd
  | _, [] => []
def buildT {T : Nat → Type} (pl : List (Nat × Nat)) : List (TA T) → List Nat → List (TV T) → Option (List (TA T))
  | cs, [], [] => some cs
  | cs, i :: is, u :: us => match pl[i]?, u.cs with
    | some (off, n), some vs => match Nat.beq vs.length n && Nat.ble (off + n) cs.length with
      | true => buildT pl (spl cs off vs) is us
      | false => none
    | _, _ => none
  | _, _, _ => none
/-- Elements of a slice literal. -/
def packAll (E : Env) (t : Ty) : List (TV E.T) → Option (List (Den E.T t))
  | [] => some []
  | u :: us => match u.cs, packAll E t us with
    | some l, some xs => match pkT E t l with
      | some (x, []) => some (x :: xs)
      | _ => none
    | _, _ => none
def atoms {T : Nat → Type} : List (TV T) → Option (List (TA T))
  | [] => some []
  | .a x :: us => match atoms us with
    | some xs => some (x :: xs)
    | none => none
  | _ :: _ => none
/-- What comes of what may panic. -/
inductive PR (R : Type) where
  | ok (r : R)
  | pan (v : Value)
/-- What a callee that is handed boxes comes to. -/
inductive XR (T : Nat → Type) : Type 1 where
  | bad
  | ret {Z : Type} (o : Option Z) (ids : List Nat) (u : Z → TV T) (h : Z → List (Nat × TB T))
  | may {Z : Type} (o : Option (PR Z)) (ids : List Nat) (u : Z → TV T) (h : Z → List (Nat × TB T))
/-- What is known of callees. -/
structure Gam (E : Env) where
  f : List ((_ : Nat) × (List (TV E.T) → PV E.T))
  q : List (Nat × List Ty)
  x : List ((_ : Nat) × (List (TV E.T) → List (Nat × TB E.T) → XR E.T))
  mu : List Nat
def gLook {E : Env} : List ((_ : Nat) × (List (TV E.T) → PV E.T)) → Nat → Option (List (TV E.T) → PV E.T)
  | [], _ => none
  | ⟨k, h⟩ :: r, i => match Nat.beq i k with | true => some h | false => gLook r i
def xHas {E : Env} : List ((_ : Nat) × (List (TV E.T) → List (Nat × TB E.T) → XR E.T)) → Nat → Bool
  | [], _ => false
  | ⟨k, _⟩ :: r, i => match Nat.beq i k with | true => true | false => xHas r i
/-- The first that answers. -/
def xRun {E : Env} : List ((_ : Nat) × (List (TV E.T) → List (Nat × TB E.T) → XR E.T)) → Nat → List (TV E.T) → List (Nat × TB E.T) → XR E.T
  | [], _, _, _ => .bad
  | ⟨k, h⟩ :: r, i, us, hs => match Nat.beq i k with
    | true => match h us hs with
      | .bad => xRun r i us hs
      | x => x
    | false => xRun r i us hs
theorem gLook_mem {E : Env} : ∀ {G : List ((_ : Nat) × (List (TV E.T) → PV E.T))} {f : Nat} {h : List (TV E.T) → PV E.T}, gLook G f = some h → ⟨f, h⟩ ∈ G
  | [], _, _, h => by cases h
  | ⟨k, h0⟩ :: r, f, h, hl => by
    simp only [gLook] at hl
    split at hl
    · rename_i e; cases hl; rw [Nat.eq_of_beq_eq_true e]; exact List.mem_cons_self
    · exact List.mem_cons_of_mem _ (gLook_mem hl)

def beqI (a b : Int) : Bool := a == b
def beqB (a b : Bool) : Bool := a == b
def beqS (a b : List UInt8) : Bool := decide (a = b)
/-- Structs that are compared: cell by cell. -/
def eqA {T : Nat → Type} (t : Ty) (x y : TA T) : Option Bool :=
  match t with
  | .int k => match asD (.int k) x, asD (.int k) y with
    | some a, some b => some (beqI a b)
    | _, _ => none
  | .byte => match asD .byte x, asD .byte y with
    | some a, some b => some (beqI ((UInt8.toNat a : Nat) : Int) ((UInt8.toNat b : Nat) : Int))
    | _, _ => none
  | .bool => match asD .bool x, asD .bool y with
    | some a, some b => some (beqB a b)
    | _, _ => none
  | .str => match asD .str x, asD .str y with
    | some a, some b => some (beqS a b)
    | _, _ => none
  | _ => none
def eqT {T : Nat → Type} : List Ty → List (TA T) → List (TA T) → Option Bool
  | [], [], [] => some true
  | t :: ts, x :: xs, y :: ys => match eqA t x y, eqT ts xs ys with
    | some p, some q => some (p && q)
    | _, _ => none
  | _, _, _ => none
def evEq {E : Env} (q : List (Nat × List Ty)) (op : BinOp) (t : TypeId) (a b : List (TA E.T)) : PV E.T :=
  match look q t with
  | some ts => match eqT ts a b, op with
    | some r, .eql => .one (.a (.d .bool r))
    | some r, .neq => .one (.a (.d .bool (!r)))
    | _, _ => .bad
  | none => .bad
def evConv {P : Program} (Y : Tys P) (E : Env) (σ : TS E.T) (t t2 : TypeId) (x : Operand) : PV E.T :=
  match look Y.ty t, look Y.ty t2 with
  | some _, some (.int k) => match asI (opT σ x) with
    | some (_, n) => .one (mkI k (k.wrap n))
    | none => .bad
  | some .string, some .string => match asS (opT σ x) with
    | some s => .one (.a (.d .str s))
    | none => .bad
  | some (.slice e), some .string => match look Y.ty e, asL (opT σ x) with
    | some (.int .u8), some ⟨.byte, l⟩ => .one (.a (.d .str l))
    | _, _ => .bad
  | some .string, some (.slice e) => match look Y.ty e, asS (opT σ x) with
    | some (.int .u8), some s => .one (.a (.own .byte s))
    | _, _ => .bad
  | _, _ => .bad
/-- What a map holds, and what it says where there is nothing. -/
def mapTy : TypeDesc → Option Ty
  | .int .u8 => none
  | .int k => some (.int k)
  | .bool => some .bool
  | .string => some .str
  | _ => none
def zeroM {T : Nat → Type} (t : Ty) (v : Value) : Option (Den T t) := match t, v with
  | .int k, .int k' n => match decide (k = k') with
    | true => some n
    | false => none
  | .bool, .bool b => some b
  | .str, .string s => some s.data.toList
  | _, _ => none
def ifT {T : Nat → Type} : TV T → Option (TC T)
  | .a x => match x.plain with
    | true => some (.a x)
    | false => none
  | .ag l => some (.ag l)
  | _ => none
def notIf : TypeDesc → Bool
  | .interface _ => false
  | _ => true
def evP0 {P : Program} (Y : Tys P) (E : Env) (G : Gam E) (σ : TS E.T) (op : Op) (ty : TypeId) : PV E.T :=
  match op with
  | .move (.func f) | .assign (.func f) => .one (.fn f [])
  | .move x | .assign x => match opT σ x with
    | some u => .one (nilFix E ty u.rd)
    | none => .bad
  | .binOp op t x y _ => match opT σ x, opT σ y with
    | some (.ag a), some (.ag b) => evEq G.q op t a b
    | _, _ => evBin Y σ op t x y
  | .unOp .not _ x => match opT σ x with
    | some (.a (.d .bool b)) => .one (.a (.d .bool (!b)))
    | some (.a .tt) => .one (.a .ff)
    | some (.a .ff) => .one (.a .tt)
    | _ => .bad
  | .unOp .neg _ x => match asI (opT σ x) with
    | some (k, n) => .one (mkI k (k.wrap (0 - n)))
    | none => .bad
  | .unOp .xor _ x => match asI (opT σ x) with
    | some (k, n) => .one (mkI k (bits .xor k (if k.signed then -1 else k.max) n))
    | none => .bad
  | .convert t t2 x => evConv Y E σ t t2 x
  | .extract x i => match opT σ x with
    | some (.tu us) => match us[i]? with
      | some (.a u) => .one (.a u.rd)
      | some (.ag l) => .one (.ag l)
      | none => .bad
    | _ => .bad
  | .index t x y => match look Y.ty t, asS (opT σ x), asI (opT σ y) with
    | some .string, some s, some (_, i) => .opt (idxC s i) fun b => .a (.d .byte b)
    | _, _, _ => .bad
  | .slice t x lo hi none => match look Y.ty t with
    | some .string => match asS (opT σ x) with
      | some s => match bndT σ lo 0, bndT σ hi s.length with
        | some i, some j => .opt (subC s i j) fun r => .a (.d .str r)
        | _, _ => .bad
      | none => .bad
    | some (.slice e) => match asL (opT σ x) with
      | some ⟨ty, l⟩ => match look Y.sz e, bndT σ lo 0, bndT σ hi l.length with
        | some (sz, _), some i, some j => match Nat.beq sz (csz E.toEnc ty) with
          | true => .opt (subC l i j) fun r => .a (.d (.sl ty) r)
          | false => .bad
        | _, _, _ => .bad
      | none => .bad
    | _ => .bad
  | .slice t x lo (some hi) (some m) => match look Y.ty t with
    | some (.slice e) => match asL (opT σ x) with
      | some ⟨ty, l⟩ => match look Y.sz e, bndT σ lo 0, asI (opT σ hi), asI (opT σ m) with
        | some (sz, _), some i, some (_, j), some (_, m) => match Nat.beq sz (csz E.toEnc ty) with
          | true => .opt (sub3C l i j m) fun r => .a (.d (.sl ty) r)
          | false => .bad
        | _, _, _, _ => .bad
      | none => .bad
    | _ => .bad
  | .indexAddr t x y => match look Y.ty t, asL (opT σ x), asI (opT σ y) with
    | some (.slice e), some ⟨ty, l⟩, some (_, i) => match look Y.sz e with
      | some (sz, _) => match Nat.beq sz (csz E.toEnc ty) with
        | true => .opt (idxC l i) fun z => .el (unpT E ty z)
        | false => .bad
      | none => .bad
    | _, _, _ => .bad
  | .fieldAddr t x i => match look Y.ty t with
    | some (.struct fs) => match fs[i]? with
      | some f => match look Y.sz f.type with
        | some fsz => match Nat.ble 1 fsz.1 with
          | true => match opT σ x with
            | some (.el cs) => match Nat.ble f.offset cs.length with
              | true => .one (.el (cs.drop f.offset))
              | false => .bad
            | some (.a (.box k o)) => .one (.a (.box k (o + f.offset)))
            | _ => .bad
          | false => .bad
        | none => .bad
      | none => .bad
    | _ => .bad
  | .load t x => match opT σ x, look Y.ty t with
    | some (.el cs), some (.struct fs) => match look Y.sz t with
      | some (n, _) => match Nat.ble n cs.length with
        | true => .one (.ag (cs.take n))
        | false => .bad
      | none => .bad
    | some (.el (c :: _)), some dsc => match oneB dsc with
      | true => .one (.a c.rd)
      | false => .bad
    | some (.a (.box k o)), some (.struct fs) => match look σ.h k, look Y.sz t with
      | some (.cs cs), some (n, _) => match Nat.ble (o + n) cs.length with
        | true => .one (.ag (((cs.drop o).take n).map TA.rd))
        | false => .bad
      | _, _ => .bad
    | some (.a (.box k o)), some dsc => match oneB dsc, look σ.h k with
      | true, some (.cs cs) => match cs[o]? with
        | some c => .one (.a c.rd)
        | none => .bad
      | _, _ => .bad
    | _, _ => .bad
  | .build t ps => match look Y.ty t, look Y.zr t with
    | some (.struct fs), some zv => match placesA Y fs.toList, opTs σ (ps.toList.map (·.2)) with
      | some pl, some us => match buildT pl (zv.cells.toList.map atomT) (ps.toList.map (·.1)) us with
        | some cs => .one (.ag (cs.map TA.rd))
        | none => .bad
      | _, _ => .bad
    | _, _ => .bad
  | .buildSlice t len ps => match look Y.ty t, look E.et t with
    | some (.slice e), some (.sl ty) => match look Y.sz e, opTs σ (ps.toList.map (·.2)) with
      | some (sz, _), some us => match packAll E ty us with
        | some xs => match Nat.beq sz (csz E.toEnc ty) && partsOk ps.toList 0 && Nat.beq len ps.toList.length && Nat.ble (len * sz) 16777216 with
          | true => .one (.a (.own ty xs))
          | false => .bad
        | none => .bad
      | _, _ => .bad
    | _, _ => .bad
  | .nilCheck x => match opT σ x with
    | some (.a (.box k o)) => .one (.a (.box k o))
    | some (.el cs) => .one (.el cs)
    | _ => .bad
  | .makeFunc (.func f) first caps => match first.toList with
    | [] => match opTs σ caps.toList with
      | some us => match atoms us with
        | some xs => .one (.fn f xs)
        | none => .bad
      | none => .bad
    | _ => .bad
  | .call { callee := .builtin .len, args := xs, argTypes := ats } => match xs.toList, ats[0]? with
    | [x], some t => match look Y.ty t with
      | some .string => match asS (opT σ x) with
        | some s => .one (.a (.d (.int .i64) (s.length : Int)))
        | none => .bad
      | some (.slice _) => match asL (opT σ x) with
        | some ⟨_, l⟩ => .one (.a (.d (.int .i64) (l.length : Int)))
        | none => .bad
      | _ => .bad
    | _, _ => .bad
  | .call { callee := .builtin .min, args := xs, argTypes := _ } => match xs.toList with
    | [x, y] => match asI (opT σ x), asI (opT σ y) with
      | some (.i64, a), some (.i64, b) => .one (.a (.d (.int .i64) (if b < a then b else a)))
      | _, _ => .bad
    | _ => .bad
  | .call { callee := .builtin .max, args := xs, argTypes := _ } => match xs.toList with
    | [x, y] => match asI (opT σ x), asI (opT σ y) with
      | some (.i64, a), some (.i64, b) => .one (.a (.d (.int .i64) (if a < b then b else a)))
      | _, _ => .bad
    | _ => .bad
  | .call { callee := .value (.func f), args := xs, argTypes := ats } => match gLook G.f f, opTs σ xs.toList with
    | some h, some us => h (fixArgs E ats.toList us)
    | _, _ => .bad
  | .call { callee := .value (.tmp s), args := xs, argTypes := ats } => match look σ.t s with
    | some (.fn f []) => match gLook G.f f, opTs σ xs.toList with
      | some h, some us => h (fixArgs E ats.toList us)
      | _, _ => .bad
    | _ => .bad
  | .field t x i => match opT σ x, look Y.ty t with
    | some (.ag cs), some (.struct fs) => match fs[i]? with
      | some f => match look Y.ty f.type, cs[f.offset]? with
        | some dsc, some c => match oneB dsc with
          | true => .one (.a c.rd)
          | false => .bad
        | _, _ => .bad
      | none => .bad
    | _, _ => .bad
  | .lookup t x y ok => match look Y.ty t, opT σ x, asS (opT σ y) with
    | some (.map kt et), some (.a (.mpr k)), some key => match look Y.ty kt, look Y.zr et, look σ.h k with
      | some .string, some zv, some (.smap ty l) => match zeroM ty zv, ok with
        | some z, true => .one (.tu [.a (.d ty ((mget l key).getD z)), .a (.d .bool (mget l key).isSome)])
        | some z, false => .one (.a (.d ty ((mget l key).getD z)))
        | none, _ => .bad
      | _, _, _ => .bad
    | _, _, _ => .bad
  | .makeInterface t x => match opT σ x, look Y.ty t with
    | some u, some dsc => match ifT u, notIf dsc with
      | some c, true => .one (.ifc t c)
      | _, _ => .bad
    | _, _ => .bad
  | _ => .bad
/-! ### Slices and arrays that lie in boxes of their own, and are written in place -/
def idxN (n : Nat) (i : Int) : Option Nat := if 0 ≤ i ∧ i < n then some i.toNat else none
def subN (c : Nat) (i j : Int) : Option (Nat × Nat) := if 0 ≤ i ∧ i ≤ j ∧ j ≤ c then some (i.toNat, j.toNat) else none
def fullC {α : Type} (off n : Nat) (l : List α) : Option (List α) := if off = 0 ∧ n = l.length then some l else none
def offN (off c i : Nat) : Nat := if c = i then off else off + i
def sz1 {P : Program} (Y : Tys P) (e : TypeId) : Bool := match look Y.sz e with
  | some (1, _) => true
  | _ => false
def evPB {P : Program} (Y : Tys P) (E : Env) (σ : TS E.T) (op : Op) : PV E.T :=
  match op with
  | .indexAddr t x y => match opT σ x, asI (opT σ y), look Y.ty t with
    | some (.a (.bsl k off n _)), some (_, i), some (.slice e) => match sz1 Y e with
      | true => .opt (idxN n i) fun j => .a (.box k (off + j))
      | false => .bad
    | some (.a (.box k off)), some (_, i), some (.array n e) => match sz1 Y e with
      | true => .opt (idxN n i) fun j => .a (.box k (off + j))
      | false => .bad
    | _, _, _ => .bad
  | .load t x => match opT σ x, look Y.ty t with
    | some (.a (.box k o)), some dsc => match oneB dsc, look σ.h k with
      | true, some (.row ty l) => match ty.lone with
        | true => .opt l[o]? fun z => .a (.d ty z)
        | false => .bad
      | _, _ => .bad
    | _, _ => .bad
  | .slice t x lo hi none => match opT σ x, look Y.ty t with
    | some (.a (.bsl k off n c)), some (.slice e) => match sz1 Y e, bndT σ lo 0, bndT σ hi n with
      | true, some i, some j => .opt (subN c i j) fun p => .a (.bsl k (offN off c p.1) (p.2 - p.1) (c - p.1))
      | _, _, _ => .bad
    | some (.a (.box k off)), some (.array n e) => match sz1 Y e, bndT σ lo 0, bndT σ hi n with
      | true, some i, some j => .opt (subN n i j) fun p => .a (.bsl k (offN off n p.1) (p.2 - p.1) (n - p.1))
      | _, _, _ => .bad
    | _, _ => .bad
  | .convert t t2 x => match look Y.ty t, look Y.ty t2, opT σ x with
    | some (.slice e), some .string, some (.a (.bsl k off n _)) => match look Y.ty e, look σ.h k with
      | some (.int .u8), some (.row .byte l) => .opt (fullC off n l) fun s => .a (.d .str s)
      | _, _ => .bad
    | _, _, _ => .bad
  | .call { callee := .builtin .len, args := xs, argTypes := ats } => match xs.toList, ats[0]? with
    | [x], some t => match look Y.ty t, opT σ x with
      | some (.slice _), some (.a (.bsl _ _ n _)) => .one (.a (.d (.int .i64) (n : Int)))
      | _, _ => .bad
    | _, _ => .bad
  | .binOp op t x y _ => match opT σ x, opT σ y with
    | some (.a (.raw (.slice none 0 0))), some (.a (.raw (.slice none 0 0))) => match look Y.ty t, op with
      | some (.slice _), .eql => .one (.a .tt)
      | some (.slice _), .neq => .one (.a .ff)
      | _, _ => .bad
    | _, _ => .bad
  | _ => .bad
def evP {P : Program} (Y : Tys P) (E : Env) (G : Gam E) (σ : TS E.T) (op : Op) (ty : TypeId) : PV E.T :=
  match evPB Y E σ op with
  | .bad => evP0 Y E G σ op ty
  | v => v
end Go.Proofs.Ytgmlkhfjhogdbaa
