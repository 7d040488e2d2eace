/- Typed abstract values: what operations yield. -/
import Derived.Test.YtgmlkhfjhogdbaaHA
namespace Go.Proofs.Ytgmlkhfjhogdbaa
open Go.RowKit P
set_option linter.unusedSimpArgs false
set_option linter.unusedVariables false

/-- Named structs, taken apart and put together. -/
structure Env extends Enc where
  unp : ∀ i, T i → List (TA T)
  unp_to : ∀ i z ρ, (unp i z).map (TA.to toEnc ρ) = enc i z
  pk : ∀ i, List (TA T) → Option (T i × List (TA T))
  pk_to : ∀ i l z r ρ, pk i l = some (z, r) → LeL (l.map fun a => (a.rd.to toEnc ρ)) (enc i z ++ r.map fun a => (a.rd.to toEnc ρ))
  et : List (TypeId × Ty)
  ct : List (TypeId × List Ty)
def castD {T : Nat → Type} (a b : Ty) (x : Den T a) : Option (Den T b) := if h : a = b then some (h ▸ x) else none
theorem castD_some {T : Nat → Type} {a b : Ty} {x : Den T a} {y : Den T b} (h : castD a b x = some y) : ∃ e : a = b, y = e ▸ x := by
  unfold castD at h
  split at h
  · rename_i e; cases h; exact ⟨e, rfl⟩
  · cases h
def unpT (E : Env) (t : Ty) (x : Den E.T t) : List (TA E.T) :=
  match t, x with
  | .nam i, z => E.unp i z
  | t, x => [.d t x]
theorem unpT_to (E : Env) (ρ : Nat → Nat) (t : Ty) (x : Den E.T t) : (unpT E t x).map (TA.to E.toEnc ρ) = cells E.toEnc t x := by
  cases t with
  | nam i => exact E.unp_to i x ρ
  | ptr t => cases x <;> rfl
  | _ => rfl
def asD {T : Nat → Type} (t : Ty) : TA T → Option (Den T t)
  | .d t' x => castD t' t x
  | .own t' l => castD (.sl t') t l
  | .tt => castD .bool t (true : Bool)
  | .ff => castD .bool t (false : Bool)
  | .raw (.slice none 0 0) => match t with
    | .sl _ => some []
    | _ => none
  | .raw (.pointer none) => match t with
    | .ptr _ => some none
    | _ => none
  | _ => none
theorem asD_to (E : Enc) (ρ : Nat → Nat) {t : Ty} {a : TA E.T} {x : Den E.T t} (h : asD t a = some x) : Le1 (a.rd.to E ρ) (one E t x) := by
  unfold asD at h
  split at h
  · obtain ⟨rfl, rfl⟩ := castD_some h; exact .refl _
  · obtain ⟨rfl, rfl⟩ := castD_some h; exact .refl _
  · obtain ⟨rfl, rfl⟩ := castD_some h; exact .refl _
  · obtain ⟨rfl, rfl⟩ := castD_some h; exact .refl _
  · split at h
    · cases h; exact .nil _ _
    · cases h
  · split at h
    · cases h; exact .refl _
    · cases h
  · cases h
def pkL {T : Nat → Type} (t : Ty) : List (TA T) → Option (Den T t × List (TA T))
  | a :: r => match asD t a with
    | some x => some (x, r)
    | none => none
  | [] => none
def pkT (E : Env) (t : Ty) (l : List (TA E.T)) : Option (Den E.T t × List (TA E.T)) :=
  match t with
  | .nam i => E.pk i l
  | t => pkL t l
theorem LeL.append {a b c d : List AV} (h : LeL a b) (k : LeL c d) : LeL (a ++ c) (b ++ d) := by
  induction h with
  | nil => exact k
  | cons hu _ ih => exact .cons hu ih
theorem pkL_to (E : Enc) (ρ : Nat → Nat) {t : Ty} (hl : t.lone = true) {l : List (TA E.T)} {x : Den E.T t} {r : List (TA E.T)} (h : pkL t l = some (x, r)) : LeL (l.map fun a => (a.rd.to E ρ)) (cells E t x ++ r.map fun a => (a.rd.to E ρ)) := by
  rw [cells_lone E hl]
  unfold pkL at h
  split at h
  · rename_i a r0
    split at h
    · rename_i x0 hx
      cases h
      exact .cons (asD_to E ρ hx) (.refl _)
    · cases h
  · cases h
theorem pkT_to (E : Env) (ρ : Nat → Nat) {t : Ty} {l : List (TA E.T)} {x : Den E.T t} {r : List (TA E.T)} (h : pkT E t l = some (x, r)) : LeL (l.map fun a => (a.rd.to E.toEnc ρ)) (cells E.toEnc t x ++ r.map fun a => (a.rd.to E.toEnc ρ)) := by
  cases t with
  | nam i => exact E.pk_to i l x r ρ h
  | _ => exact pkL_to E.toEnc ρ rfl h

/-- What an operation yields: a value; a value, if there is one; nothing that is known. -/
inductive PV (T : Nat → Type) : Type 1 where
  | one (u : TV T)
  | opt {α : Type} (o : Option α) (u : α → TV T)
  | bad
def PV.ok {T : Nat → Type} (p : PV T) (K : TV T → Prop) : Prop :=
  match p with
  | .one u => K u
  | .opt o u => ∀ z, o = some z → K (u z)
  | .bad => True
theorem PV.ok.mono {T : Nat → Type} {p : PV T} {K K' : TV T → Prop} (h : p.ok K) (hk : ∀ u, K u → K' u) : p.ok K' := by
  cases p with
  | one u => exact hk _ h
  | opt o u => exact fun z hz => hk _ (h z hz)
  | bad => trivial

section
variable {P : Program} {Y : Tys P} {E : Env} {ρ : Nat → Nat}
def constT {T : Nat → Type} : Value → TV T
  | .int .u8 n => if ((UInt8.ofNat n.toNat).toNat : Int) = n then .a (.d .byte (UInt8.ofNat n.toNat)) else .a (.raw (.int .u8 n))
  | .int k n => .a (.d (.int k) n)
  | .bool true => .a .tt
  | .bool false => .a .ff
  | .string s => .a (.d .str s.data.toList)
  | .agg xs => .ag (xs.toList.map .raw)
  | .tuple xs => .tu (xs.toList.map fun x => .a (.raw x))
  | v => .a (.raw v)
theorem constT_to (E : Enc) (ρ : Nat → Nat) (v : Value) : (constT v : TV E.T).to E ρ = cst v := by
  cases v with
  | int k n =>
    cases k with
    | u8 =>
      unfold constT
      simp only
      split
      · rename_i h
        show AV.v (.int .u8 ((UInt8.ofNat n.toNat).toNat : Int)) = _
        rw [h]; rfl
      · rfl
    | _ => rfl
  | bool b => cases b <;> rfl
  | agg xs => simp only [constT, TV.to, List.map_map, cst]; rfl
  | tuple xs => simp only [constT, TV.to, List.map_map, cst]; rfl
  | _ => rfl
def opT {T : Nat → Type} (σ : TS T) : Operand → Option (TV T)
  | .tmp t => look σ.t t
  | .const v => some (constT v)
  | .func f => some (.a (.raw (.func (.func f) #[] #[])))
  | .global g => some (.a (.raw (.pointer (some ⟨g, 0, none⟩))))
theorem opT_to {σ : TS E.T} {x : Operand} {u : TV E.T} (h : opT σ x = some u) : opV (σ.to E.toEnc ρ) x = some (u.to E.toEnc ρ) := by
  cases x with
  | tmp t => simp only [opT] at h; simp only [opV, TS.to, look_tTo, h]; rfl
  | const v => cases h; simp only [opV, constT_to]
  | func f => cases h; rfl
  | global g => cases h; rfl
def asI {T : Nat → Type} : Option (TV T) → Option (IntKind × Int)
  | some (.a (.d (.int k) x)) => some (k, x)
  | some (.a (.d .byte b)) => some (.u8, (UInt8.toNat b : Int))
  | _ => none
theorem asI_to {σ : TS E.T} {x : Operand} {k : IntKind} {n : Int} (h : asI (opT σ x) = some (k, n)) : opV (σ.to E.toEnc ρ) x = some (.v (.int k n)) := by
  cases hx : opT σ x with
  | none => rw [hx] at h; cases h
  | some u =>
    rw [hx] at h
    rw [opT_to hx]
    unfold asI at h
    split at h
    · rename_i e; cases e; cases h; rfl
    · rename_i e; cases e; cases h; rfl
    · cases h
def asB {T : Nat → Type} : Option (TV T) → Option Bool
  | some (.a (.d .bool b)) => some b
  | some (.a .tt) => some true
  | some (.a .ff) => some false
  | _ => none
theorem asB_to {σ : TS E.T} {x : Operand} {b : Bool} (h : asB (opT σ x) = some b) : opV (σ.to E.toEnc ρ) x = some (.v (.bool b)) := by
  cases hx : opT σ x with
  | none => rw [hx] at h; cases h
  | some u =>
    rw [hx] at h
    rw [opT_to hx]
    unfold asB at h
    split at h
    · rename_i e; cases e; cases h; rfl
    · rename_i e; cases e; cases h; rfl
    · rename_i e; cases e; cases h; rfl
    · cases h
def asS {T : Nat → Type} : Option (TV T) → Option (List UInt8)
  | some (.a (.d .str s)) => some s
  | _ => none
theorem asS_to {σ : TS E.T} {x : Operand} {s : List UInt8} (h : asS (opT σ x) = some s) : opV (σ.to E.toEnc ρ) x = some (.v (.string (mkB s))) := by
  cases hx : opT σ x with
  | none => rw [hx] at h; cases h
  | some u =>
    rw [hx] at h
    rw [opT_to hx]
    unfold asS at h
    split at h
    · rename_i e; cases e; cases h; rfl
    · cases h
/-- A slice, as a reader sees it. -/
def asL {T : Nat → Type} : Option (TV T) → Option (OwnV T)
  | some (.a (.d (.sl t) l)) => some ⟨t, l⟩
  | some (.a (.own t l)) => some ⟨t, l⟩
  | _ => none
theorem asL_to {σ : TS E.T} {x : Operand} {w : OwnV E.T} (h : asL (opT σ x) = some w) : ∃ o, opV (σ.to E.toEnc ρ) x = some (.sl o (csz E.toEnc w.t) (w.l.map (cells E.toEnc w.t))) := by
  cases hx : opT σ x with
  | none => rw [hx] at h; cases h
  | some u =>
    rw [hx] at h
    rw [opT_to hx]
    unfold asL at h
    split at h
    · rename_i e; cases e; cases h; exact ⟨_, rfl⟩
    · rename_i e; cases e; cases h; exact ⟨_, rfl⟩
    · cases h
def mkI {T : Nat → Type} (k : IntKind) (r : Int) : TV T := match k with
  | .u8 => .a (.d .byte (UInt8.ofNat r.toNat))
  | k => .a (.d (.int k) r)
theorem mkI_to (E : Enc) (ρ : Nat → Nat) {k : IntKind} {r : Int} (h : k = .u8 → 0 ≤ r ∧ r < 256) : (mkI k r : TV E.T).to E ρ = .v (.int k r) := by
  unfold mkI
  split
  · obtain ⟨h1, h2⟩ := h rfl
    show AV.v (.int .u8 ((UInt8.ofNat r.toNat).toNat : Int)) = _
    congr 2
    simp
    omega
  · rfl
theorem wrap8 (n : Int) : 0 ≤ IntKind.u8.wrap n ∧ IntKind.u8.wrap n < 256 := by
  rw [IntKind.wrap_u8]; omega
theorem mkI_wrap (E : Enc) (ρ : Nat → Nat) {k : IntKind} {n : Int} : (mkI k (k.wrap n) : TV E.T).to E ρ = .v (.int k (k.wrap n)) := mkI_to E ρ fun h => by subst h; exact wrap8 n
/-- Quotients and shifts, where there are some. -/
def quoC (k : IntKind) (a b : Int) : Option Int := if b = 0 then none else some (k.wrap (a.tdiv b))
def remC (a b : Int) : Option Int := if b = 0 then none else some (a.tmod b)
def shlC (k : IntKind) (a b : Int) : Option Int := if 0 ≤ b then some (k.wrap (a * 2 ^ (min b.toNat k.bits))) else none
def shrC (k : IntKind) (a b : Int) : Option Int := if 0 ≤ b then some (a.fdiv (2 ^ (min b.toNat k.bits))) else none
def u8C (r : Int) : Option UInt8 := if 0 ≤ r ∧ r < 256 then some (UInt8.ofNat r.toNat) else none
def catC (a b : List UInt8) : Option (List UInt8) := if a.length + b.length ≤ 9223372036854775807 then some (a ++ b) else none
def notU8 : IntKind → Bool
  | .u8 => false
  | _ => true
def binI {T : Nat → Type} (op : BinOp) (k : IntKind) (a b : Int) : PV T :=
  match op with
  | .add => .one (mkI k (k.wrap (a + b)))
  | .sub => .one (mkI k (k.wrap (a - b)))
  | .mul => .one (mkI k (k.wrap (a * b)))
  | .quo => .opt (quoC k a b) (mkI k)
  | .rem => match notU8 k with | true => .opt (remC a b) (mkI k) | false => .opt ((remC a b).bind u8C) fun b => .a (.d .byte b)
  | .and => .one (mkI k (bits .and k a b))
  | .or => .one (mkI k (bits .or k a b))
  | .xor => .one (mkI k (bits .xor k a b))
  | .eql => .one (.a (.d .bool (a == b)))
  | .neq => .one (.a (.d .bool (a != b)))
  | .lss => .one (.a (.d .bool (decide (a < b))))
  | .leq => .one (.a (.d .bool (decide (a ≤ b))))
  | .gtr => .one (.a (.d .bool (decide (a > b))))
  | .geq => .one (.a (.d .bool (decide (a ≥ b))))
  | _ => .bad
def binS {T : Nat → Type} (op : BinOp) (a b : List UInt8) : PV T :=
  match op with
  | .add => .opt (catC a b) fun s => .a (.d .str s)
  | .eql => .one (.a (.d .bool (decide (a = b))))
  | .neq => .one (.a (.d .bool (!decide (a = b))))
  | .lss => .one (.a (.d .bool (Op.bytesLess a b)))
  | .leq => .one (.a (.d .bool (Op.bytesLess a b || decide (a = b))))
  | .gtr => .one (.a (.d .bool (!(Op.bytesLess a b || decide (a = b)))))
  | .geq => .one (.a (.d .bool (!Op.bytesLess a b)))
  | _ => .bad
def evBin (Y : Tys P) (σ : TS E.T) (op : BinOp) (t : TypeId) (x y : Operand) : PV E.T :=
  match op with
  | .shl => match asI (opT σ x), asI (opT σ y) with
    | some (k, a), some (_, b) => .opt (shlC k a b) (mkI k)
    | _, _ => .bad
  | .shr => match asI (opT σ x), asI (opT σ y) with
    | some (k, a), some (_, b) => match notU8 k with | true => .opt (shrC k a b) (mkI k) | false => .opt ((shrC k a b).bind u8C) fun b => .a (.d .byte b)
    | _, _ => .bad
  | op => match asI (opT σ x), asI (opT σ y) with
    | some (k, a), some (k', b) => if k = k' then binI op k a b else .bad
    | _, _ => match asS (opT σ x), asS (opT σ y) with
      | some a, some b => binS op a b
      | _, _ => match asB (opT σ x), asB (opT σ y), look Y.ty t, op with
        | some a, some b, some .bool, .eql => .one (.a (.d .bool (a == b)))
        | some a, some b, some .bool, .neq => .one (.a (.d .bool (!(a == b))))
        | _, _, _, _ => .bad
end
section
variable {P : Program} {Y : Tys P} {E : Env} {ρ : Nat → Nat} {σ : TS E.T} {d : Option Tmp} {t t2 yt ty e : TypeId} {x y z : Operand} {pos : String} {af : Array Edge} {g : Option (Nat × Bool)}
theorem opv_beqlH {op : BinOp} {a b : Bool} {σ : AS} (hx : opV σ x = some (.v (.bool a))) (hy : opV σ y = some (.v (.bool b))) (hop : op = .eql) (h0 : look Y.ty t = some .bool) : OpV P ⟨d, .binOp op t x y yt, ty, pos, af, g⟩ σ (.v (.bool (a == b))) := by
  subst hop
  refine opv_same rfl fun F X ac hs => ⟨.bool (a == b), ?_, .v _⟩
  have h1 := opV_val hs (by simp [Op.operands]) hx
  have h2 := opV_val hs (by simp [Op.operands]) hy
  have h3 := run_eql_bool (P := P) X.w t a b (Y.tyOk _ _ h0)
  simp only [execOp, h1, h2]
  refine run_val ?_
  simp [eqGuard, h3, go_sem]
theorem opv_bneqH {op : BinOp} {a b : Bool} {σ : AS} (hx : opV σ x = some (.v (.bool a))) (hy : opV σ y = some (.v (.bool b))) (hop : op = .neq) (h0 : look Y.ty t = some .bool) : OpV P ⟨d, .binOp op t x y yt, ty, pos, af, g⟩ σ (.v (.bool (!(a == b)))) := by
  subst hop
  refine opv_same rfl fun F X ac hs => ⟨.bool (!(a == b)), ?_, .v _⟩
  have h1 := opV_val hs (by simp [Op.operands]) hx
  have h2 := opV_val hs (by simp [Op.operands]) hy
  have h4 := run_equal_bool (P := P) X.w t a b (Y.tyOk _ _ h0)
  have h3 : (binOp .neq t (.bool a) (.bool b)).run P X.w = .ok (.bool (!(a == b))) X.w := by simp [binOp, h4]
  simp only [execOp, h1, h2]
  refine run_val ?_
  simp [eqGuard, h3, go_sem]
theorem isU8 {k : IntKind} (h : ¬ notU8 k = true) : k = .u8 := by cases k <;> first | rfl | exact absurd rfl h
theorem u8C_some {q : Option Int} {b : UInt8} (h : q.bind u8C = some b) : ∃ r, q = some r ∧ ((UInt8.toNat b : Nat) : Int) = r := by
  cases q with
  | none => cases h
  | some r =>
    refine ⟨r, rfl, ?_⟩
    have h' : u8C r = some b := h
    unfold u8C at h'
    split at h'
    · rename_i h0
      cases h'
      simp
      omega
    · cases h'
theorem bits8 (op : BinOp) (hop : op = .and ∨ op = .or ∨ op = .xor) (a b : Int) : 0 ≤ bits op .u8 a b ∧ bits op .u8 a b < 256 := by
  rcases hop with rfl | rfl | rfl <;> exact wrap8 _
theorem binI_ok {op : BinOp} {k : IntKind} {a b : Int} (hx : opV (σ.to E.toEnc ρ) x = some (.v (.int k a))) (hy : opV (σ.to E.toEnc ρ) y = some (.v (.int k b))) :
    (binI op k a b : PV E.T).ok fun u => OpV P ⟨d, .binOp op t x y yt, ty, pos, af, g⟩ (σ.to E.toEnc ρ) (u.to E.toEnc ρ) := by
  have nu : notU8 k = true → k ≠ .u8 := fun h e => by subst e; cases h
  cases op with
  | add => simp only [binI, PV.ok, mkI_wrap]; exact opv_bin hx hy rfl
  | sub => simp only [binI, PV.ok, mkI_wrap]; exact opv_bin hx hy rfl
  | mul => simp only [binI, PV.ok, mkI_wrap]; exact opv_bin hx hy rfl
  | quo =>
    intro z hz
    unfold quoC at hz
    split at hz
    · cases hz
    · rename_i hb; cases hz; rw [mkI_wrap]; exact opv_quo hx hy rfl hb
  | rem =>
    simp only [binI]
    split
    · rename_i hk
      intro z hz
      unfold remC at hz
      split at hz
      · cases hz
      · rename_i hb; cases hz; rw [mkI_to _ _ (fun h => absurd h (nu hk))]; exact opv_rem hx hy rfl hb
    · rename_i hk
      have hk' : k = .u8 := isU8 (by rw [hk]; intro h; cases h)
      subst hk'
      intro z hz
      obtain ⟨r, h1, h2⟩ := u8C_some hz
      unfold remC at h1
      split at h1
      · cases h1
      · rename_i hb
        cases h1
        have := opv_rem (P := P) (d := d) (t := t) (yt := yt) (ty := ty) (pos := pos) (af := af) (g := g) hx hy rfl hb
        rw [← h2] at this
        exact this
  | and => simp only [binI, PV.ok]; rw [mkI_to _ _ (fun h => by subst h; exact bits8 _ (.inl rfl) a b)]; exact opv_bin hx hy rfl
  | or => simp only [binI, PV.ok]; rw [mkI_to _ _ (fun h => by subst h; exact bits8 _ (.inr (.inl rfl)) a b)]; exact opv_bin hx hy rfl
  | xor => simp only [binI, PV.ok]; rw [mkI_to _ _ (fun h => by subst h; exact bits8 _ (.inr (.inr rfl)) a b)]; exact opv_bin hx hy rfl
  | eql => exact opv_bin hx hy rfl
  | neq => exact opv_bin hx hy rfl
  | lss => exact opv_bin hx hy rfl
  | leq => exact opv_bin hx hy rfl
  | gtr => exact opv_bin hx hy rfl
  | geq => exact opv_bin hx hy rfl
  | _ => trivial
theorem binS_ok {op : BinOp} {a b : List UInt8} (hx : opV (σ.to E.toEnc ρ) x = some (.v (.string (mkB a)))) (hy : opV (σ.to E.toEnc ρ) y = some (.v (.string (mkB b)))) :
    (binS op a b : PV E.T).ok fun u => OpV P ⟨d, .binOp op t x y yt, ty, pos, af, g⟩ (σ.to E.toEnc ρ) (u.to E.toEnc ρ) := by
  cases op with
  | add =>
    intro z hz
    unfold catC at hz
    split at hz
    · rename_i h; cases hz; exact opv_cat hx hy h
    · cases hz
  | eql => exact opv_str hx hy rfl
  | neq => exact opv_str hx hy rfl
  | lss => exact opv_str hx hy rfl
  | leq => exact opv_str hx hy rfl
  | gtr => exact opv_str hx hy rfl
  | geq => exact opv_str hx hy rfl
  | _ => trivial
end
end Go.Proofs.Ytgmlkhfjhogdbaa
