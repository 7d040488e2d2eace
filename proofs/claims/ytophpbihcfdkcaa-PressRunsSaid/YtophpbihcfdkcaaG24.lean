/- The layer of abstract values: an operation, reckoned: what it yields, and what must hold for it. -/
import Derived.Test.YtophpbihcfdkcaaG23
namespace Go.Proofs.Ytophpbihcfdkcaa
open Go.RowKit P
set_option linter.unusedSimpArgs false
set_option linter.unusedVariables false
section
variable {P : Program} {T : Tys P} {σ : AS} {d : Option Tmp} {t yt ty e : TypeId} {x y z : Operand} {pos : String} {af : Array Edge} {g : Option (Nat × Bool)}

/-- Arithmetic that stays where it is. -/
def arithE (op : BinOp) (k : IntKind) (a b : Int) : Option (AV × Prop) :=
  match op, k with
  | .add, .i64 => some (.v (.int .i64 (a + b)), -9223372036854775808 ≤ a + b ∧ a + b ≤ 9223372036854775807)
  | .sub, .i64 => some (.v (.int .i64 (a - b)), -9223372036854775808 ≤ a - b ∧ a - b ≤ 9223372036854775807)
  | .mul, .i64 => some (.v (.int .i64 (a * b)), -9223372036854775808 ≤ a * b ∧ a * b ≤ 9223372036854775807)
  | .add, .u64 => some (.v (.int .u64 (a + b)), 0 ≤ a + b ∧ a + b ≤ 18446744073709551615)
  | .sub, .u64 => some (.v (.int .u64 (a - b)), 0 ≤ a - b ∧ a - b ≤ 18446744073709551615)
  | .mul, .u64 => some (.v (.int .u64 (a * b)), 0 ≤ a * b ∧ a * b ≤ 18446744073709551615)
  | .quo, .i64 => some (.v (.int .i64 (a / b)), 0 ≤ a ∧ a ≤ 9223372036854775807 ∧ 0 < b)
  | .quo, .u64 => some (.v (.int .u64 (a / b)), 0 ≤ a ∧ a ≤ 18446744073709551615 ∧ 0 < b)
  | .rem, k => some (.v (.int k (a % b)), 0 ≤ a ∧ 0 < b)
  | _, _ => none
theorem arithE_ok {op : BinOp} {k : IntKind} {a b : Int} {u : AV} {S : Prop} (hx : opV σ x = some (.v (.int k a))) (hy : opV σ y = some (.v (.int k b))) (h : arithE op k a b = some (u, S)) (hS : S) : OpV P ⟨d, .binOp op t x y yt, ty, pos, af, g⟩ σ u := by
  have w64 : ∀ n : Int, -9223372036854775808 ≤ n ∧ n ≤ 9223372036854775807 → IntKind.i64.wrap n = n := fun n hn => by rw [IntKind.wrap_i64]; omega
  have wu : ∀ n : Int, 0 ≤ n ∧ n ≤ 18446744073709551615 → IntKind.u64.wrap n = n := fun n hn => by rw [IntKind.wrap_u64]; omega
  unfold arithE at h
  split at h
  · cases h; exact opv_add64 hx hy rfl hS
  · cases h; exact opv_sub64 hx hy rfl hS
  · cases h; exact opv_mul64 hx hy rfl hS
  · cases h; exact opv_bin hx hy (by simp only [arV]; rw [wu _ hS])
  · cases h; exact opv_bin hx hy (by simp only [arV]; rw [wu _ hS])
  · cases h; exact opv_bin hx hy (by simp only [arV]; rw [wu _ hS])
  · cases h; exact opv_quo_nn hx hy rfl (.inl rfl) hS
  · cases h; exact opv_quo_u hx hy rfl hS
  · cases h; exact opv_rem_nn hx hy rfl hS
  · cases h
/-- Shifts by a literal. -/
def powT (b : Int) : Option Int := if b = 1 then some 2 else if b = 2 then some 4 else if b = 3 then some 8 else if b = 4 then some 16 else if b = 5 then some 32 else if b = 6 then some 64 else if b = 7 then some 128 else if b = 8 then some 256 else if b = 16 then some 65536 else if b = 24 then some 16777216 else if b = 32 then some 4294967296 else none
theorem powT_ok {b c : Int} (h : powT b = some c) : 0 ≤ b ∧ b ≤ 32 ∧ (2 : Int) ^ b.toNat = c ∧ 0 < c := by
  unfold powT at h
  repeat' split at h
  all_goals first | (cases h; done) | (rename_i hb; cases h; subst hb; decide)
theorem shl_ok {yk : IntKind} {a b c : Int} (hx : opV σ x = some (.v (.int .i64 a))) (hy : opV σ y = some (.v (.int yk b))) (hc : powT b = some c) (h : -9223372036854775808 ≤ a * c ∧ a * c ≤ 9223372036854775807) : OpV P ⟨d, .binOp .shl t x y yt, ty, pos, af, g⟩ σ (.v (.int .i64 (a * c))) := by
  obtain ⟨h0, h1, h2, h3⟩ := powT_ok hc
  refine opv_shl_mul c hx hy rfl h0 ?_ h
  have hm : min b.toNat IntKind.i64.bits = b.toNat := by simp [IntKind.bits]; omega
  rw [hm]; exact h2
theorem shr_ok {k yk : IntKind} {a b c : Int} (hx : opV σ x = some (.v (.int k a))) (hy : opV σ y = some (.v (.int yk b))) (hc : powT b = some c) (hk : k = .i64 ∨ k = .u64) : OpV P ⟨d, .binOp .shr t x y yt, ty, pos, af, g⟩ σ (.v (.int k (a / c))) := by
  obtain ⟨h0, h1, h2, h3⟩ := powT_ok hc
  refine opv_shr_div c hx hy rfl h0 ?_ h3
  have hm : min b.toNat k.bits = b.toNat := by rcases hk with rfl | rfl <;> (simp [IntKind.bits]; omega)
  rw [hm]; exact h2
def bndE (σ : AS) (q : Option Operand) (z : Int) : Option Int :=
  match q with
  | none => some z
  | some q => match opV σ q with
    | some (.v (.int .i64 i)) => some i
    | _ => none
theorem bndE_ok {q : Option Operand} {i z : Int} (h : bndE σ q z = some i) : optIs σ q .i64 i z := by
  unfold bndE at h
  cases q with
  | none => simp only [Option.some.injEq] at h; exact h.symm
  | some q =>
    simp only at h
    split at h
    · rename_i j hj; cases h; exact hj
    · cases h
/-- What an operation yields, and what must hold. -/
def evalE (T : Tys P) (σ : AS) (op : Op) : Option (AV × Prop) :=
  match op with
  | .move x => match opV σ x with
    | some u => if u.isSl then none else some (u, True)
    | none => none
  | .assign x => match opV σ x with
    | some u => if u.isSl then none else some (u, True)
    | none => none
  | .binOp .shl t x y _ => match opV σ x, opV σ y with
    | some (.v (.int .i64 a)), some (.v (.int _ b)) => match powT b with
      | some c => some (.v (.int .i64 (a * c)), -9223372036854775808 ≤ a * c ∧ a * c ≤ 9223372036854775807)
      | none => none
    | _, _ => none
  | .binOp .shr t x y _ => match opV σ x, opV σ y with
    | some (.v (.int .i64 a)), some (.v (.int _ b)) => match powT b with
      | some c => some (.v (.int .i64 (a / c)), True)
      | none => none
    | some (.v (.int .u64 a)), some (.v (.int _ b)) => match powT b with
      | some c => some (.v (.int .u64 (a / c)), True)
      | none => none
    | _, _ => none
  | .binOp op t x y _ => match opV σ x, opV σ y with
    | some (.v (.int .i64 a)), some (.v (.int .i64 b)) => arithE op .i64 a b
    | some (.v (.int .u64 a)), some (.v (.int .u64 b)) => arithE op .u64 a b
    | some (.v (.string a)), some (.v (.string b)) => match op with
      | .add => some (.v (.string (mkB (bsOf a ++ bsOf b))), (bsOf a).length + (bsOf b).length ≤ 9223372036854775807)
      | _ => none
    | _, _ => none
  | .unOp .not _ x => match opV σ x with
    | some (.v (.bool b)) => some (.v (.bool (!b)), True)
    | _ => none
  | .extract x i => match opV σ x with
    | some (.tu us) => match us[i]? with
      | some u => some (u.rd, True)
      | none => none
    | _ => none
  | .index t x y => match look T.ty t, opV σ x, opV σ y with
    | some .string, some (.v (.string s)), some (.v (.int k i)) => some (.v (.int .u8 ((bsOf s).getD i.toNat 0).toNat), 0 ≤ i ∧ i < (bsOf s).length)
    | _, _, _ => none
  | .slice t x lo hi none => match look T.ty t, opV σ x with
    | some .string, some (.v (.string s)) => match bndE σ lo 0, bndE σ hi (bsOf s).length with
      | some i, some j => some (.v (.string (mkB (((bsOf s).take j.toNat).drop i.toNat))), 0 ≤ i ∧ i ≤ j ∧ j ≤ (bsOf s).length)
      | _, _ => none
    | some (.slice e), some (.sl o sz l) => match look T.sz e with
      | some (sz', by_) => match Nat.beq sz' sz, bndE σ lo 0, bndE σ hi l.length with
        | true, some i, some j => some (.sl false sz ((l.take j.toNat).drop i.toNat), 0 ≤ i ∧ i ≤ j ∧ j ≤ l.length)
        | _, _, _ => none
      | none => none
    | _, _ => none
  | .nilCheck x => match opV σ x with
    | some (.v (.pointer (some a))) => some (.v (.pointer (some a)), True)
    | some (.el cs) => some (.el cs, True)
    | _ => none
  | .makeFunc (.func f) bound caps => if bound.size = 0 then (match opVs σ caps.toList with
    | some us => some (.fn f us, True)
    | none => none) else none
  | _ => none
theorem evalE_ok {o : Oper} {u : AV} {S : Prop} (h : evalE T σ o.op = some (u, S)) (hS : S) : OpV P o σ u := by
  obtain ⟨d, op, ty, pos, af, g⟩ := o
  simp only at h
  unfold evalE at h
  split at h
  · split at h
    · rename_i u0 hu
      split at h
      · cases h
      · rename_i hs; cases h; exact opv_move hu (by simpa using hs)
    · cases h
  · split at h
    · rename_i u0 hu
      split at h
      · cases h
      · rename_i hs; cases h; exact opv_assign hu (by simpa using hs)
    · cases h
  · split at h
    · rename_i h1 h2
      split at h
      · rename_i c hc; cases h; exact shl_ok h1 h2 hc hS
      · cases h
    · cases h
  · split at h
    · rename_i h1 h2
      split at h
      · rename_i c hc; cases h; exact shr_ok h1 h2 hc (.inl rfl)
      · cases h
    · rename_i h1 h2
      split at h
      · rename_i c hc; cases h; exact shr_ok h1 h2 hc (.inr rfl)
      · cases h
    · cases h
  · split at h
    · rename_i h1 h2; exact arithE_ok h1 h2 h hS
    · rename_i h1 h2; exact arithE_ok h1 h2 h hS
    · rename_i h1 h2
      split at h
      · cases h; exact opv_cat h1 h2 hS
      · cases h
    · cases h
  · split at h
    · rename_i b hb; cases h; exact opv_not hb rfl
    · cases h
  · split at h
    · rename_i us hu
      split at h
      · rename_i u0 hu0; cases h; exact opv_extract hu hu0
      · cases h
    · cases h
  · split at h
    · rename_i h0 h1 h2; cases h; exact opv_index_str (T := T) h1 h2 h0 hS.1 hS.2
    · cases h
  · split at h
    · rename_i h0 h1
      split at h
      · rename_i i j hi hj; cases h; exact opv_slice_str (T := T) (k1 := .i64) (k2 := .i64) h1 h0 (bndE_ok hi) (bndE_ok hj) hS.1 hS.2.1 hS.2.2
      · cases h
    · rename_i h0 h1
      split at h
      · rename_i sz' by_ hsz
        split at h
        · rename_i i j hb hi hj
          cases h
          have := Nat.eq_of_beq_eq_true hb
          subst this
          exact opv_slice_sl (T := T) (k1 := .i64) (k2 := .i64) h1 h0 hsz (bndE_ok hi) (bndE_ok hj) hS.1 hS.2.1 hS.2.2
        · cases h
      · cases h
    · cases h
  · split at h
    · rename_i a ha; cases h; exact opv_nil ha
    · rename_i cs hc; cases h; exact opv_nil_el hc
    · cases h
  · split at h
    · rename_i f bound caps hb
      split at h
      · rename_i us hu
        cases h
        have : bound = #[] := Array.eq_empty_of_size_eq_zero hb
        subst this
        exact opv_mkfunc hu
      · cases h
    · cases h
  · cases h
end
end Go.Proofs.Ytophpbihcfdkcaa
