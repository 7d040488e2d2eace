/- Plain mathematics of unpacking: elements, one after the other. -/
import Derived.Test.YtmoehipmpchofaaPP
namespace Go.Proofs.Ytmoehipmpchofaa.P
set_option linter.unusedSimpArgs false
set_option linter.unusedVariables false

/-- Bytes, the least first, as a number. -/
def leN : List UInt8 → Nat
  | [] => 0
  | c :: r => c.toNat + 256 * leN r
theorem leN_append : ∀ (a b : List UInt8), leN (a ++ b) = leN a + 256 ^ a.length * leN b := by
  intro a
  induction a with
  | nil => intro b; simp [leN]
  | cons c a ih =>
    intro b
    simp only [List.cons_append, leN, ih, List.length_cons]
    rw [Nat.pow_succ, Nat.mul_add, Nat.mul_comm (256 ^ a.length) 256, Nat.mul_assoc]
    omega
theorem leN_lt : ∀ (a : List UInt8), leN a < 256 ^ a.length := by
  intro a
  induction a with
  | nil => simp [leN]
  | cons c a ih =>
    simp only [leN, List.length_cons, Nat.pow_succ]
    have := c.toNat_lt
    omega

/-- A copy of n bytes, from back bytes before the end on, each byte by itself. -/
def copyB (back : Nat) : Nat → List UInt8 → List UInt8
  | 0, o => o
  | n + 1, o => copyB back n (o ++ [o.getD (o.length - back) 0])
theorem copyB_len (back : Nat) : ∀ (n : Nat) (o : List UInt8), (copyB back n o).length = o.length + n := by
  intro n
  induction n with
  | zero => intro o; rfl
  | succ n ih => intro o; simp only [copyB, ih, List.length_append, List.length_cons, List.length_nil]; omega

/-- What a copy does with what has been unpacked: nothing, if it may not be. -/
def copyE (n back most : Nat) (r o : List UInt8) : Option (List UInt8 × List UInt8) :=
  if back < 1 ∨ o.length < back ∨ most < o.length + n then none else some (r, copyB back n o)
/-- A literal of n + 1 bytes. -/
def litE (n most : Nat) (r o : List UInt8) : Option (List UInt8 × List UInt8) :=
  if r.length < n + 1 ∨ most < o.length + (n + 1) then none else some (r.drop (n + 1), o ++ r.take (n + 1))
/-- The element that begins with the byte c, and goes on with r: what stands behind it, and what is unpacked with it. -/
def elemE (c : Nat) (r o : List UInt8) (most : Nat) : Option (List UInt8 × List UInt8) :=
  if c % 4 = 0 then
    if c / 4 < 60 then litE (c / 4) most r o
    else if r.length < c / 4 - 59 then none else litE (leN (r.take (c / 4 - 59))) most (r.drop (c / 4 - 59)) o
  else if c % 4 = 1 then
    if r.length < 1 then none else copyE (c / 4 % 8 + 4) (c / 4 / 8 * 256 + leN (r.take 1)) most (r.drop 1) o
  else if c % 4 = 2 then
    if r.length < 2 then none else copyE (c / 4 + 1) (leN (r.take 2)) most (r.drop 2) o
  else
    if r.length < 4 then none else copyE (c / 4 + 1) (leN (r.take 4)) most (r.drop 4) o
theorem elemE_less {c : Nat} {r o r' o' : List UInt8} {most : Nat} (h : elemE c r o most = some (r', o')) : r'.length ≤ r.length ∧ o'.length ≤ most ∧ o.length ≤ o'.length := by
  unfold elemE litE copyE at h
  repeat' split at h
  all_goals first | (cases h; done) | (injection h with h; injection h with h1 h2; subst h1 h2; simp only [copyB_len, List.length_drop, List.length_append, List.length_take]; omega)

def elemsF : Nat → List UInt8 → List UInt8 → Nat → Option (List UInt8)
  | 0, s, o, _ => if s.length = 0 then some o else none
  | f + 1, s, o, most => match s with
    | [] => some o
    | c :: r => match elemE c.toNat r o most with
      | none => none
      | some (r', o') => elemsF f r' o' most
/-- All elements. -/
def elems (s o : List UInt8) (most : Nat) : Option (List UInt8) := elemsF s.length s o most
theorem elemsF_fuel : ∀ (f g : Nat) (s o : List UInt8) (most : Nat), s.length ≤ f → s.length ≤ g → elemsF f s o most = elemsF g s o most := by
  intro f
  induction f with
  | zero =>
    intro g s o most hf hg
    have : s = [] := List.length_eq_zero_iff.1 (Nat.le_zero.1 hf)
    subst this
    cases g <;> simp [elemsF]
  | succ f ih =>
    intro g s o most hf hg
    cases s with
    | nil => cases g <;> simp [elemsF]
    | cons c r =>
      cases g with
      | zero => simp at hg
      | succ g =>
        simp only [elemsF]
        split
        · rfl
        · rename_i r' o' h
          have := (elemE_less h).1
          simp only [List.length_cons] at hf hg
          exact ih g r' o' most (by omega) (by omega)
theorem elems_nil (o : List UInt8) (most : Nat) : elems [] o most = some o := by simp [elems, elemsF]
theorem elems_none {c : UInt8} {r o : List UInt8} {most : Nat} (h : elemE c.toNat r o most = none) : elems (c :: r) o most = none := by
  simp only [elems, List.length_cons, elemsF, h]
theorem elems_some {c : UInt8} {r o r' o' : List UInt8} {most : Nat} (h : elemE c.toNat r o most = some (r', o')) : elems (c :: r) o most = elems r' o' most := by
  simp only [elems, List.length_cons, elemsF, h]
  have := (elemE_less h).1
  exact elemsF_fuel _ _ _ _ _ this (Nat.le_refl _)

end Go.Proofs.Ytmoehipmpchofaa.P
