-- slim: written by gen/slim.py from XPP.lean.tpl
/- Plain mathematics of packed texts: literal elements, copies. -/
import Derived.Test.YtmoehipmpchofaaP
namespace Go.Proofs.Ytmoehipmpchofaa.P
set_option linter.unusedSimpArgs false
set_option linter.unusedVariables false

def hdr (n : Nat) : List UInt8 := if n < 60 then [bt (4 * n)] else [240, bt n]
def litF : Nat → List UInt8 → List UInt8
  | 0, _ => []
  | f + 1, s => if s.length = 0 then [] else hdr ((s.take 256).length - 1) ++ s.take 256 ++ litF f (s.drop 256)
def litB (s : List UInt8) : List UInt8 := litF s.length s
theorem litF_fuel : ∀ (f g : Nat) (s : List UInt8), s.length ≤ f → s.length ≤ g → litF f s = litF g s := by
  intro f
  induction f with
  | zero =>
    intro g s hf hg
    cases g with
    | zero => rfl
    | succ g => simp only [litF]; rw [if_pos (by omega)]
  | succ f ih =>
    intro g s hf hg
    cases g with
    | zero => simp only [litF]; rw [if_pos (by omega)]
    | succ g =>
      simp only [litF]
      split
      · rfl
      · rw [ih g (s.drop 256) (by rw [List.length_drop]; omega) (by rw [List.length_drop]; omega)]
theorem litB_nil : litB [] = [] := rfl
theorem litB_step {s : List UInt8} (h : 0 < s.length) : litB s = hdr ((s.take 256).length - 1) ++ s.take 256 ++ litB (s.drop 256) := by
  unfold litB
  conv => lhs; rw [show s.length = (s.length - 1) + 1 by omega]; unfold litF
  rw [if_neg (by omega), litF_fuel (s.length - 1) (s.drop 256).length (s.drop 256) (by rw [List.length_drop]; omega) (Nat.le_refl _)]
theorem hdr_len (n : Nat) : 1 ≤ (hdr n).length ∧ (hdr n).length ≤ 2 := by unfold hdr; split <;> simp
theorem litB_len : ∀ (n : Nat) (s : List UInt8), s.length ≤ n → (litB s).length ≤ 3 * s.length := by
  intro n
  induction n with
  | zero => intro s h; rw [List.length_eq_zero_iff.1 (Nat.le_zero.1 h)]; simp [litB_nil]
  | succ n ih =>
    intro s h
    by_cases h0 : s.length = 0
    · rw [List.length_eq_zero_iff.1 h0]; simp [litB_nil]
    · rw [litB_step (by omega)]
      have h1 := (hdr_len ((s.take 256).length - 1)).2
      have h2 := ih (s.drop 256) (by rw [List.length_drop]; omega)
      simp only [List.length_append, List.length_take, List.length_drop] at h1 h2 ⊢
      omega
theorem litB_len3 (s : List UInt8) : (litB s).length ≤ 3 * s.length := litB_len s.length s (Nat.le_refl _)

/-- How many bytes the next copy has. -/
def chunk (many : Nat) : Nat := if 64 < many ∧ many < 68 then 60 else min many 64
/-- The element of a copy. -/
def elemB (back n : Nat) : List UInt8 := if 4 ≤ n ∧ n < 12 ∧ back < 2048 then [bt (back / 256 * 32 + (n - 4) * 4 + 1), bt (back % 256)] else [bt ((n - 1) * 4 + 2), bt (back % 256), bt (back / 256 % 256)]
def againF : Nat → Nat → Nat → List UInt8
  | 0, _, _ => []
  | f + 1, back, many => if many = 0 then [] else elemB back (chunk many) ++ againF f back (many - chunk many)
def againB (back many : Nat) : List UInt8 := againF many back many
theorem chunk_pos {many : Nat} (h : 0 < many) : 1 ≤ chunk many ∧ chunk many ≤ many ∧ chunk many ≤ 64 := by unfold chunk; split <;> omega
theorem againF_fuel : ∀ (f g back many : Nat), many ≤ f → many ≤ g → againF f back many = againF g back many := by
  intro f
  induction f with
  | zero =>
    intro g back many hf hg
    cases g with
    | zero => rfl
    | succ g => simp only [againF]; rw [if_pos (by omega)]
  | succ f ih =>
    intro g back many hf hg
    cases g with
    | zero => simp only [againF]; rw [if_pos (by omega)]
    | succ g =>
      simp only [againF]
      split
      · rfl
      · rename_i h
        have := chunk_pos (many := many) (by omega)
        rw [ih g back (many - chunk many) (by omega) (by omega)]
theorem againB_zero (back : Nat) : againB back 0 = [] := rfl
theorem againB_step (back : Nat) {many : Nat} (h : 0 < many) : againB back many = elemB back (chunk many) ++ againB back (many - chunk many) := by
  unfold againB
  have hc := chunk_pos h
  conv => lhs; rw [show many = (many - 1) + 1 by omega]; unfold againF
  rw [if_neg (by omega), show many - 1 + 1 = many by omega, againF_fuel (many - 1) (many - chunk many) back (many - chunk many) (by omega) (Nat.le_refl _)]
theorem elemB_len (back n : Nat) : 2 ≤ (elemB back n).length ∧ (elemB back n).length ≤ 3 := by unfold elemB; split <;> simp
theorem againB_len : ∀ (n back many : Nat), many ≤ n → (againB back many).length ≤ 3 * many := by
  intro n
  induction n with
  | zero => intro back many h; rw [Nat.le_zero.1 h]; simp [againB_zero]
  | succ n ih =>
    intro back many h
    by_cases h0 : many = 0
    · subst h0; simp [againB_zero]
    · rw [againB_step back (by omega)]
      have h1 := (elemB_len back (chunk many)).2
      have hc := chunk_pos (many := many) (by omega)
      have h2 := ih back (many - chunk many) (by omega)
      simp only [List.length_append] at h1 h2 ⊢
      omega
theorem againB_len3 (back many : Nat) : (againB back many).length ≤ 3 * many := againB_len many back many (Nat.le_refl _)

end Go.Proofs.Ytmoehipmpchofaa.P
