-- slim: written by gen/slim.py from XPK.lean.tpl
/- Plain mathematics of packing a text. -/
import Derived.Test.YtmoehipmpchofaaPP
import Derived.Test.YtmoehipmpchofaaPV
namespace Go.Proofs.Ytmoehipmpchofaa.P
set_option linter.unusedSimpArgs false
set_option linter.unusedVariables false

def aget : List (List UInt8 × Nat) → List UInt8 → Option Nat
  | [], _ => none
  | (k', n) :: r, k => if k = k' then some n else aget r k
def aset : List (List UInt8 × Nat) → List UInt8 → Nat → List (List UInt8 × Nat)
  | [], k, n => [(k, n)]
  | (k', n') :: r, k, n => if k = k' then (k, n) :: r else (k', n') :: aset r k n
theorem aget_mem : ∀ {l : List (List UInt8 × Nat)} {k : List UInt8} {n : Nat}, aget l k = some n → (k, n) ∈ l
  | [], _, _, h => by cases h
  | (k', n') :: r, k, n, h => by
    simp only [aget] at h
    split at h
    · rename_i e; subst e; cases h; exact List.mem_cons_self
    · exact List.mem_cons_of_mem _ (aget_mem h)
theorem aset_mem : ∀ {l : List (List UInt8 × Nat)} {k : List UInt8} {n : Nat} {p : List UInt8 × Nat}, p ∈ aset l k n → p = (k, n) ∨ p ∈ l
  | [], k, n, p, h => by simp only [aset, List.mem_singleton] at h; exact .inl h
  | (k', n') :: r, k, n, p, h => by
    simp only [aset] at h
    split at h
    · rcases List.mem_cons.1 h with h | h
      · exact .inl h
      · exact .inr (List.mem_cons_of_mem _ h)
    · rcases List.mem_cons.1 h with h | h
      · exact .inr (by rw [h]; exact List.mem_cons_self)
      · rcases aset_mem h with h | h
        · exact .inl h
        · exact .inr (List.mem_cons_of_mem _ h)

/-- How far the bytes from k on and from a on are the same, n of them being so. -/
def extF : Nat → List UInt8 → Nat → Nat → Nat → Nat
  | 0, _, _, _, n => n
  | f + 1, s, k, a, n => if a + n < s.length ∧ s.getD (k + n) 0 = s.getD (a + n) 0 then extF f s k a (n + 1) else n
theorem extF_fuel : ∀ (f g : Nat) (s : List UInt8) (k a n : Nat), s.length ≤ f + (a + n) → s.length ≤ g + (a + n) → extF f s k a n = extF g s k a n := by
  intro f
  induction f with
  | zero =>
    intro g s k a n hf hg
    cases g with
    | zero => rfl
    | succ g => simp only [extF]; rw [if_neg (by omega)]
  | succ f ih =>
    intro g s k a n hf hg
    cases g with
    | zero => simp only [extF]; rw [if_neg (by omega)]
    | succ g =>
      simp only [extF]
      split
      · exact ih g s k a (n + 1) (by omega) (by omega)
      · rfl
def ext (s : List UInt8) (k a n : Nat) : Nat := extF s.length s k a n
theorem ext_more {s : List UInt8} {k a n : Nat} (h1 : a + n < s.length) (h2 : s.getD (k + n) 0 = s.getD (a + n) 0) : ext s k a n = ext s k a (n + 1) := by
  unfold ext
  obtain ⟨m, hm⟩ : ∃ m, s.length = m + 1 := ⟨s.length - 1, by omega⟩
  rw [extF_fuel s.length (m + 1) s k a n (by omega) (by omega)]
  conv => lhs; unfold extF
  rw [if_pos ⟨h1, h2⟩]
  exact extF_fuel _ _ _ _ _ _ (by omega) (by omega)
theorem ext_done {s : List UInt8} {k a n : Nat} (h : ¬ (a + n < s.length ∧ s.getD (k + n) 0 = s.getD (a + n) 0)) : ext s k a n = n := by
  unfold ext
  cases hl : s.length with
  | zero => rfl
  | succ m =>
    unfold extF
    rw [if_neg h]

/-- The four bytes from a on. -/
def key4 (s : List UInt8) (a : Nat) : List UInt8 := (s.take (a + 4)).drop a
def packF : Nat → List UInt8 → List (List UInt8 × Nat) → Nat → Nat → List UInt8 → List UInt8
  | 0, s, _, fr, _, b => b ++ litB (s.drop fr)
  | f + 1, s, l, fr, a, b => if s.length < a + 4 then b ++ litB (s.drop fr) else
    match aget l (key4 s a) with
    | none => packF f s (aset l (key4 s a) a) fr (a + 1) b
    | some k => packF f s (aset l (key4 s a) a) (a + ext s k a 4) (a + ext s k a 4) (b ++ litB ((s.take a).drop fr) ++ againB (a - k) (ext s k a 4))
theorem extF_ge : ∀ (f : Nat) (s : List UInt8) (k a n : Nat), n ≤ extF f s k a n ∧ (a + n ≤ s.length → a + extF f s k a n ≤ s.length) := by
  intro f
  induction f with
  | zero => intro s k a n; exact ⟨Nat.le_refl _, id⟩
  | succ f ih =>
    intro s k a n
    simp only [extF]
    split
    · rename_i h
      have := ih s k a (n + 1)
      exact ⟨by omega, fun _ => this.2 (by omega)⟩
    · exact ⟨Nat.le_refl _, id⟩
theorem ext_ge (s : List UInt8) (k a n : Nat) : n ≤ ext s k a n := (extF_ge _ _ _ _ _).1
theorem packF_fuel : ∀ (f g : Nat) (s : List UInt8) (l : List (List UInt8 × Nat)) (fr a : Nat) (b : List UInt8), s.length ≤ f + a → s.length ≤ g + a → packF f s l fr a b = packF g s l fr a b := by
  intro f
  induction f with
  | zero =>
    intro g s l fr a b hf hg
    cases g with
    | zero => rfl
    | succ g => simp only [packF]; rw [if_pos (by omega)]
  | succ f ih =>
    intro g s l fr a b hf hg
    cases g with
    | zero => simp only [packF]; rw [if_pos (by omega)]
    | succ g =>
      simp only [packF]
      split
      · rfl
      · rename_i h
        have he := fun k => ext_ge s k a 4
        cases aget l (key4 s a) with
        | none => exact ih g _ _ _ _ _ (by omega) (by omega)
        | some k => have := he k; exact ih g _ _ _ _ _ (by omega) (by omega)
/-- What is packed from here on. -/
def packR (s : List UInt8) (l : List (List UInt8 × Nat)) (fr a : Nat) (b : List UInt8) : List UInt8 := packF s.length s l fr a b
theorem packR_done {s : List UInt8} {l : List (List UInt8 × Nat)} {fr a : Nat} {b : List UInt8} (h : s.length < a + 4) : packR s l fr a b = b ++ litB (s.drop fr) := by
  unfold packR
  cases hl : s.length with
  | zero => rfl
  | succ m => simp only [packF]; rw [if_pos h]
theorem packR_miss {s : List UInt8} {l : List (List UInt8 × Nat)} {fr a : Nat} {b : List UInt8} (h : ¬ s.length < a + 4) (hg : aget l (key4 s a) = none) : packR s l fr a b = packR s (aset l (key4 s a) a) fr (a + 1) b := by
  unfold packR
  obtain ⟨m, hm⟩ : ∃ m, s.length = m + 1 := ⟨s.length - 1, by omega⟩
  rw [packF_fuel s.length (m + 1) _ _ _ _ _ (by omega) (by omega)]
  conv => lhs; unfold packF
  rw [if_neg h, hg]
  exact packF_fuel _ _ _ _ _ _ _ (by omega) (by omega)
theorem packR_hit {s : List UInt8} {l : List (List UInt8 × Nat)} {fr a k : Nat} {b : List UInt8} (h : ¬ s.length < a + 4) (hg : aget l (key4 s a) = some k) : packR s l fr a b = packR s (aset l (key4 s a) a) (a + ext s k a 4) (a + ext s k a 4) (b ++ litB ((s.take a).drop fr) ++ againB (a - k) (ext s k a 4)) := by
  unfold packR
  obtain ⟨m, hm⟩ : ∃ m, s.length = m + 1 := ⟨s.length - 1, by omega⟩
  rw [packF_fuel s.length (m + 1) _ _ _ _ _ (by omega) (by omega)]
  conv => lhs; unfold packF
  rw [if_neg h, hg]
  have := ext_ge s k a 4
  exact packF_fuel _ _ _ _ _ _ _ (by omega) (by omega)
/-- A packed text. -/
def packB (s : List UInt8) : List UInt8 × Nat := if 20000 < s.length then ([], 2) else (packR s [] 0 0 (num s.length), 0)
end Go.Proofs.Ytmoehipmpchofaa.P
