-- slim: written by gen/slim.py from XEU.lean.tpl
/- Small laws for plain functions: fuel enough, indices, loops over lists. -/
import Derived.Test.YtgidmcfnnmheoaaHT
namespace Go.Proofs.Ytgidmcfnnmheoaa
open Go.RowKit P
set_option linter.unusedVariables false
set_option linter.unusedSimpArgs false

/-- With fuel enough. -/
def Ev {α : Type} (f : Nat → Option α) (v : α) : Prop := ∃ N0, ∀ N, N0 ≤ N → f N = some v
theorem Ev.mk {α : Type} {f : Nat → Option α} {v : α} (h : ∀ N, f N = some v) : Ev f v := ⟨0, fun N _ => h N⟩
theorem Ev.bind {α β : Type} {a : Nat → Option α} {k : Nat → α → Option β} {x : α} {v : β} (h1 : Ev a x) (h2 : Ev (fun N => k N x) v) : Ev (fun N => (a N).bind (k N)) v := by
  obtain ⟨N1, h1⟩ := h1
  obtain ⟨N2, h2⟩ := h2
  exact ⟨max N1 N2, fun N hN => by simp only [h1 N (by omega), Option.bind_some]; exact h2 N (by omega)⟩
theorem Ev.one {α : Type} {f : Nat → Option α} {v : α} (h : Ev f v) : ∃ N, f N = some v := let ⟨N, h⟩ := h; ⟨N, h N (Nat.le_refl _)⟩

/-! ### Lists and numbers -/
theorem idxC_cat {α : Type} (p : List α) (z : α) (r : List α) : idxC (p ++ z :: r) (p.length : Int) = some z := by
  unfold idxC
  rw [if_pos (by omega)]
  simp
theorem w64_id {n : Int} (h1 : -9223372036854775808 ≤ n) (h2 : n < 9223372036854775808) : w64 n = n := by
  unfold w64
  rw [IntKind.wrap_i64]; omega
theorem w64_next {α : Type} (p : List α) (z : α) (h : p.length + 1 < 9223372036854775808) : w64 ((p.length : Int) + 1) = ((p ++ [z]).length : Int) := by
  rw [w64_id (by omega) (by omega)]; simp
theorem cat_next {α : Type} (p : List α) (z : α) (r : List α) : p ++ z :: r = (p ++ [z]) ++ r := by simp
theorem lt_cat {α : Type} (p : List α) (z : α) (r : List α) : decide ((p.length : Int) < ((p ++ z :: r).length : Int)) = true := by
  simp; omega
theorem lt_end {α : Type} (p : List α) : decide ((p.length : Int) < ((p ++ ([] : List α)).length : Int)) = false := by simp
theorem subC_take {α : Type} {l : List α} {i : Nat} (h : i ≤ l.length) : subC l 0 (i : Int) = some (l.take i) := by
  unfold subC
  rw [if_pos (by omega)]
  simp
theorem remC_room {a k : Int} (ha : 0 ≤ a) (hk : 0 < k) : ∃ z, remC a k = some z ∧ 0 ≤ z ∧ z < k := by
  unfold remC
  rw [if_neg (by omega)]
  refine ⟨_, rfl, ?_, ?_⟩
  · rw [Int.tmod_eq_emod_of_nonneg ha]; exact Int.emod_nonneg _ (by omega)
  · rw [Int.tmod_eq_emod_of_nonneg ha]; exact Int.emod_lt_of_pos _ hk
end Go.Proofs.Ytgidmcfnnmheoaa
