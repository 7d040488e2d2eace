/- labels.IsName, as a callee. -/
import Derived.Test.YtgmlkhfjhogdbaaIN
import Derived.Test.YtgmlkhfjhogdbaaHT
namespace Go.Proofs.Ytgmlkhfjhogdbaa
open Go.RowKit P
set_option linter.unusedVariables false
/-- Is it a name? -/
def nmL : Nat → List UInt8 → Bool
  | _, [] => true
  | i, c :: r => nmC i c.toNat && nmL (i + 1) r
def isNameL (s : List UInt8) : Bool := nmL 0 s && decide (0 < s.length) && decide (s.length ≤ 40)
theorem nmAt_L (s : List UInt8) : ∀ (b i : Nat), s.length ≤ i + b → nmAt (mkB s) b i = nmL i (s.drop i)
  | 0, i, h => by rw [List.drop_of_length_le (by omega)]; rfl
  | b + 1, i, h => by
    by_cases hi : i < s.length
    · have h1 : i < (mkB s).size := by rw [size_mkB]; exact hi
      rw [List.drop_eq_getElem_cons hi]
      show (if h : i < (mkB s).size then nmC i ((mkB s)[i]'h).toNat && nmAt (mkB s) b (i + 1) else true) = (nmC i s[i].toNat && nmL (i + 1) (s.drop (i + 1)))
      rw [dif_pos h1, nmAt_L s b (i + 1) (by omega)]
      rfl
    · have h1 : ¬ i < (mkB s).size := by rw [size_mkB]; exact hi
      rw [nmAt_end h1, List.drop_of_length_le (by omega)]; rfl
theorem nmB_L (s : List UInt8) : nmB (mkB s) = isNameL s := by
  unfold nmB isNameL
  rw [nmAt_L s _ 0 (by rw [size_mkB]; omega), size_mkB]; rfl
def labels_IsName (N : Nat) (s : List UInt8) : Option Bool := if s.length < 140737488355328 then some (isNameL s) else none
theorem labels_IsName_a (s : List UInt8) (hs : s.length < 140737488355328) : ACalls Try.prog 48 [.v (.string (mkB s))] [] (fun out H => out = .ret (.v (.bool (isNameL s))) ∧ H = []) := by
  refine acalls_of_calls (vs := [.string (mkB s)]) ⟨_, Try.func48, by kernel_rfl, rfl⟩ fun w => ?_
  refine (isName_walk (mkB s) (by rw [size_mkB]; omega) w).mono fun e w' ⟨he, pos, hw⟩ => ⟨by rw [he, nmB_L], ?_⟩
  subst hw
  exact (Below.refl _ _).alloc (Nat.le_refl _) _
def labels_IsName_u (r : Bool) : TV EE.T := .a (.d .bool r)
def labels_IsName_h (N : Nat) : List (TV EE.T) → PV EE.T
  | [u0] => match argD .str u0 with
    | some x0 => .opt (labels_IsName N x0) labels_IsName_u
    | _ => .bad
  | _ => .bad
theorem labels_IsName_hok (N : Nat) (us : List (TV EE.T)) : (labels_IsName_h N us).ok fun u => ∀ ρ, ACalls Try.prog 48 (us.map (TV.to EE.toEnc ρ)) [] (fun out H => out = .ret (u.to EE.toEnc ρ) ∧ H = []) := by
  unfold labels_IsName_h
  split
  · split
    · rename_i u0 x0 h0
      intro z hz ρ
      unfold labels_IsName at hz
      split at hz
      · rename_i hl
        cases hz
        refine acalls_le (us' := [.a (.d .str x0)]) ?_ (labels_IsName_a x0 hl)
        exact ⟨argD_le h0 ρ, trivial⟩
      · cases hz
    · trivial
  · trivial
end Go.Proofs.Ytgmlkhfjhogdbaa
