/- What the laws of take begin with, as a callee. -/
import Derived.Test.YtmoehipmpchofaaKD
namespace Go.Proofs.Ytmoehipmpchofaa
open Go.RowKit P
set_option linter.unusedVariables false
def law_takeBegun (N : Nat) : Option Bool := some true
def law_takeBegun_u (r : Bool) : TV EE.T := .a (.d .bool r)
def law_takeBegun_h (N : Nat) : List (TV EE.T) → PV EE.T
  | [] => .opt (law_takeBegun N) law_takeBegun_u
  | _ => .bad
theorem law_takeBegun_hok (N : Nat) (us : List (TV EE.T)) : (law_takeBegun_h N us).ok fun u => ∀ ρ, ACalls Try.prog 8 (us.map (TV.to EE.toEnc ρ)) [] (fun out H => out = .ret (u.to EE.toEnc ρ) ∧ H = []) := by
  unfold law_takeBegun_h
  split
  · intro z hz ρ
    cases hz
    exact begun_a ρ
  · trivial
end Go.Proofs.Ytmoehipmpchofaa
