/- press.Pack, as a callee. -/
import Derived.Test.YtmoehipmpchofaaV9
import Derived.Test.YtmoehipmpchofaaHT
namespace Go.Proofs.Ytmoehipmpchofaa
open Go.RowKit P
set_option linter.unusedVariables false
def press_Pack (N : Nat) (s : List UInt8) : Option (List UInt8 × Int) := if s.length ≤ 140737488355328 then some ((packB s).1, ((packB s).2 : Nat)) else none
def press_Pack_u (r : List UInt8 × Int) : TV EE.T := .tu [.a (.d .str r.1), .a (.d (.int .i64) r.2)]
def press_Pack_h (N : Nat) : List (TV EE.T) → PV EE.T
  | [u0] => match argD .str u0 with
    | some x0 => .opt (press_Pack N x0) press_Pack_u
    | _ => .bad
  | _ => .bad
theorem press_Pack_hok (N : Nat) (us : List (TV EE.T)) : (press_Pack_h N us).ok fun u => ∀ ρ, ACalls Try.prog 21 (us.map (TV.to EE.toEnc ρ)) [] (fun out H => out = .ret (u.to EE.toEnc ρ) ∧ H = []) := by
  unfold press_Pack_h
  split
  · split
    · rename_i u0 x0 h0
      intro z hz ρ
      unfold press_Pack at hz
      split at hz
      · rename_i hl
        cases hz
        refine acalls_le (us' := [.a (.d .str x0)]) ?_ (pack_a x0 hl)
        exact ⟨argD_le h0 ρ, trivial⟩
      · cases hz
    · trivial
  · trivial
end Go.Proofs.Ytmoehipmpchofaa
