/- press.Unpack, and wire.Read of the empty text, as callees. -/
import Derived.Test.YtmoehipmpchofaaKB
import Derived.Test.YtmoehipmpchofaaPH
import Derived.Test.YtmoehipmpchofaaV5
namespace Go.Proofs.Ytmoehipmpchofaa
open Go.RowKit P
set_option linter.unusedVariables false
def press_Unpack (N : Nat) (s : List UInt8) (m : Int) : Option (List UInt8 × Int) := if s.length ≤ 140737488355328 ∧ -9223372036854775808 ≤ m ∧ m ≤ 9223372036854775807 then some ((unpackB s m).1, ((unpackB s m).2 : Nat)) else none
def press_Unpack_u (r : List UInt8 × Int) : TV EE.T := .tu [.a (.d .str r.1), .a (.d (.int .i64) r.2)]
def press_Unpack_h (N : Nat) : List (TV EE.T) → PV EE.T
  | [u0, u1] => match argD .str u0, argD (.int .i64) u1 with
    | some x0, some x1 => .opt (press_Unpack N x0 x1) press_Unpack_u
    | _, _ => .bad
  | _ => .bad
theorem press_Unpack_hok (N : Nat) (us : List (TV EE.T)) : (press_Unpack_h N us).ok fun u => ∀ ρ, ACalls Try.prog 42 (us.map (TV.to EE.toEnc ρ)) [] (fun out H => out = .ret (u.to EE.toEnc ρ) ∧ H = []) := by
  unfold press_Unpack_h
  split
  · split
    · rename_i u0 u1 x0 x1 h0 h1
      intro z hz ρ
      unfold press_Unpack at hz
      split at hz
      · rename_i hl
        cases hz
        refine acalls_le (us' := [.a (.d .str x0), .a (.d (.int .i64) x1)]) ?_ (unpack_a x0 x1 hl.1 hl.2)
        exact ⟨argD_le h0 ρ, argD_le h1 ρ, trivial⟩
      · cases hz
    · trivial
  · trivial
def wire_Read (N : Nat) (s : List UInt8) : Option (List VSeries × Int) := if s = [] then some ([], 0) else none
def wire_Read_u (r : List VSeries × Int) : TV EE.T := .tu [.a (.d (.sl (.nam 4)) r.1), .a (.d (.int .i64) r.2)]
def wire_Read_h (N : Nat) : List (TV EE.T) → PV EE.T
  | [u0] => match argD .str u0 with
    | some x0 => .opt (wire_Read N x0) wire_Read_u
    | _ => .bad
  | _ => .bad
theorem wire_Read_hok (N : Nat) (us : List (TV EE.T)) : (wire_Read_h N us).ok fun u => ∀ ρ, ACalls Try.prog 59 (us.map (TV.to EE.toEnc ρ)) [] (fun out H => out = .ret (u.to EE.toEnc ρ) ∧ H = []) := by
  unfold wire_Read_h
  split
  · split
    · rename_i u0 x0 h0
      intro z hz ρ
      unfold wire_Read at hz
      split at hz
      · rename_i hl
        cases hz
        subst hl
        refine acalls_le (us' := [.a (.d .str ([] : List UInt8))]) ?_ read_nil
        exact ⟨argD_le h0 ρ, trivial⟩
      · cases hz
    · trivial
  · trivial
end Go.Proofs.Ytmoehipmpchofaa
