-- slim: written by gen/slim.py from XNR.lean.tpl
/- The wire's numbers, the program's and the reference's, as callees. -/
import Derived.Test.YtgmbgbalcndohaaVB
import Derived.Test.YtgmbgbalcndohaaHT
namespace Go.Proofs.Ytgmbgbalcndohaa
open Go.RowKit P
set_option linter.unusedVariables false
set_option linter.unusedSimpArgs false
theorem e_num {Q : Int → Prop} (x : Int) (h : 0 ≤ x) (hq : Q ((x.toNat : Nat) : Int)) : Q x := by
  rw [Int.toNat_of_nonneg h] at hq; exact hq
def num3 (s : List UInt8) : Int × Int × Int := (((rd s).1 : Nat), ((rd s).2.1 : Nat), ((rd s).2.2 : Nat))
def wire_ReadNumber (N : Nat) (s : List UInt8) : Option (Int × Int × Int) := if s.length ≤ 140737488355328 then some (num3 s) else none
def wire_ReadNumber_u (r : Int × Int × Int) : TV EE.T := .tu [.a (.d (.int .u64) r.1), .a (.d (.int .i64) r.2.1), .a (.d (.int .i64) r.2.2)]
def wire_ReadNumber_h (N : Nat) : List (TV EE.T) → PV EE.T
  | [u0] => match argD .str u0 with
    | some x0 => .opt (wire_ReadNumber N x0) wire_ReadNumber_u
    | _ => .bad
  | _ => .bad
theorem wire_ReadNumber_hok (N : Nat) (us : List (TV EE.T)) : (wire_ReadNumber_h N us).ok fun u => ∀ ρ, ACalls Try.prog 46 (us.map (TV.to EE.toEnc ρ)) [] (fun out H => out = .ret (u.to EE.toEnc ρ) ∧ H = []) := by
  unfold wire_ReadNumber_h
  split
  · split
    · rename_i u0 x0 h0
      intro z hz ρ
      unfold wire_ReadNumber at hz
      split at hz
      · rename_i hl
        cases hz
        refine acalls_le (us' := [.a (.d .str x0)]) ?_ (readNumber_a x0 _ _ _ rfl hl)
        exact ⟨argD_le h0 ρ, trivial⟩
      · cases hz
    · trivial
  · trivial
def wire_Number (N : Nat) (n : Int) : Option (List UInt8) := if 0 ≤ n ∧ n < 18446744073709551616 then some (num n.toNat) else none
def wire_Number_u (r : List UInt8) : TV EE.T := .a (.d .str r)
def wire_Number_h (N : Nat) : List (TV EE.T) → PV EE.T
  | [u0] => match argD (.int .u64) u0 with
    | some x0 => .opt (wire_Number N x0) wire_Number_u
    | _ => .bad
  | _ => .bad
theorem wire_Number_hok (N : Nat) (us : List (TV EE.T)) : (wire_Number_h N us).ok fun u => ∀ ρ, ACalls Try.prog 32 (us.map (TV.to EE.toEnc ρ)) [] (fun out H => out = .ret (u.to EE.toEnc ρ) ∧ H = []) := by
  unfold wire_Number_h
  split
  · split
    · rename_i u0 x0 h0
      intro z hz ρ
      unfold wire_Number at hz
      split at hz
      · rename_i hl
        cases hz
        refine acalls_le (us' := [.a (.d (.int .u64) x0)]) ?_ (e_num (Q := fun y => ACalls Try.prog 32 [.v (.int .u64 y)] [] (fun out H => out = .ret (.v (.string (mkB (num x0.toNat)))) ∧ H = [])) x0 hl.1 (number_a x0.toNat (by omega)))
        exact ⟨argD_le h0 ρ, trivial⟩
      · cases hz
    · trivial
  · trivial
end Go.Proofs.Ytgmbgbalcndohaa
