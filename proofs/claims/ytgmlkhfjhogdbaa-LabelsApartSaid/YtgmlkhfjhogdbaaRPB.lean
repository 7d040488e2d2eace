/- strings.Count of one byte. -/
import Derived.Test.YtgmlkhfjhogdbaaRPA
import Derived.WalkKit
import Derived.Lib.Walk
import Derived.Lib.Strings
import Derived.Lib.Slices
import Derived.Lib.Bytealg
import Derived.BigCall
import Derived.BigGuard
namespace Go.Proofs.Ytgmlkhfjhogdbaa
open Go.RowKit Go.Lib P
set_option linter.unusedVariables false
set_option linter.unusedSimpArgs false
set_option maxHeartbeats 1000000 in
set_option maxRecDepth 100000 in
theorem count_calls (s : ByteArray) (c : UInt8) (w : World) : Calls Try.prog 108 #[.string s, .string ⟨#[c]⟩] w fun e w' => e = .returned (.int .i64 (Lib.countByte s.data.toList c)) ∧ w' = w := by
  go_enter Try.func108, Try.ntmps108
  go_wp2
  rw [run_callFunc_extern Try.func110 (by kernel_rfl) (by kernel_rfl) (by kernel_rfl) (e := Extern.BytealgCount.count) (by kernel_rfl), Lib.run_countString]
  simp only [Result.andThen]
  rw [Oper.upon_value]
  go_wp2
  go_ret
  exact ⟨rfl, rfl⟩
theorem count_a (s : List UInt8) (c : UInt8) : ACalls Try.prog 108 [.v (.string (mkB s)), .v (.string (mkB [c]))] [] (fun out H => out = .ret (.v (.int .i64 (Lib.countByte s c : Nat))) ∧ H = []) := by
  refine acalls_of_calls (vs := [.string (mkB s), .string (mkB [c])]) ⟨_, Try.func108, by kernel_rfl, by kernel_rfl⟩ fun w => ?_
  refine (count_calls (mkB s) c w).mono fun e w' ⟨h1, h2⟩ => ⟨?_, ?_⟩
  · rw [h1]; rfl
  · subst h2; exact Below.refl _ _
end Go.Proofs.Ytgmlkhfjhogdbaa
