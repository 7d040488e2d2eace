-- slim: written by gen/slim.py from XVB.lean.tpl
/- The wire's numbers, as the layer of abstract values asks for them. -/
import Derived.Test.YtgmbgbalcndohaaTT
import Derived.Test.YtgmbgbalcndohaaN2
namespace Go.Proofs.Ytgmbgbalcndohaa
open Go.RowKit P
set_option linter.unusedSimpArgs false
set_option linter.unusedVariables false

theorem rel_tu3 (X : GW) (a b c : Value) : Rel X (.tu [.v a, .v b, .v c]) (.tuple #[a, b, c]) := by
  refine .tu _ _ rfl fun i u x hu hx => ?_
  match i, hu, hx with
  | 0, hu, hx => simp at hu hx; subst hu hx; exact .v _
  | 1, hu, hx => simp at hu hx; subst hu hx; exact .v _
  | 2, hu, hx => simp at hu hx; subst hu hx; exact .v _
  | n + 3, hu, hx => simp at hu
theorem readNumber_a (l : List UInt8) (n k e : Nat) (h : rd l = (n, k, e)) (hs : l.length ≤ 140737488355328) :
    ACalls Try.prog 46 [.v (.string (mkB l))] [] (fun out H => out = .ret (.tu [.v (.int .u64 n), .v (.int .i64 k), .v (.int .i64 e)]) ∧ H = []) := by
  refine acalls_of_calls' (vs := [.string (mkB l)]) (v := .tuple #[.int .u64 n, .int .i64 k, .int .i64 e]) ⟨_, Try.func46, rfl, rfl⟩ (fun X => rel_tu3 X _ _ _) rfl (fun w => (readNumber_any (mkB l) w (by rw [size_mkB]; unfold maxLen; omega)).mono ?_)
  rintro e' w' ⟨h1, rfl⟩
  refine ⟨?_, Below.refl _ _⟩
  unfold rdEnd at h1
  rw [show (mkB l).data.toList = l from rfl, h] at h1
  exact h1
theorem number_a (n : Nat) (hn : n < 18446744073709551616) :
    ACalls Try.prog 32 [.v (.int .u64 n)] [] (fun out H => out = .ret (.v (.string (mkB (num n)))) ∧ H = []) := by
  refine acalls_of_calls' (vs := [.int .u64 n]) (v := .string (mkB (num n))) ⟨_, Try.func32, rfl, rfl⟩ (fun X => .v _) rfl (fun w => (number_any n ⟨by omega, by omega⟩ w).mono ?_)
  rintro e' w' ⟨h1, h2⟩
  exact ⟨by rw [h1]; simp, h2⟩
end Go.Proofs.Ytgmbgbalcndohaa
