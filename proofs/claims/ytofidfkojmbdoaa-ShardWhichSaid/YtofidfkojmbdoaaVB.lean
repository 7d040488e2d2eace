-- slim: written by gen/slim.py from XVB.lean.tpl
/- The wire's numbers, as the layer of abstract values asks for them. -/
import Derived.Test.YtofidfkojmbdoaaTT
import Derived.Test.YtofidfkojmbdoaaN2
namespace Go.Proofs.Ytofidfkojmbdoaa
open Go.RowKit P
set_option linter.unusedSimpArgs false
set_option linter.unusedVariables false

theorem number_a (n : Nat) (hn : n < 18446744073709551616) :
    ACalls Try.prog 76 [.v (.int .u64 n)] [] (fun out H => out = .ret (.v (.string (mkB (num n)))) ∧ H = []) := by
  refine acalls_of_calls' (vs := [.int .u64 n]) (v := .string (mkB (num n))) ⟨_, Try.func76, rfl, rfl⟩ (fun X => .v _) rfl (fun w => (number_any n ⟨by omega, by omega⟩ w).mono ?_)
  rintro e' w' ⟨h1, h2⟩
  exact ⟨by rw [h1]; simp, h2⟩
end Go.Proofs.Ytofidfkojmbdoaa
