/- Arguments opened, at the seat of the log. -/
import Derived.Test.YtgidmcfnnmheoaaK
import Derived.Test.YtgidmcfnnmheoaaP
import Derived.ProofKit
import Derived.OpenShut
import Derived.Test.YtgidmcfnnmheoaaProg
namespace Go.Proofs.Ytgidmcfnnmheoaa
open Go.ChangeShapes Go.WideShapes Go.ChangeAt Go.RowKit

theorem Try.own : ownKnob Try.prog.godebug = none := by kernel_rfl
theorem Try.laidOut : laidOutB Try.prog = true := by kernel_rfl
def I64 (n : Int) : Prop := -9223372036854775808 ≤ n ∧ n < 9223372036854775808
theorem small_reach {n : Nat} (h : n ≤ reachBytes) : Small n := h
theorem i64_of_wf {x : Int} (h : (Lit.int .i64 x).wf = true) : I64 x := by
  simp [Lit.wf, IntKind.min, IntKind.max, IntKind.signed, IntKind.bits] at h
  exact ⟨by omega, by omega⟩
end Go.Proofs.Ytgidmcfnnmheoaa
