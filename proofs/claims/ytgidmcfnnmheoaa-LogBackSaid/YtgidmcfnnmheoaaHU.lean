/- The openers of the arguments' types. Written by gen/openers.py. -/
import Derived.Test.YtgidmcfnnmheoaaHO
import Derived.Test.YtgidmcfnnmheoaaHT
namespace Go.Proofs.Ytgidmcfnnmheoaa
open Go.RowKit Go.Deep Go.ChangeShapes Go.WideShapes Go.ChangeAt P
set_option linter.unusedVariables false
set_option linter.unusedSimpArgs false
theorem Try.own : ownKnob Try.prog.godebug = none := by kernel_rfl
theorem Try.laidOut : laidOutB Try.prog = true := by kernel_rfl
theorem opn_sl__string {H : Type} {enc : TypeId × Value → H} {w : World} {base : Nat} {spare : Nat → Bool} {held : Bool} : Opens enc Try.prog w base spare held 32 (fun l : List (List UInt8) => [AV.sl false 1 (l.map (fun s : List UInt8 => [AV.v (.string (mkB s))]))]) (fun l => l.length ≤ reachBytes ∧ ∀ y ∈ l, y.length ≤ reachBytes) :=
  opens_slice Try.underlying32 (by kernel_rfl) (by decide) (of_decide_eq_true (by kernel_rfl)) (fun z => by rfl) (opens_str Try.underlying9)
end Go.Proofs.Ytgidmcfnnmheoaa
