-- slim: written by gen/slim.py from XHU.r.lean.tpl
/- The openers of the arguments' types. Written by gen/openers.py. -/
import Derived.Test.YtgmbgbalcndohaaHO
import Derived.Test.YtgmbgbalcndohaaHT
namespace Go.Proofs.Ytgmbgbalcndohaa
open Go.RowKit Go.Deep Go.ChangeShapes Go.WideShapes Go.ChangeAt P
set_option linter.unusedVariables false
set_option linter.unusedSimpArgs false
theorem Try.own : ownKnob Try.prog.godebug = none := by kernel_rfl
theorem Try.laidOut : laidOutB Try.prog = true := by kernel_rfl
end Go.Proofs.Ytgmbgbalcndohaa
