-- slim: written by gen/slim.py from XFR02.r.lean.tpl
/- The walks that prove plain functions right, written by gen/tgl.py. -/
import Derived.Test.YtgmbgbalcndohaaFR02p
import Derived.Test.YtgmbgbalcndohaaFR01
namespace Go.Proofs.Ytgmbgbalcndohaa
open Go.RowKit P
set_option linter.unusedVariables false
set_option linter.unusedSimpArgs false
set_option maxRecDepth 100000
/-! ### gleaner/gleanerref.UnpackRecord -/
/-! ### gleaner/gleanerref.SameLabels -/
/-! ### gleaner/gleanerref.SameRefs -/
/-! ### gleaner/gleanerref.SameRecord -/
end Go.Proofs.Ytgmbgbalcndohaa
