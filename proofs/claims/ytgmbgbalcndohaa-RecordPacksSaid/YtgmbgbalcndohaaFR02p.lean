-- slim: written by gen/slim.py from XFR02p.r.lean.tpl
/- Plain functions, written by gen/tgl.py out of the program. -/
import Derived.Test.YtgmbgbalcndohaaHT
import Derived.Test.YtgmbgbalcndohaaFR01p
namespace Go.Proofs.Ytgmbgbalcndohaa
open Go.RowKit P
set_option linter.unusedVariables false
set_option linter.unusedSimpArgs false
set_option maxRecDepth 100000
/-! ### gleaner/gleanerref.UnpackRecord -/
/-! ### gleaner/gleanerref.SameLabels -/
/-! ### gleaner/gleanerref.SameRefs -/
/-! ### gleaner/gleanerref.SameRecord -/
end Go.Proofs.Ytgmbgbalcndohaa
