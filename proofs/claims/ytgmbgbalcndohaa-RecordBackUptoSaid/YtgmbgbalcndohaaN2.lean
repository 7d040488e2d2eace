-- slim: written by gen/slim.py from XN2.lean.tpl
/- The walks of the reference's NumberOf, NumberAt. -/
import Derived.Test.YtgmbgbalcndohaaN
import Derived.BigQuiet
import Derived.Deep.QuietTactic
namespace Go.Proofs.Ytgmbgbalcndohaa
open Go.RowKit P

end Go.Proofs.Ytgmbgbalcndohaa
