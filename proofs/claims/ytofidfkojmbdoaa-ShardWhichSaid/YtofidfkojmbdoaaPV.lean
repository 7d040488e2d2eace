-- slim: written by gen/slim.py from XPV.lean.tpl
/- Plain mathematics of unpacking: elements, one after the other. -/
import Derived.Test.YtofidfkojmbdoaaPP
namespace Go.Proofs.Ytofidfkojmbdoaa.P
set_option linter.unusedSimpArgs false
set_option linter.unusedVariables false

end Go.Proofs.Ytofidfkojmbdoaa.P
