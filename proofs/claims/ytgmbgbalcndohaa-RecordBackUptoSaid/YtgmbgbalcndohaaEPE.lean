-- slim: written by gen/slim.py from XEPE.r.lean.tpl
/- What the plain functions come to: the reference's UnpackRecord; records compared; what is packed is unpacked as it was. -/
import Derived.Test.YtgmbgbalcndohaaEPD
namespace Go.Proofs.Ytgmbgbalcndohaa
open Go.RowKit P
set_option linter.unusedVariables false
set_option linter.unusedSimpArgs false
section
variable (N : Nat) (x7 x8 a0 : Int) (a1 : List VRef) (a2 : List VPoint)
end
end Go.Proofs.Ytgmbgbalcndohaa
