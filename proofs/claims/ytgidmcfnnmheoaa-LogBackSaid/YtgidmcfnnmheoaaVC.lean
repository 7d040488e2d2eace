-- slim: written by gen/slim.py from XVC.lean.tpl
/- A number chosen, over abstract values. -/
import Derived.Test.YtgidmcfnnmheoaaGC
import Derived.Test.YtgidmcfnnmheoaaTT
namespace Go.Proofs.Ytgidmcfnnmheoaa
open Go.RowKit P
set_option linter.unusedSimpArgs false
set_option linter.unusedVariables false
attribute [local irreducible] AS.nf OpV ARun Stk QSem QSemA ACalls EffOp AppOk SrcOk Awp Aops
set_option maxHeartbeats 1000000
end Go.Proofs.Ytgidmcfnnmheoaa
