-- slim: written by gen/slim.py from XLB.lean.tpl
/- The reference's Xor and CheckOf, walked over abstract values. -/
import Derived.Test.YtgidmcfnnmheoaaLA
namespace Go.Proofs.Ytgidmcfnnmheoaa
open Go.RowKit P
set_option linter.unusedSimpArgs false
set_option linter.unusedVariables false
attribute [local irreducible] AS.nf OpV ARun Stk QSem QSemA ACalls EffOp AppOk SrcOk Awp Aops
set_option maxHeartbeats 4000000

end Go.Proofs.Ytgidmcfnnmheoaa
