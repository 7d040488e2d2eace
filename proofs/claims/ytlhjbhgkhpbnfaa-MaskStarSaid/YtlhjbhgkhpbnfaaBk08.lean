import Derived.Test.YtlhjbhgkhpbnfaaBk07
import Derived.Test.YtlhjbhgkhpbnfaaRows
import Derived.WalkKit
import Derived.WalkSpells
import Derived.WalkLawsBesides
import Derived.Lib.VarintBits
import Derived.Lib.BufferRead
import Derived.Lib.Hide
set_option linter.unusedSimpArgs false
set_option linter.unusedVariables false
namespace Go.Proofs.Ytlhjbhgkhpbnfaa
open Go.RowKit P
section
variable {Pr : Program}
end
def Bc (n : Nat) : Prop := n ≤ 140737488351232
theorem Bc.le {n : Nat} (h : Bc n) : n ≤ 140737488351232 := h
end Go.Proofs.Ytlhjbhgkhpbnfaa
