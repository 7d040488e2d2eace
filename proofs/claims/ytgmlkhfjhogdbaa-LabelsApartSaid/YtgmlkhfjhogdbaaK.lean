-- slim: written by gen/slim.py from XK.lean.tpl
/- Small laws for the walks: bits of the wire's numbers, bytes that the call owns read as a string, what stays below. -/
import Derived.Test.YtgmlkhfjhogdbaaRows
import Derived.Test.YtgmlkhfjhogdbaaP
import Derived.WalkKit
import Derived.WalkSpells
import Derived.WalkLawsBesides
import Derived.Lib.VarintBits
import Derived.Lib.BufferRead
import Derived.Lib.Hide
namespace Go.Proofs.Ytgmlkhfjhogdbaa
open Go.RowKit P

section
variable {Pr : Program}
end

/-- How many bytes a text that is read takes at most. -/
def Small (n : Nat) : Prop := n ≤ 140737488351232
theorem Small.le {n : Nat} (h : Small n) : n ≤ 140737488351232 := h

end Go.Proofs.Ytgmlkhfjhogdbaa
