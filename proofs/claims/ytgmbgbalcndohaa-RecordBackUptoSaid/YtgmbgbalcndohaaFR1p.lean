-- slim: written by gen/slim.py from XFR1p.r.lean.tpl
/- Plain functions, written by gen/tgl.py out of the program. -/
import Derived.Test.YtgmbgbalcndohaaHT
import Derived.Test.YtgmbgbalcndohaaKR
namespace Go.Proofs.Ytgmbgbalcndohaa
open Go.RowKit P
set_option linter.unusedVariables false
set_option linter.unusedSimpArgs false
set_option maxRecDepth 100000
/-! ### gleaner/gleanerlaw.recordBegun -/
def law_recordBegun (N : Nat) : Option Bool :=
  (record_Pack N ({ Kind := 2, Refs := ([] : List VRef), Points := ([({ Ref := 1, Time := (-1), Bits := 0 } : VPoint)] : List VPoint) } : VRecord)).bind fun z1 =>
  (record_Unpack N z1.1).bind fun z2 =>
  bif z1.2 == 0 then
    bif z2.2 == 0 then
      bif (z1.1.length : Int) == 12 then
        bif (z2.1.Points.length : Int) == 1 then
          (idxC z2.1.Points 0).bind fun z3 =>
          some (z3.Time == (-1))
        else
          some false
      else
        some false
    else
      some false
  else
    some false
/-! ### gleaner/gleanerlaw.textIs -/
/-! ### gleaner/gleanerlaw.RecordPacks -/
/-! ### gleaner/gleanerlaw.RecordUnpacks -/
/-! ### gleaner/gleanerlaw.RecordBack -/
def law_RecordBack_R8 (N : Nat) (n : Nat) (x1 : List UInt8) : Option Bool :=
  (record_Unpack N x1).bind fun z5 =>
  bif z5.2 != 0 then
    some true
  else
    (record_Pack N z5.1).bind fun z6 =>
    bif z6.2 == 0 then
      some (decide (z6.1 = x1))
    else
      some false
def law_RecordBack (N : Nat) (x0 : VRecord) (x1 : List UInt8) : Option Bool :=
  (law_recordBegun N).bind fun z1 =>
  bif !z1 then
    some false
  else
    (record_Pack N x0).bind fun z2 =>
    bif z2.2 == 0 then
      (record_Unpack N z2.1).bind fun z3 =>
      bif z3.2 != 0 then
        some false
      else
        (ref_SameRecord N z3.1 x0).bind fun z4 =>
        bif !z4 then
          some false
        else
          law_RecordBack_R8 N N x1
    else
      law_RecordBack_R8 N N x1
end Go.Proofs.Ytgmbgbalcndohaa
