-- slim: written by gen/slim.py from XFR1p.r.lean.tpl
/- Plain functions, written by gen/tgl.py out of the program. -/
import Derived.Test.YtgmbgbalcndohaaHT
import Derived.Test.YtgmbgbalcndohaaKR
namespace Go.Proofs.Ytgmbgbalcndohaa
open Go.RowKit P
set_option linter.unusedVariables false
set_option linter.unusedSimpArgs false
set_option maxRecDepth 100000
/-! ### gleaner/gleanerlaw.recordBegun -/
def law_recordBegun (N : Nat) : Option Bool :=
  (record_Pack N ({ Kind := 2, Refs := ([] : List VRef), Points := ([({ Ref := 1, Time := (-1), Bits := 0 } : VPoint)] : List VPoint) } : VRecord)).bind fun z1 =>
  (record_Unpack N z1.1).bind fun z2 =>
  bif z1.2 == 0 then
    bif z2.2 == 0 then
      bif (z1.1.length : Int) == 12 then
        bif (z2.1.Points.length : Int) == 1 then
          (idxC z2.1.Points 0).bind fun z3 =>
          some (z3.Time == (-1))
        else
          some false
      else
        some false
    else
      some false
  else
    some false
/-! ### gleaner/gleanerlaw.textIs -/
def law_textIs_R3 (N : Nat) (n : Nat) (x0 : List UInt8) (x1 : Int) (x2 : Int) (x3 : List UInt8) : Option Bool :=
  bif x1 == x2 then
    some (decide (x0 = x3))
  else
    some false
def law_textIs (N : Nat) (x0 : List UInt8) (x1 : Int) (x2 : Int) (x3 : List UInt8) : Option Bool :=
  bif x2 != 0 then
    law_textIs_R3 N N x0 x1 x2 ([] : List UInt8)
  else
    law_textIs_R3 N N x0 x1 x2 x3
/-! ### gleaner/gleanerlaw.RecordPacks -/
def law_RecordPacks_R5 (N : Nat) (n : Nat) (x3 : List UInt8) (x4 : Int) (x5 : Int) (x6 : List UInt8) : Option Bool :=
  (law_recordBegun N).bind fun z4 =>
  bif z4 then
    (law_textIs N x3 x4 x5 x6).bind fun z5 =>
    some z5
  else
    some false
def law_RecordPacks (N : Nat) (x0 : VRecord) : Option Bool :=
  (record_Pack N x0).bind fun z1 =>
  (ref_CheckRecord N x0).bind fun z2 =>
  bif z2 == 0 then
    (ref_PackOf N x0).bind fun z3 =>
    law_RecordPacks_R5 N N z1.1 z1.2 z2 z3
  else
    law_RecordPacks_R5 N N z1.1 z1.2 z2 ([] : List UInt8)
/-! ### gleaner/gleanerlaw.RecordUnpacks -/
/-! ### gleaner/gleanerlaw.RecordBack -/
end Go.Proofs.Ytgmbgbalcndohaa
