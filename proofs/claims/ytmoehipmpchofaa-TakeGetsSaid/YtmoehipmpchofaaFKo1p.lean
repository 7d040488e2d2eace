/- Plain functions, written by gen/tgl.py out of the program. -/
import Derived.Test.YtmoehipmpchofaaHT
import Derived.Test.YtmoehipmpchofaaKC
namespace Go.Proofs.Ytmoehipmpchofaa
open Go.RowKit P
set_option linter.unusedVariables false
set_option linter.unusedSimpArgs false
set_option maxRecDepth 100000
def take_open_1 (N : Nat) (x0 : VSeries) : Option Bool :=
  bif (x0.Labels.length : Int) == 0 then
    some true
  else
    (labels_Check N x0.Labels).bind fun z1 =>
    some (z1 != 0)
def slices_IndexFunc_api_Series_api_Series__i1_L2 (N : Nat) : Nat → (List VSeries) → Int → Int → Option Int
  | 0, _, _, _ => none
  | n + 1, x0, x7, x8 =>
    bif decide (x8 < x7) then
      (idxC x0 x8).bind fun z1 =>
      (take_open_1 N z1).bind fun z2 =>
      bif z2 then
        some x8
      else
        slices_IndexFunc_api_Series_api_Series__i1_L2 N n x0 x7 (w64 (x8 + 1))
    else
      some (-1)
def slices_IndexFunc_api_Series_api_Series__i1 (N : Nat) (x0 : List VSeries) : Option Int :=
  slices_IndexFunc_api_Series_api_Series__i1_L2 N N x0 (x0.length : Int) 0
def slices_ContainsFunc_api_Series_api_Series__i1 (N : Nat) (x0 : List VSeries) : Option Bool :=
  (slices_IndexFunc_api_Series_api_Series__i1 N x0).bind fun z1 =>
  some (decide (z1 ≥ 0))
def take_open (N : Nat) (x0 : List UInt8) : Option ((List VSeries) × Bool) :=
  (press_Unpack N x0 20000).bind fun z1 =>
  bif z1.2 != 0 then
    some (([] : List VSeries), false)
  else
    (wire_Read N z1.1).bind fun z2 =>
    bif z2.2 != 0 then
      some (([] : List VSeries), false)
    else
      (slices_ContainsFunc_api_Series_api_Series__i1 N z2.1).bind fun z3 =>
      some (z2.1, !z3)
end Go.Proofs.Ytmoehipmpchofaa
