-- slim: written by gen/slim.py from XFR02p.r.lean.tpl
/- Plain functions, written by gen/tgl.py out of the program. -/
import Derived.Test.YtgmbgbalcndohaaHT
import Derived.Test.YtgmbgbalcndohaaFR01p
namespace Go.Proofs.Ytgmbgbalcndohaa
open Go.RowKit P
set_option linter.unusedVariables false
set_option linter.unusedSimpArgs false
set_option maxRecDepth 100000
/-! ### gleaner/gleanerref.UnpackRecord -/
/-! ### gleaner/gleanerref.SameLabels -/
def ref_SameLabels_L4 (N : Nat) : Nat → (List VLabel) → (List VLabel) → Int → Option Bool
  | 0, _, _, _ => none
  | n + 1, x0, x1, x5 =>
    bif decide (x5 < (x0.length : Int)) then
      (idxC x0 x5).bind fun z1 =>
      (idxC x1 x5).bind fun z2 =>
      bif !(beqS z1.Name z2.Name && (beqS z1.Value z2.Value && true)) then
        some false
      else
        ref_SameLabels_L4 N n x0 x1 (w64 (x5 + 1))
    else
      some true
def ref_SameLabels (N : Nat) (x0 : List VLabel) (x1 : List VLabel) : Option Bool :=
  bif (x0.length : Int) != (x1.length : Int) then
    some false
  else
    ref_SameLabels_L4 N N x0 x1 0
/-! ### gleaner/gleanerref.SameRefs -/
def ref_SameRefs_L4 (N : Nat) : Nat → (List VRef) → (List VRef) → Int → Option Bool
  | 0, _, _, _ => none
  | n + 1, x0, x1, x5 =>
    bif decide (x5 < (x0.length : Int)) then
      (idxC x0 x5).bind fun z1 =>
      (idxC x1 x5).bind fun z2 =>
      bif z1.Ref != z2.Ref then
        some false
      else
        (idxC x0 x5).bind fun z3 =>
        (idxC x1 x5).bind fun z4 =>
        (ref_SameLabels N z3.Labels z4.Labels).bind fun z5 =>
        bif !z5 then
          some false
        else
          ref_SameRefs_L4 N n x0 x1 (w64 (x5 + 1))
    else
      some true
def ref_SameRefs (N : Nat) (x0 : List VRef) (x1 : List VRef) : Option Bool :=
  bif (x0.length : Int) != (x1.length : Int) then
    some false
  else
    ref_SameRefs_L4 N N x0 x1 0
/-! ### gleaner/gleanerref.SameRecord -/
def ref_SameRecord_L4 (N : Nat) : Nat → Int → VRecord → VRecord → Option Bool
  | 0, _, _, _ => none
  | n + 1, x5, b2, b3 =>
    bif decide (x5 < (b2.Points.length : Int)) then
      (idxC b2.Points x5).bind fun z2 =>
      (idxC b3.Points x5).bind fun z3 =>
      bif !(beqI z2.Ref z3.Ref && (beqI z2.Time z3.Time && (beqI z2.Bits z3.Bits && true))) then
        some false
      else
        ref_SameRecord_L4 N n (w64 (x5 + 1)) b2 b3
    else
      some true
def ref_SameRecord (N : Nat) (x0 : VRecord) (x1 : VRecord) : Option Bool :=
  bif x0.Kind != x1.Kind then
    some false
  else
    bif (x0.Points.length : Int) != (x1.Points.length : Int) then
      some false
    else
      (ref_SameRefs N x0.Refs x1.Refs).bind fun z1 =>
      bif !z1 then
        some false
      else
        ref_SameRecord_L4 N N 0 x0 x1
end Go.Proofs.Ytgmbgbalcndohaa
