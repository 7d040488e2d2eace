-- slim: written by gen/slim.py from XFF1p.f.lean.tpl
/- Plain functions, written by gen/tgl.py out of the program. -/
import Derived.Test.YtgmlkhfjhogdbaaHT
import Derived.Test.YtgmlkhfjhogdbaaTX
namespace Go.Proofs.Ytgmlkhfjhogdbaa
open Go.RowKit P
set_option linter.unusedVariables false
set_option linter.unusedSimpArgs false
set_option maxRecDepth 100000
/-! ### gleaner/labels.sum -/
def labels_sum_L2 (N : Nat) : Nat → Int → (List UInt8) → Int → Int → Option Int
  | 0, _, _, _, _ => none
  | n + 1, x0, x10, x11, x12 =>
    bif decide (x12 < x11) then
      (idxC x10 x12).bind fun z2 =>
      labels_sum_L2 N n (IntKind.wrap .u64 ((bits .xor .u64 x0 (IntKind.wrap .u64 (b2i z2))) * 1099511628211)) x10 x11 (w64 (x12 + 1))
    else
      some x0
def labels_sum (N : Nat) (x0 : Int) (x1 : List UInt8) : Option Int :=
  (appC 1 x1 ([255] : List UInt8)).bind fun z1 =>
  labels_sum_L2 N N x0 z1 (z1.length : Int) 0
/-! ### gleaner/labels.RawSum -/
def labels_RawSum_L3 (N : Nat) : Nat → Int → (List VLabel) → Int → Int → Option Int
  | 0, _, _, _, _ => none
  | n + 1, x3, x6, x7, x8 =>
    bif decide (x8 < x7) then
      (idxC x6 x8).bind fun z1 =>
      (labels_sum N x3 z1.Name).bind fun z2 =>
      (labels_sum N z2 z1.Value).bind fun z3 =>
      labels_RawSum_L3 N n z3 x6 x7 (w64 (x8 + 1))
    else
      some x3
def labels_RawSum (N : Nat) (x0 : List VLabel) : Option Int :=
  labels_RawSum_L3 N N 14695981039346656037 x0 (x0.length : Int) 0
/-! ### gleaner/labels.Sum -/
def labels_Sum (N : Nat) (x0 : List VLabel) : Option (Int × Int) :=
  (labels_check N ([x0] : List (List VLabel))).bind fun z1 =>
  bif z1 != 0 then
    some (0, z1)
  else
    (labels_RawSum N x0).bind fun z2 =>
    some (z2, 0)
/-! ### gleaner/gleanerlaw.labelsBegun -/
def law_labelsBegun (N : Nat) : Option Bool :=
  (labels_Text N ([({ Name := ([95, 95, 110, 97, 109, 101, 95, 95] : List UInt8), Value := ([117, 112] : List UInt8) } : VLabel), ({ Name := ([106, 111, 98] : List UInt8), Value := ([120] : List UInt8) } : VLabel)] : List VLabel)).bind fun z1 =>
  (labels_Sum N ([] : List VLabel)).bind fun z2 =>
  bif z1.2 == 0 then
    bif decide (z1.1 = ([117, 112, 123, 106, 111, 98, 61, 34, 120, 34, 125] : List UInt8)) then
      bif z2.2 == 0 then
        some (z2.1 == 14695981039346656037)
      else
        some false
    else
      some false
  else
    some false
/-! ### gleaner/gleanerlaw.textIs -/
def law_textIs_R3 (N : Nat) (n : Nat) (x0 : List UInt8) (x1 : Int) (x2 : Int) (x3 : List UInt8) : Option Bool :=
  bif x1 == x2 then
    some (decide (x0 = x3))
  else
    some false
def law_textIs (N : Nat) (x0 : List UInt8) (x1 : Int) (x2 : Int) (x3 : List UInt8) : Option Bool :=
  bif x2 != 0 then
    law_textIs_R3 N N x0 x1 x2 ([] : List UInt8)
  else
    law_textIs_R3 N N x0 x1 x2 x3
/-! ### gleaner/gleanerlaw.LabelsTexts -/
def law_LabelsTexts_R5 (N : Nat) (n : Nat) (x3 : List UInt8) (x4 : Int) (x5 : Int) (x6 : List UInt8) : Option Bool :=
  (law_labelsBegun N).bind fun z4 =>
  bif z4 then
    (law_textIs N x3 x4 x5 x6).bind fun z5 =>
    some z5
  else
    some false
def law_LabelsTexts (N : Nat) (x0 : List VLabel) : Option Bool :=
  (labels_Text N x0).bind fun z1 =>
  (ref_CheckLabels N x0).bind fun z2 =>
  bif z2 == 0 then
    (ref_TextOf N x0).bind fun z3 =>
    law_LabelsTexts_R5 N N z1.1 z1.2 z2 z3
  else
    law_LabelsTexts_R5 N N z1.1 z1.2 z2 ([] : List UInt8)
/-! ### cmp.Or[int] -/
/-! ### gleaner/labels.Order$1 -/
/-! ### slices.CompareFunc[[]gleaner/api.Label,[]gleaner/api.Label,gleaner/api.Label,gleaner/api.Label] -/
/-! ### gleaner/labels.Order -/
/-! ### gleaner/labels.Compare -/
/-! ### gleaner/gleanerref.SameLabels -/
/-! ### gleaner/gleanerlaw.LabelsApart -/
end Go.Proofs.Ytgmlkhfjhogdbaa
