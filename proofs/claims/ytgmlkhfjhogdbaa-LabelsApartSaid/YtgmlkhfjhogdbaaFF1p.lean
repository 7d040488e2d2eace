-- slim: written by gen/slim.py from XFF1p.f.lean.tpl
/- Plain functions, written by gen/tgl.py out of the program. -/
import Derived.Test.YtgmlkhfjhogdbaaHT
import Derived.Test.YtgmlkhfjhogdbaaTX
namespace Go.Proofs.Ytgmlkhfjhogdbaa
open Go.RowKit P
set_option linter.unusedVariables false
set_option linter.unusedSimpArgs false
set_option maxRecDepth 100000
/-! ### gleaner/labels.sum -/
def labels_sum_L2 (N : Nat) : Nat → Int → (List UInt8) → Int → Int → Option Int
  | 0, _, _, _, _ => none
  | n + 1, x0, x10, x11, x12 =>
    bif decide (x12 < x11) then
      (idxC x10 x12).bind fun z2 =>
      labels_sum_L2 N n (IntKind.wrap .u64 ((bits .xor .u64 x0 (IntKind.wrap .u64 (b2i z2))) * 1099511628211)) x10 x11 (w64 (x12 + 1))
    else
      some x0
def labels_sum (N : Nat) (x0 : Int) (x1 : List UInt8) : Option Int :=
  (appC 1 x1 ([255] : List UInt8)).bind fun z1 =>
  labels_sum_L2 N N x0 z1 (z1.length : Int) 0
/-! ### gleaner/labels.RawSum -/
def labels_RawSum_L3 (N : Nat) : Nat → Int → (List VLabel) → Int → Int → Option Int
  | 0, _, _, _, _ => none
  | n + 1, x3, x6, x7, x8 =>
    bif decide (x8 < x7) then
      (idxC x6 x8).bind fun z1 =>
      (labels_sum N x3 z1.Name).bind fun z2 =>
      (labels_sum N z2 z1.Value).bind fun z3 =>
      labels_RawSum_L3 N n z3 x6 x7 (w64 (x8 + 1))
    else
      some x3
def labels_RawSum (N : Nat) (x0 : List VLabel) : Option Int :=
  labels_RawSum_L3 N N 14695981039346656037 x0 (x0.length : Int) 0
/-! ### gleaner/labels.Sum -/
def labels_Sum (N : Nat) (x0 : List VLabel) : Option (Int × Int) :=
  (labels_check N ([x0] : List (List VLabel))).bind fun z1 =>
  bif z1 != 0 then
    some (0, z1)
  else
    (labels_RawSum N x0).bind fun z2 =>
    some (z2, 0)
/-! ### gleaner/gleanerlaw.labelsBegun -/
def law_labelsBegun (N : Nat) : Option Bool :=
  (labels_Text N ([({ Name := ([95, 95, 110, 97, 109, 101, 95, 95] : List UInt8), Value := ([117, 112] : List UInt8) } : VLabel), ({ Name := ([106, 111, 98] : List UInt8), Value := ([120] : List UInt8) } : VLabel)] : List VLabel)).bind fun z1 =>
  (labels_Sum N ([] : List VLabel)).bind fun z2 =>
  bif z1.2 == 0 then
    bif decide (z1.1 = ([117, 112, 123, 106, 111, 98, 61, 34, 120, 34, 125] : List UInt8)) then
      bif z2.2 == 0 then
        some (z2.1 == 14695981039346656037)
      else
        some false
    else
      some false
  else
    some false
/-! ### gleaner/gleanerlaw.textIs -/
/-! ### gleaner/gleanerlaw.LabelsTexts -/
/-! ### cmp.Or[int] -/
def cmp_Or_int__L3 (N : Nat) : Nat → Int → (List Int) → Int → Int → Option Int
  | 0, _, _, _, _ => none
  | n + 1, x3, x6, x7, x8 =>
    bif decide (x8 < x7) then
      (idxC x6 x8).bind fun z1 =>
      bif z1 != x3 then
        some z1
      else
        cmp_Or_int__L3 N n x3 x6 x7 (w64 (x8 + 1))
    else
      some x3
def cmp_Or_int_ (N : Nat) (x0 : List Int) : Option Int :=
  cmp_Or_int__L3 N N 0 x0 (x0.length : Int) 0
/-! ### gleaner/labels.Order$1 -/
def labels_Order_1 (N : Nat) (x0 : VLabel) (x1 : VLabel) : Option Int :=
  (cmp_Compare_string_ N x0.Name x1.Name).bind fun z1 =>
  (cmp_Compare_string_ N x0.Value x1.Value).bind fun z2 =>
  (cmp_Or_int_ N ([z1, z2] : List Int)).bind fun z3 =>
  some z3
/-! ### slices.CompareFunc[[]gleaner/api.Label,[]gleaner/api.Label,gleaner/api.Label,gleaner/api.Label] -/
def slices_CompareFunc_api_Label_api_Label_api_Label_api_Label__i0_L2 (N : Nat) : Nat → (List VLabel) → (List VLabel) → (List VLabel) → Int → Int → Option Int
  | 0, _, _, _, _, _ => none
  | n + 1, x0, x1, x11, x12, x13 =>
    bif decide (x13 < x12) then
      (idxC x11 x13).bind fun z1 =>
      bif decide (x13 ≥ (x1.length : Int)) then
        some 1
      else
        (idxC x1 x13).bind fun z2 =>
        (labels_Order_1 N z1 z2).bind fun z3 =>
        bif z3 != 0 then
          some z3
        else
          slices_CompareFunc_api_Label_api_Label_api_Label_api_Label__i0_L2 N n x0 x1 x11 x12 (w64 (x13 + 1))
    else
      bif decide ((x0.length : Int) < (x1.length : Int)) then
        some (-1)
      else
        some 0
def slices_CompareFunc_api_Label_api_Label_api_Label_api_Label__i0 (N : Nat) (x0 : List VLabel) (x1 : List VLabel) : Option Int :=
  slices_CompareFunc_api_Label_api_Label_api_Label_api_Label__i0_L2 N N x0 x1 x0 (x0.length : Int) 0
/-! ### gleaner/labels.Order -/
def labels_Order (N : Nat) (x0 : List VLabel) (x1 : List VLabel) : Option Int :=
  (slices_CompareFunc_api_Label_api_Label_api_Label_api_Label__i0 N x0 x1).bind fun z1 =>
  some z1
/-! ### gleaner/labels.Compare -/
def labels_Compare (N : Nat) (x0 : List VLabel) (x1 : List VLabel) : Option (Int × Int) :=
  (labels_check N ([x0, x1] : List (List VLabel))).bind fun z1 =>
  bif z1 != 0 then
    some (0, z1)
  else
    (labels_Order N x0 x1).bind fun z2 =>
    some (z2, 0)
/-! ### gleaner/gleanerref.SameLabels -/
def ref_SameLabels_L4 (N : Nat) : Nat → (List VLabel) → (List VLabel) → Int → Option Bool
  | 0, _, _, _ => none
  | n + 1, x0, x1, x5 =>
    bif decide (x5 < (x0.length : Int)) then
      (idxC x0 x5).bind fun z1 =>
      (idxC x1 x5).bind fun z2 =>
      bif !(beqS z1.Name z2.Name && (beqS z1.Value z2.Value && true)) then
        some false
      else
        ref_SameLabels_L4 N n x0 x1 (w64 (x5 + 1))
    else
      some true
def ref_SameLabels (N : Nat) (x0 : List VLabel) (x1 : List VLabel) : Option Bool :=
  bif (x0.length : Int) != (x1.length : Int) then
    some false
  else
    ref_SameLabels_L4 N N x0 x1 0
/-! ### gleaner/gleanerlaw.LabelsApart -/
def law_LabelsApart_R12 (N : Nat) (k11 : (List VLabel) → (List VLabel) → (List UInt8) → Int → (List UInt8) → Int → Int → Int → Bool → Int → Option Bool) (n : Nat) (x0 : List VLabel) (x1 : List VLabel) (x5 : List UInt8) (x6 : Int) (x7 : List UInt8) (x8 : Int) (x9 : Int) (x10 : Int) (x11 : Bool) (x12 : Int) : Option Bool :=
  k11 x0 x1 x5 x6 x7 x8 x9 x10 x11 (w64 (x12 + 1))
def law_LabelsApart_L11 (N : Nat) : Nat → (List VLabel) → (List VLabel) → (List UInt8) → Int → (List UInt8) → Int → Int → Int → Bool → Int → Option Bool
  | 0, _, _, _, _, _, _, _, _, _, _ => none
  | n + 1, x0, x1, x5, x6, x7, x8, x9, x10, x11, x12 =>
    bif decide (x12 < 2) then
      (idxC ([x0, x1] : List (List VLabel)) x12).bind fun z6 =>
      (ref_ValueOf N z6 ([95, 95, 110, 97, 109, 101, 95, 95] : List UInt8)).bind fun z7 =>
      bif x11 then
        bif decide (z7 = ([] : List UInt8)) then
          law_LabelsApart_R12 N (law_LabelsApart_L11 N n) n x0 x1 x5 x6 x7 x8 x9 x10 true x12
        else
          (ref_IsName N z7).bind fun z8 =>
          law_LabelsApart_R12 N (law_LabelsApart_L11 N n) n x0 x1 x5 x6 x7 x8 x9 x10 z8 x12
      else
        law_LabelsApart_R12 N (law_LabelsApart_L11 N n) n x0 x1 x5 x6 x7 x8 x9 x10 false x12
    else
      bif x6 == 0 then
        bif x8 == 0 then
          bif x9 == (w64 (0 - x10)) then
            (ref_SameLabels N x0 x1).bind fun z9 =>
            bif (x9 == 0) == z9 then
              bif !x11 then
                some true
              else
                some ((decide (x5 = x7)) == (x9 == 0))
            else
              some false
          else
            some false
        else
          some false
      else
        some false
def law_LabelsApart (N : Nat) (x0 : List VLabel) (x1 : List VLabel) : Option Bool :=
  (law_labelsBegun N).bind fun z1 =>
  bif !z1 then
    some false
  else
    (labels_Text N x0).bind fun z2 =>
    (labels_Text N x1).bind fun z3 =>
    bif z2.2 != 0 then
      some true
    else
      bif z3.2 != 0 then
        some true
      else
        (labels_Compare N x0 x1).bind fun z4 =>
        (labels_Compare N x1 x0).bind fun z5 =>
        law_LabelsApart_L11 N N x0 x1 z2.1 z4.2 z3.1 z5.2 z4.1 z5.1 true 0
end Go.Proofs.Ytgmlkhfjhogdbaa
