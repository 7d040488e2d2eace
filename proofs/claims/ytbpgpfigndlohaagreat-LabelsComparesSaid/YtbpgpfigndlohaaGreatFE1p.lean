/- Plain functions, written by gen/tgl.py out of the program. -/
import Derived.Test.YtbpgpfigndlohaaGreatHT
import Derived.Test.YtbpgpfigndlohaaGreatTX
namespace Go.Proofs.YtbpgpfigndlohaaGreat
open Go.RowKit P
set_option linter.unusedVariables false
set_option linter.unusedSimpArgs false
set_option maxRecDepth 100000
/-! ### cmp.Or[int] -/
def cmp_Or_int__L3 (N : Nat) : Nat → Int → (List Int) → Int → Int → Option Int
  | 0, _, _, _, _ => none
  | n + 1, x3, x6, x7, x8 =>
    bif decide (x8 < x7) then
      (idxC x6 x8).bind fun z1 =>
      bif z1 != x3 then
        some z1
      else
        cmp_Or_int__L3 N n x3 x6 x7 (w64 (x8 + 1))
    else
      some x3
def cmp_Or_int_ (N : Nat) (x0 : List Int) : Option Int :=
  cmp_Or_int__L3 N N 0 x0 (x0.length : Int) 0
/-! ### gleaner/labels.Order$1 -/
def labels_Order_1 (N : Nat) (x0 : VLabel) (x1 : VLabel) : Option Int :=
  (cmp_Compare_string_ N x0.Name x1.Name).bind fun z1 =>
  (cmp_Compare_string_ N x0.Value x1.Value).bind fun z2 =>
  (cmp_Or_int_ N ([z1, z2] : List Int)).bind fun z3 =>
  some z3
/-! ### slices.CompareFunc[[]gleaner/api.Label,[]gleaner/api.Label,gleaner/api.Label,gleaner/api.Label] -/
def slices_CompareFunc_api_Label_api_Label_api_Label_api_Label__i0_L2 (N : Nat) : Nat → (List VLabel) → (List VLabel) → (List VLabel) → Int → Int → Option Int
  | 0, _, _, _, _, _ => none
  | n + 1, x0, x1, x11, x12, x13 =>
    bif decide (x13 < x12) then
      (idxC x11 x13).bind fun z1 =>
      bif decide (x13 ≥ (x1.length : Int)) then
        some 1
      else
        (idxC x1 x13).bind fun z2 =>
        (labels_Order_1 N z1 z2).bind fun z3 =>
        bif z3 != 0 then
          some z3
        else
          slices_CompareFunc_api_Label_api_Label_api_Label_api_Label__i0_L2 N n x0 x1 x11 x12 (w64 (x13 + 1))
    else
      bif decide ((x0.length : Int) < (x1.length : Int)) then
        some (-1)
      else
        some 0
def slices_CompareFunc_api_Label_api_Label_api_Label_api_Label__i0 (N : Nat) (x0 : List VLabel) (x1 : List VLabel) : Option Int :=
  slices_CompareFunc_api_Label_api_Label_api_Label_api_Label__i0_L2 N N x0 x1 x0 (x0.length : Int) 0
/-! ### gleaner/labels.Order -/
def labels_Order (N : Nat) (x0 : List VLabel) (x1 : List VLabel) : Option Int :=
  (slices_CompareFunc_api_Label_api_Label_api_Label_api_Label__i0 N x0 x1).bind fun z1 =>
  some z1
/-! ### gleaner/labels.Compare -/
def labels_Compare (N : Nat) (x0 : List VLabel) (x1 : List VLabel) : Option (Int × Int) :=
  (labels_check N ([x0, x1] : List (List VLabel))).bind fun z1 =>
  bif z1 != 0 then
    some (0, z1)
  else
    (labels_Order N x0 x1).bind fun z2 =>
    some (z2, 0)
/-! ### gleaner/gleanerref.IsLetter -/
def ref_IsLetter (N : Nat) (x0 : UInt8) : Option Bool :=
  bif decide ((b2i x0) ≥ (b2i 97)) then
    bif decide ((b2i x0) ≤ (b2i 122)) then
      some true
    else
      bif decide ((b2i x0) ≥ (b2i 65)) then
        bif decide ((b2i x0) ≤ (b2i 90)) then
          some true
        else
          some ((b2i x0) == (b2i 95))
      else
        some ((b2i x0) == (b2i 95))
  else
    bif decide ((b2i x0) ≥ (b2i 65)) then
      bif decide ((b2i x0) ≤ (b2i 90)) then
        some true
      else
        some ((b2i x0) == (b2i 95))
    else
      some ((b2i x0) == (b2i 95))
/-! ### gleaner/gleanerref.IsNumeral -/
def ref_IsNumeral (N : Nat) (x0 : UInt8) : Option Bool :=
  bif decide ((b2i x0) ≥ (b2i 48)) then
    some (decide ((b2i x0) ≤ (b2i 57)))
  else
    some false
/-! ### gleaner/gleanerref.IsName -/
def ref_IsName_R3 (N : Nat) (k2 : (List UInt8) → Int → Option Bool) (n : Nat) (x0 : List UInt8) (x3 : Int) : Option Bool :=
  k2 x0 (w64 (x3 + 1))
def ref_IsName_L2 (N : Nat) : Nat → (List UInt8) → Int → Option Bool
  | 0, _, _ => none
  | n + 1, x0, x3 =>
    bif decide (x3 < (x0.length : Int)) then
      (idxC x0 x3).bind fun z1 =>
      (ref_IsLetter N z1).bind fun z2 =>
      bif !z2 then
        bif x3 == 0 then
          some false
        else
          (idxC x0 x3).bind fun z3 =>
          (ref_IsNumeral N z3).bind fun z4 =>
          bif !z4 then
            some false
          else
            ref_IsName_R3 N (ref_IsName_L2 N n) n x0 x3
      else
        ref_IsName_R3 N (ref_IsName_L2 N n) n x0 x3
    else
      bif decide ((x0.length : Int) ≥ 1) then
        some (decide ((x0.length : Int) ≤ 40))
      else
        some false
def ref_IsName (N : Nat) (x0 : List UInt8) : Option Bool :=
  ref_IsName_L2 N N x0 0
/-! ### gleaner/gleanerref.EachLabel -/
def ref_EachLabel_R8 (N : Nat) (k4 : (List VLabel) → Bool → Int → Option Int) (n : Nat) (x0 : List VLabel) (x1 : Bool) (x5 : Int) : Option Int :=
  (idxC x0 x5).bind fun z4 =>
  bif decide ((z4.Value.length : Int) > 100) then
    some 2
  else
    k4 x0 x1 (w64 (x5 + 1))
def ref_EachLabel_L14 (N : Nat) (k11 : (List VLabel) → Int → Option Int) : Nat → (List VLabel) → Int → Int → Option Int
  | 0, _, _, _ => none
  | n + 1, x0, x6, x7 =>
    bif decide (x7 < x6) then
      (idxC x0 x7).bind fun z5 =>
      (idxC x0 x6).bind fun z6 =>
      bif decide (z5.Name = z6.Name) then
        some 6
      else
        ref_EachLabel_L14 N k11 n x0 x6 (w64 (x7 + 1))
    else
      k11 x0 (w64 (x6 + 1))
def ref_EachLabel_L11 (N : Nat) : Nat → (List VLabel) → Int → Option Int
  | 0, _, _ => none
  | n + 1, x0, x6 =>
    bif decide (x6 < (x0.length : Int)) then
      ref_EachLabel_L14 N (ref_EachLabel_L11 N n) n x0 x6 0
    else
      some 0
def ref_EachLabel_L4 (N : Nat) : Nat → (List VLabel) → Bool → Int → Option Int
  | 0, _, _, _ => none
  | n + 1, x0, x1, x5 =>
    bif decide (x5 < (x0.length : Int)) then
      (idxC x0 x5).bind fun z1 =>
      (ref_IsName N z1.Name).bind fun z2 =>
      bif !z2 then
        some 1
      else
        (idxC x0 x5).bind fun z3 =>
        bif decide (z3.Value = ([] : List UInt8)) then
          bif !x1 then
            some 1
          else
            ref_EachLabel_R8 N (ref_EachLabel_L4 N n) n x0 x1 x5
        else
          ref_EachLabel_R8 N (ref_EachLabel_L4 N n) n x0 x1 x5
    else
      ref_EachLabel_L11 N n x0 0
def ref_EachLabel (N : Nat) (x0 : List VLabel) (x1 : Bool) : Option Int :=
  bif decide ((x0.length : Int) > 20) then
    some 2
  else
    ref_EachLabel_L4 N N x0 x1 0
/-! ### gleaner/gleanerref.CheckLabels -/
def ref_CheckLabels_R4 (N : Nat) (k3 : (List VLabel) → Int → Int → Option Int) (n : Nat) (x0 : List VLabel) (x3 : Int) (x4 : Int) : Option Int :=
  k3 x0 x3 (w64 (x4 + 1))
def ref_CheckLabels_L3 (N : Nat) : Nat → (List VLabel) → Int → Int → Option Int
  | 0, _, _, _ => none
  | n + 1, x0, x3, x4 =>
    bif decide (x4 < (x0.length : Int)) then
      bif x3 == 0 then
        (idxC x0 x4).bind fun z2 =>
        (idxC x0 (w64 (x4 - 1))).bind fun z3 =>
        bif Op.bytesLess z2.Name z3.Name then
          ref_CheckLabels_R4 N (ref_CheckLabels_L3 N n) n x0 4 x4
        else
          ref_CheckLabels_R4 N (ref_CheckLabels_L3 N n) n x0 x3 x4
      else
        some x3
    else
      some x3
def ref_CheckLabels (N : Nat) (x0 : List VLabel) : Option Int :=
  (ref_EachLabel N x0 false).bind fun z1 =>
  ref_CheckLabels_L3 N N x0 z1 1
/-! ### gleaner/gleanerref.Order -/
def ref_Order_R7 (N : Nat) (k2 : (List VLabel) → (List VLabel) → Int → Option Int) (n : Nat) (x0 : List VLabel) (x1 : List VLabel) (x5 : Int) (x6 : List UInt8) (x7 : List UInt8) : Option Int :=
  bif Op.bytesLess x6 x7 then
    some (-1)
  else
    bif !(Op.bytesLess x6 x7 || decide (x6 = x7)) then
      some 1
    else
      k2 x0 x1 (w64 (x5 + 1))
def ref_Order_R11 (N : Nat) (n : Nat) (x0 : List VLabel) (x1 : List VLabel) : Option Int :=
  bif decide ((x0.length : Int) < (x1.length : Int)) then
    some (-1)
  else
    bif decide ((x0.length : Int) > (x1.length : Int)) then
      some 1
    else
      some 0
def ref_Order_L2 (N : Nat) : Nat → (List VLabel) → (List VLabel) → Int → Option Int
  | 0, _, _, _ => none
  | n + 1, x0, x1, x5 =>
    bif decide (x5 < (x0.length : Int)) then
      bif decide (x5 < (x1.length : Int)) then
        (idxC x0 x5).bind fun z1 =>
        (idxC x1 x5).bind fun z2 =>
        bif decide (z1.Name = z2.Name) then
          (idxC x0 x5).bind fun z3 =>
          (idxC x1 x5).bind fun z4 =>
          ref_Order_R7 N (ref_Order_L2 N n) n x0 x1 x5 z3.Value z4.Value
        else
          ref_Order_R7 N (ref_Order_L2 N n) n x0 x1 x5 z1.Name z2.Name
      else
        ref_Order_R11 N n x0 x1
    else
      ref_Order_R11 N n x0 x1
def ref_Order (N : Nat) (x0 : List VLabel) (x1 : List VLabel) : Option Int :=
  ref_Order_L2 N N x0 x1 0
/-! ### gleaner/labels.sum -/
def labels_sum_L2 (N : Nat) : Nat → Int → (List UInt8) → Int → Int → Option Int
  | 0, _, _, _, _ => none
  | n + 1, x0, x10, x11, x12 =>
    bif decide (x12 < x11) then
      (idxC x10 x12).bind fun z2 =>
      labels_sum_L2 N n (IntKind.wrap .u64 ((bits .xor .u64 x0 (IntKind.wrap .u64 (b2i z2))) * 1099511628211)) x10 x11 (w64 (x12 + 1))
    else
      some x0
def labels_sum (N : Nat) (x0 : Int) (x1 : List UInt8) : Option Int :=
  (appC 1 x1 ([255] : List UInt8)).bind fun z1 =>
  labels_sum_L2 N N x0 z1 (z1.length : Int) 0
/-! ### gleaner/labels.RawSum -/
def labels_RawSum_L3 (N : Nat) : Nat → Int → (List VLabel) → Int → Int → Option Int
  | 0, _, _, _, _ => none
  | n + 1, x3, x6, x7, x8 =>
    bif decide (x8 < x7) then
      (idxC x6 x8).bind fun z1 =>
      (labels_sum N x3 z1.Name).bind fun z2 =>
      (labels_sum N z2 z1.Value).bind fun z3 =>
      labels_RawSum_L3 N n z3 x6 x7 (w64 (x8 + 1))
    else
      some x3
def labels_RawSum (N : Nat) (x0 : List VLabel) : Option Int :=
  labels_RawSum_L3 N N 14695981039346656037 x0 (x0.length : Int) 0
/-! ### gleaner/labels.Sum -/
def labels_Sum (N : Nat) (x0 : List VLabel) : Option (Int × Int) :=
  (labels_check N ([x0] : List (List VLabel))).bind fun z1 =>
  bif z1 != 0 then
    some (0, z1)
  else
    (labels_RawSum N x0).bind fun z2 =>
    some (z2, 0)
/-! ### gleaner/gleanerlaw.labelsBegun -/
def law_labelsBegun (N : Nat) : Option Bool :=
  (labels_Text N ([({ Name := ([95, 95, 110, 97, 109, 101, 95, 95] : List UInt8), Value := ([117, 112] : List UInt8) } : VLabel), ({ Name := ([106, 111, 98] : List UInt8), Value := ([120] : List UInt8) } : VLabel)] : List VLabel)).bind fun z1 =>
  (labels_Sum N ([] : List VLabel)).bind fun z2 =>
  bif z1.2 == 0 then
    bif decide (z1.1 = ([117, 112, 123, 106, 111, 98, 61, 34, 120, 34, 125] : List UInt8)) then
      bif z2.2 == 0 then
        some (z2.1 == 14695981039346656037)
      else
        some false
    else
      some false
  else
    some false
/-! ### gleaner/gleanerlaw.LabelsCompares -/
def law_LabelsCompares_R7 (N : Nat) (n : Nat) (x5 : Int) (x6 : Int) (x7 : Int) (x8 : Int) : Option Bool :=
  (law_labelsBegun N).bind fun z5 =>
  bif z5 then
    bif x6 == x7 then
      some (x5 == x8)
    else
      some false
  else
    some false
def law_LabelsCompares_R5 (N : Nat) (n : Nat) (x0 : List VLabel) (x1 : List VLabel) (x5 : Int) (x6 : Int) (x7 : Int) (x8 : Int) : Option Bool :=
  bif x7 == 0 then
    (ref_Order N x0 x1).bind fun z4 =>
    law_LabelsCompares_R7 N n x5 x6 x7 z4
  else
    law_LabelsCompares_R7 N n x5 x6 x7 x8
def law_LabelsCompares (N : Nat) (x0 : List VLabel) (x1 : List VLabel) : Option Bool :=
  (labels_Compare N x0 x1).bind fun z1 =>
  (ref_CheckLabels N x0).bind fun z2 =>
  bif z2 == 0 then
    (ref_CheckLabels N x1).bind fun z3 =>
    law_LabelsCompares_R5 N N x0 x1 z1.1 z1.2 z3 0
  else
    law_LabelsCompares_R5 N N x0 x1 z1.1 z1.2 z2 0
end Go.Proofs.YtbpgpfigndlohaaGreat
