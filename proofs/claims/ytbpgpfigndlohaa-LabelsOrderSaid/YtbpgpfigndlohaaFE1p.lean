/- Plain functions, written by gen/tgl.py out of the program. -/
import Derived.Test.YtbpgpfigndlohaaHT
import Derived.Test.YtbpgpfigndlohaaTX
namespace Go.Proofs.Ytbpgpfigndlohaa
open Go.RowKit P
set_option linter.unusedVariables false
set_option linter.unusedSimpArgs false
set_option maxRecDepth 100000
/-! ### gleaner/labels.sum -/
def labels_sum_L2 (N : Nat) : Nat → Int → (List UInt8) → Int → Int → Option Int
  | 0, _, _, _, _ => none
  | n + 1, x0, x10, x11, x12 =>
    bif decide (x12 < x11) then
      (idxC x10 x12).bind fun z2 =>
      labels_sum_L2 N n (IntKind.wrap .u64 ((bits .xor .u64 x0 (IntKind.wrap .u64 (b2i z2))) * 1099511628211)) x10 x11 (w64 (x12 + 1))
    else
      some x0
def labels_sum (N : Nat) (x0 : Int) (x1 : List UInt8) : Option Int :=
  (appC 1 x1 ([255] : List UInt8)).bind fun z1 =>
  labels_sum_L2 N N x0 z1 (z1.length : Int) 0
/-! ### gleaner/labels.RawSum -/
def labels_RawSum_L3 (N : Nat) : Nat → Int → (List VLabel) → Int → Int → Option Int
  | 0, _, _, _, _ => none
  | n + 1, x3, x6, x7, x8 =>
    bif decide (x8 < x7) then
      (idxC x6 x8).bind fun z1 =>
      (labels_sum N x3 z1.Name).bind fun z2 =>
      (labels_sum N z2 z1.Value).bind fun z3 =>
      labels_RawSum_L3 N n z3 x6 x7 (w64 (x8 + 1))
    else
      some x3
def labels_RawSum (N : Nat) (x0 : List VLabel) : Option Int :=
  labels_RawSum_L3 N N 14695981039346656037 x0 (x0.length : Int) 0
/-! ### gleaner/labels.Sum -/
def labels_Sum (N : Nat) (x0 : List VLabel) : Option (Int × Int) :=
  (labels_check N ([x0] : List (List VLabel))).bind fun z1 =>
  bif z1 != 0 then
    some (0, z1)
  else
    (labels_RawSum N x0).bind fun z2 =>
    some (z2, 0)
/-! ### gleaner/gleanerlaw.labelsBegun -/
def law_labelsBegun (N : Nat) : Option Bool :=
  (labels_Text N ([({ Name := ([95, 95, 110, 97, 109, 101, 95, 95] : List UInt8), Value := ([117, 112] : List UInt8) } : VLabel), ({ Name := ([106, 111, 98] : List UInt8), Value := ([120] : List UInt8) } : VLabel)] : List VLabel)).bind fun z1 =>
  (labels_Sum N ([] : List VLabel)).bind fun z2 =>
  bif z1.2 == 0 then
    bif decide (z1.1 = ([117, 112, 123, 106, 111, 98, 61, 34, 120, 34, 125] : List UInt8)) then
      bif z2.2 == 0 then
        some (z2.1 == 14695981039346656037)
      else
        some false
    else
      some false
  else
    some false
/-! ### gleaner/gleanerref.IsLetter -/
def ref_IsLetter (N : Nat) (x0 : UInt8) : Option Bool :=
  bif decide ((b2i x0) ≥ (b2i 97)) then
    bif decide ((b2i x0) ≤ (b2i 122)) then
      some true
    else
      bif decide ((b2i x0) ≥ (b2i 65)) then
        bif decide ((b2i x0) ≤ (b2i 90)) then
          some true
        else
          some ((b2i x0) == (b2i 95))
      else
        some ((b2i x0) == (b2i 95))
  else
    bif decide ((b2i x0) ≥ (b2i 65)) then
      bif decide ((b2i x0) ≤ (b2i 90)) then
        some true
      else
        some ((b2i x0) == (b2i 95))
    else
      some ((b2i x0) == (b2i 95))
/-! ### gleaner/gleanerref.IsNumeral -/
def ref_IsNumeral (N : Nat) (x0 : UInt8) : Option Bool :=
  bif decide ((b2i x0) ≥ (b2i 48)) then
    some (decide ((b2i x0) ≤ (b2i 57)))
  else
    some false
/-! ### gleaner/gleanerref.IsName -/
def ref_IsName_R3 (N : Nat) (k2 : (List UInt8) → Int → Option Bool) (n : Nat) (x0 : List UInt8) (x3 : Int) : Option Bool :=
  k2 x0 (w64 (x3 + 1))
def ref_IsName_L2 (N : Nat) : Nat → (List UInt8) → Int → Option Bool
  | 0, _, _ => none
  | n + 1, x0, x3 =>
    bif decide (x3 < (x0.length : Int)) then
      (idxC x0 x3).bind fun z1 =>
      (ref_IsLetter N z1).bind fun z2 =>
      bif !z2 then
        bif x3 == 0 then
          some false
        else
          (idxC x0 x3).bind fun z3 =>
          (ref_IsNumeral N z3).bind fun z4 =>
          bif !z4 then
            some false
          else
            ref_IsName_R3 N (ref_IsName_L2 N n) n x0 x3
      else
        ref_IsName_R3 N (ref_IsName_L2 N n) n x0 x3
    else
      bif decide ((x0.length : Int) ≥ 1) then
        some (decide ((x0.length : Int) ≤ 40))
      else
        some false
def ref_IsName (N : Nat) (x0 : List UInt8) : Option Bool :=
  ref_IsName_L2 N N x0 0
/-! ### gleaner/gleanerlaw.LabelsNames -/
def law_LabelsNames (N : Nat) (x0 : List UInt8) : Option Bool :=
  (law_labelsBegun N).bind fun z1 =>
  bif z1 then
    (labels_IsName N ([97, 95, 49] : List UInt8)).bind fun z2 =>
    bif z2 then
      (labels_IsName N x0).bind fun z3 =>
      (ref_IsName N x0).bind fun z4 =>
      some (z3 == z4)
    else
      some false
  else
    some false
/-! ### gleaner/gleanerref.EachLabel -/
def ref_EachLabel_R8 (N : Nat) (k4 : (List VLabel) → Bool → Int → Option Int) (n : Nat) (x0 : List VLabel) (x1 : Bool) (x5 : Int) : Option Int :=
  (idxC x0 x5).bind fun z4 =>
  bif decide ((z4.Value.length : Int) > 100) then
    some 2
  else
    k4 x0 x1 (w64 (x5 + 1))
def ref_EachLabel_L14 (N : Nat) (k11 : (List VLabel) → Int → Option Int) : Nat → (List VLabel) → Int → Int → Option Int
  | 0, _, _, _ => none
  | n + 1, x0, x6, x7 =>
    bif decide (x7 < x6) then
      (idxC x0 x7).bind fun z5 =>
      (idxC x0 x6).bind fun z6 =>
      bif decide (z5.Name = z6.Name) then
        some 6
      else
        ref_EachLabel_L14 N k11 n x0 x6 (w64 (x7 + 1))
    else
      k11 x0 (w64 (x6 + 1))
def ref_EachLabel_L11 (N : Nat) : Nat → (List VLabel) → Int → Option Int
  | 0, _, _ => none
  | n + 1, x0, x6 =>
    bif decide (x6 < (x0.length : Int)) then
      ref_EachLabel_L14 N (ref_EachLabel_L11 N n) n x0 x6 0
    else
      some 0
def ref_EachLabel_L4 (N : Nat) : Nat → (List VLabel) → Bool → Int → Option Int
  | 0, _, _, _ => none
  | n + 1, x0, x1, x5 =>
    bif decide (x5 < (x0.length : Int)) then
      (idxC x0 x5).bind fun z1 =>
      (ref_IsName N z1.Name).bind fun z2 =>
      bif !z2 then
        some 1
      else
        (idxC x0 x5).bind fun z3 =>
        bif decide (z3.Value = ([] : List UInt8)) then
          bif !x1 then
            some 1
          else
            ref_EachLabel_R8 N (ref_EachLabel_L4 N n) n x0 x1 x5
        else
          ref_EachLabel_R8 N (ref_EachLabel_L4 N n) n x0 x1 x5
    else
      ref_EachLabel_L11 N n x0 0
def ref_EachLabel (N : Nat) (x0 : List VLabel) (x1 : Bool) : Option Int :=
  bif decide ((x0.length : Int) > 20) then
    some 2
  else
    ref_EachLabel_L4 N N x0 x1 0
/-! ### gleaner/gleanerref.CheckLabels -/
def ref_CheckLabels_R4 (N : Nat) (k3 : (List VLabel) → Int → Int → Option Int) (n : Nat) (x0 : List VLabel) (x3 : Int) (x4 : Int) : Option Int :=
  k3 x0 x3 (w64 (x4 + 1))
def ref_CheckLabels_L3 (N : Nat) : Nat → (List VLabel) → Int → Int → Option Int
  | 0, _, _, _ => none
  | n + 1, x0, x3, x4 =>
    bif decide (x4 < (x0.length : Int)) then
      bif x3 == 0 then
        (idxC x0 x4).bind fun z2 =>
        (idxC x0 (w64 (x4 - 1))).bind fun z3 =>
        bif Op.bytesLess z2.Name z3.Name then
          ref_CheckLabels_R4 N (ref_CheckLabels_L3 N n) n x0 4 x4
        else
          ref_CheckLabels_R4 N (ref_CheckLabels_L3 N n) n x0 x3 x4
      else
        some x3
    else
      some x3
def ref_CheckLabels (N : Nat) (x0 : List VLabel) : Option Int :=
  (ref_EachLabel N x0 false).bind fun z1 =>
  ref_CheckLabels_L3 N N x0 z1 1
/-! ### gleaner/gleanerlaw.LabelsChecks -/
def law_LabelsChecks (N : Nat) (x0 : List VLabel) : Option Bool :=
  (law_labelsBegun N).bind fun z1 =>
  bif z1 then
    (labels_Check N x0).bind fun z2 =>
    (ref_CheckLabels N x0).bind fun z3 =>
    some (z2 == z3)
  else
    some false
/-! ### gleaner/gleanerref.Xor -/
def ref_Xor_R5 (N : Nat) (k2 : Int → Int → Int → Int → Option Int) (n : Nat) (x0 : Int) (x1 : Int) (x5 : Int) (x6 : Int) : Option Int :=
  (quoC .i64 x0 2).bind fun z3 =>
  (quoC .i64 x1 2).bind fun z4 =>
  k2 z3 z4 x5 (w64 (2 * x6))
def ref_Xor_R3 (N : Nat) (k2 : Int → Int → Int → Int → Option Int) (n : Nat) (x0 : Int) (x1 : Int) (x5 : Int) (x6 : Int) : Option Int :=
  (remC x0 2).bind fun z1 =>
  (remC x1 2).bind fun z2 =>
  bif z1 != z2 then
    ref_Xor_R5 N k2 n x0 x1 (w64 (x5 + x6)) x6
  else
    ref_Xor_R5 N k2 n x0 x1 x5 x6
def ref_Xor_L2 (N : Nat) : Nat → Int → Int → Int → Int → Option Int
  | 0, _, _, _, _ => none
  | n + 1, x0, x1, x5, x6 =>
    bif decide (x0 > 0) then
      ref_Xor_R3 N (ref_Xor_L2 N n) n x0 x1 x5 x6
    else
      bif decide (x1 > 0) then
        ref_Xor_R3 N (ref_Xor_L2 N n) n x0 x1 x5 x6
      else
        some x5
def ref_Xor (N : Nat) (x0 : Int) (x1 : Int) : Option Int :=
  ref_Xor_L2 N N x0 x1 0 1
/-! ### gleaner/gleanerref.SumOf$1 -/
def ref_SumOf_1_i0_L4 (N : Nat) : Nat → (List Int) → Int → Int → (List Int) → Option (List Int)
  | 0, _, _, _, _ => none
  | n + 1, x3, x4, x5, b100001 =>
    bif decide (x5 < 4) then
      (idxN 4 x5).bind fun z19 =>
      (b100001[0 + z19]?).bind fun z20 =>
      (idxC x3 x5).bind fun z21 =>
      (remC (w64 (x4 + (w64 ((w64 (z20 * 435)) + z21)))) 65536).bind fun z22 =>
      (quoC .i64 (w64 (x4 + (w64 ((w64 (z20 * 435)) + z21)))) 65536).bind fun z23 =>
      (idxN 4 x5).bind fun z24 =>
      (setA b100001 (0 + z24) z22).bind fun z25 =>
      ref_SumOf_1_i0_L4 N n x3 z23 (w64 (x5 + 1)) z25
    else
      some b100001
def ref_SumOf_1_i0 (N : Nat) (x0 : Int) (y1 : List Int) : Option (List Int) :=
  (idxN 4 0).bind fun z1 =>
  (y1[0 + z1]?).bind fun z2 =>
  (quoC .i64 z2 256).bind fun z3 =>
  (idxN 4 0).bind fun z4 =>
  (y1[0 + z4]?).bind fun z5 =>
  (remC z5 256).bind fun z6 =>
  (ref_Xor N z6 x0).bind fun z7 =>
  (idxN 4 0).bind fun z8 =>
  (setA y1 (0 + z8) (w64 ((w64 (z3 * 256)) + z7))).bind fun z9 =>
  (idxN 4 0).bind fun z10 =>
  (z9[0 + z10]?).bind fun z11 =>
  (remC z11 256).bind fun z12 =>
  (idxN 4 0).bind fun z13 =>
  (z9[0 + z13]?).bind fun z14 =>
  (quoC .i64 z14 256).bind fun z15 =>
  (idxN 4 1).bind fun z16 =>
  (z9[0 + z16]?).bind fun z17 =>
  (remC z17 256).bind fun z18 =>
  ref_SumOf_1_i0_L4 N N ([0, 0, w64 (z12 * 256), w64 (z15 + (w64 (z18 * 256)))] : List Int) 0 0 z9
/-! ### gleaner/gleanerref.SumOf$2 -/
def ref_SumOf_2_i0_L1 (N : Nat) : Nat → (List UInt8) → Int → (List Int) → Option (List Int)
  | 0, _, _, _ => none
  | n + 1, x0, x3, b100002 =>
    bif decide (x3 < (x0.length : Int)) then
      (idxC x0 x3).bind fun z1 =>
      (ref_SumOf_1_i0 N (w64 (b2i z1)) b100002).bind fun z2 =>
      ref_SumOf_2_i0_L1 N n x0 (w64 (x3 + 1)) z2
    else
      (ref_SumOf_1_i0 N 255 b100002).bind fun z3 =>
      some z3
def ref_SumOf_2_i0 (N : Nat) (x0 : List UInt8) (y2 : List Int) : Option (List Int) :=
  ref_SumOf_2_i0_L1 N N x0 0 y2
/-! ### gleaner/gleanerref.SumOf -/
def ref_SumOf_L11 (N : Nat) : Nat → Int → Int → (List Int) → Option Int
  | 0, _, _, _ => none
  | n + 1, x7, x8, b9 =>
    bif decide (x8 ≥ 0) then
      (idxN 4 x8).bind fun z5 =>
      (b9[0 + z5]?).bind fun z6 =>
      ref_SumOf_L11 N n (IntKind.wrap .u64 ((IntKind.wrap .u64 (x7 * 65536)) + (IntKind.wrap .u64 z6))) (w64 (x8 - 1)) b9
    else
      some x7
def ref_SumOf_L5 (N : Nat) : Nat → (List VLabel) → Int → (List Int) → Option Int
  | 0, _, _, _ => none
  | n + 1, x0, x6, b9 =>
    bif decide (x6 < (x0.length : Int)) then
      (idxC x0 x6).bind fun z1 =>
      (ref_SumOf_2_i0 N z1.Name b9).bind fun z2 =>
      (idxC x0 x6).bind fun z3 =>
      (ref_SumOf_2_i0 N z3.Value z2).bind fun z4 =>
      ref_SumOf_L5 N n x0 (w64 (x6 + 1)) z4
    else
      ref_SumOf_L11 N n 0 3 b9
def ref_SumOf (N : Nat) (x0 : List VLabel) : Option Int :=
  ref_SumOf_L5 N N x0 0 ([8997, 33826, 40164, 52210] : List Int)
/-! ### gleaner/gleanerlaw.LabelsSums -/
def law_LabelsSums_R5 (N : Nat) (n : Nat) (x3 : Int) (x4 : Int) (x5 : Int) (x6 : Int) : Option Bool :=
  (law_labelsBegun N).bind fun z4 =>
  bif z4 then
    bif x4 == x5 then
      some (x3 == x6)
    else
      some false
  else
    some false
def law_LabelsSums (N : Nat) (x0 : List VLabel) : Option Bool :=
  (labels_Sum N x0).bind fun z1 =>
  (ref_CheckLabels N x0).bind fun z2 =>
  bif z2 == 0 then
    (ref_SumOf N x0).bind fun z3 =>
    law_LabelsSums_R5 N N z1.1 z1.2 z2 z3
  else
    law_LabelsSums_R5 N N z1.1 z1.2 z2 0
/-! ### gleaner/labels.Get -/
def labels_Get (N : Nat) (x0 : List VLabel) (x1 : List UInt8) : Option ((List UInt8) × Int) :=
  (labels_check N ([x0] : List (List VLabel))).bind fun z1 =>
  bif z1 != 0 then
    some (([] : List UInt8), z1)
  else
    (labels_IsName N x1).bind fun z2 =>
    bif !z2 then
      some (([] : List UInt8), 1)
    else
      (labels_Value N x0 x1).bind fun z3 =>
      some (z3, 0)
/-! ### gleaner/gleanerref.ValueOf -/
def ref_ValueOf_L2 (N : Nat) : Nat → (List VLabel) → (List UInt8) → Int → Option (List UInt8)
  | 0, _, _, _ => none
  | n + 1, x0, x1, x5 =>
    bif decide (x5 < (x0.length : Int)) then
      (idxC x0 x5).bind fun z1 =>
      bif decide (z1.Name = x1) then
        (idxC x0 x5).bind fun z2 =>
        some z2.Value
      else
        ref_ValueOf_L2 N n x0 x1 (w64 (x5 + 1))
    else
      some ([] : List UInt8)
def ref_ValueOf (N : Nat) (x0 : List VLabel) (x1 : List UInt8) : Option (List UInt8) :=
  ref_ValueOf_L2 N N x0 x1 0
/-! ### gleaner/gleanerlaw.textIs -/
def law_textIs_R3 (N : Nat) (n : Nat) (x0 : List UInt8) (x1 : Int) (x2 : Int) (x3 : List UInt8) : Option Bool :=
  bif x1 == x2 then
    some (decide (x0 = x3))
  else
    some false
def law_textIs (N : Nat) (x0 : List UInt8) (x1 : Int) (x2 : Int) (x3 : List UInt8) : Option Bool :=
  bif x2 != 0 then
    law_textIs_R3 N N x0 x1 x2 ([] : List UInt8)
  else
    law_textIs_R3 N N x0 x1 x2 x3
/-! ### gleaner/gleanerlaw.LabelsGets -/
def law_LabelsGets_R5 (N : Nat) (n : Nat) (x0 : List VLabel) (x1 : List UInt8) (x5 : List UInt8) (x6 : Int) (x7 : Int) : Option Bool :=
  (law_labelsBegun N).bind fun z4 =>
  bif z4 then
    (ref_ValueOf N x0 x1).bind fun z5 =>
    (law_textIs N x5 x6 x7 z5).bind fun z6 =>
    some z6
  else
    some false
def law_LabelsGets (N : Nat) (x0 : List VLabel) (x1 : List UInt8) : Option Bool :=
  (labels_Get N x0 x1).bind fun z1 =>
  (ref_CheckLabels N x0).bind fun z2 =>
  bif z2 == 0 then
    (ref_IsName N x1).bind fun z3 =>
    bif !z3 then
      law_LabelsGets_R5 N N x0 x1 z1.1 z1.2 1
    else
      law_LabelsGets_R5 N N x0 x1 z1.1 z1.2 z2
  else
    law_LabelsGets_R5 N N x0 x1 z1.1 z1.2 z2
/-! ### cmp.Or[int] -/
def cmp_Or_int__L3 (N : Nat) : Nat → Int → (List Int) → Int → Int → Option Int
  | 0, _, _, _, _ => none
  | n + 1, x3, x6, x7, x8 =>
    bif decide (x8 < x7) then
      (idxC x6 x8).bind fun z1 =>
      bif z1 != x3 then
        some z1
      else
        cmp_Or_int__L3 N n x3 x6 x7 (w64 (x8 + 1))
    else
      some x3
def cmp_Or_int_ (N : Nat) (x0 : List Int) : Option Int :=
  cmp_Or_int__L3 N N 0 x0 (x0.length : Int) 0
/-! ### gleaner/labels.Order$1 -/
def labels_Order_1 (N : Nat) (x0 : VLabel) (x1 : VLabel) : Option Int :=
  (cmp_Compare_string_ N x0.Name x1.Name).bind fun z1 =>
  (cmp_Compare_string_ N x0.Value x1.Value).bind fun z2 =>
  (cmp_Or_int_ N ([z1, z2] : List Int)).bind fun z3 =>
  some z3
/-! ### slices.CompareFunc[[]gleaner/api.Label,[]gleaner/api.Label,gleaner/api.Label,gleaner/api.Label] -/
def slices_CompareFunc_api_Label_api_Label_api_Label_api_Label__i0_L2 (N : Nat) : Nat → (List VLabel) → (List VLabel) → (List VLabel) → Int → Int → Option Int
  | 0, _, _, _, _, _ => none
  | n + 1, x0, x1, x11, x12, x13 =>
    bif decide (x13 < x12) then
      (idxC x11 x13).bind fun z1 =>
      bif decide (x13 ≥ (x1.length : Int)) then
        some 1
      else
        (idxC x1 x13).bind fun z2 =>
        (labels_Order_1 N z1 z2).bind fun z3 =>
        bif z3 != 0 then
          some z3
        else
          slices_CompareFunc_api_Label_api_Label_api_Label_api_Label__i0_L2 N n x0 x1 x11 x12 (w64 (x13 + 1))
    else
      bif decide ((x0.length : Int) < (x1.length : Int)) then
        some (-1)
      else
        some 0
def slices_CompareFunc_api_Label_api_Label_api_Label_api_Label__i0 (N : Nat) (x0 : List VLabel) (x1 : List VLabel) : Option Int :=
  slices_CompareFunc_api_Label_api_Label_api_Label_api_Label__i0_L2 N N x0 x1 x0 (x0.length : Int) 0
/-! ### gleaner/labels.Order -/
def labels_Order (N : Nat) (x0 : List VLabel) (x1 : List VLabel) : Option Int :=
  (slices_CompareFunc_api_Label_api_Label_api_Label_api_Label__i0 N x0 x1).bind fun z1 =>
  some z1
/-! ### gleaner/labels.Compare -/
def labels_Compare (N : Nat) (x0 : List VLabel) (x1 : List VLabel) : Option (Int × Int) :=
  (labels_check N ([x0, x1] : List (List VLabel))).bind fun z1 =>
  bif z1 != 0 then
    some (0, z1)
  else
    (labels_Order N x0 x1).bind fun z2 =>
    some (z2, 0)
/-! ### gleaner/gleanerlaw.LabelsOrder -/
def law_LabelsOrder (N : Nat) (x0 : List VLabel) (x1 : List VLabel) (x2 : List VLabel) : Option Bool :=
  (law_labelsBegun N).bind fun z1 =>
  bif !z1 then
    some false
  else
    (labels_Compare N x0 x1).bind fun z2 =>
    (labels_Compare N x1 x2).bind fun z3 =>
    (labels_Compare N x0 x2).bind fun z4 =>
    bif z2.2 != 0 then
      some true
    else
      bif z3.2 != 0 then
        some true
      else
        bif z4.2 != 0 then
          some true
        else
          bif decide (z2.1 > 0) then
            some true
          else
            bif decide (z3.1 > 0) then
              some true
            else
              bif decide (z4.1 ≤ 0) then
                bif decide (z4.1 < 0) then
                  some true
                else
                  bif z2.1 == 0 then
                    some (z3.1 == 0)
                  else
                    some false
              else
                some false
end Go.Proofs.Ytbpgpfigndlohaa
