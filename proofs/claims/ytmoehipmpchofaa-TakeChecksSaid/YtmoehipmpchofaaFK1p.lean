/- Plain functions, written by gen/tgl.py out of the program. -/
import Derived.Test.YtmoehipmpchofaaHT
import Derived.Test.YtmoehipmpchofaaTK
namespace Go.Proofs.Ytmoehipmpchofaa
open Go.RowKit P
set_option linter.unusedVariables false
set_option linter.unusedSimpArgs false
set_option maxRecDepth 100000
def ref_GreatStore_L2 (N : Nat) : Nat → (List VSeries) → Int → Option Bool
  | 0, _, _ => none
  | n + 1, x0, x3 =>
    bif decide (x3 < (x0.length : Int)) then
      (idxC x0 x3).bind fun z1 =>
      bif decide ((z1.Samples.length : Int) > 5000) then
        some true
      else
        ref_GreatStore_L2 N n x0 (w64 (x3 + 1))
    else
      some (decide ((x0.length : Int) > 500))
def ref_GreatStore (N : Nat) (x0 : List VSeries) : Option Bool :=
  ref_GreatStore_L2 N N x0 0
def ref_IsLetter (N : Nat) (x0 : UInt8) : Option Bool :=
  bif decide ((b2i x0) ≥ (b2i 97)) then
    bif decide ((b2i x0) ≤ (b2i 122)) then
      some true
    else
      bif decide ((b2i x0) ≥ (b2i 65)) then
        bif decide ((b2i x0) ≤ (b2i 90)) then
          some true
        else
          some ((b2i x0) == (b2i 95))
      else
        some ((b2i x0) == (b2i 95))
  else
    bif decide ((b2i x0) ≥ (b2i 65)) then
      bif decide ((b2i x0) ≤ (b2i 90)) then
        some true
      else
        some ((b2i x0) == (b2i 95))
    else
      some ((b2i x0) == (b2i 95))
def ref_IsNumeral (N : Nat) (x0 : UInt8) : Option Bool :=
  bif decide ((b2i x0) ≥ (b2i 48)) then
    some (decide ((b2i x0) ≤ (b2i 57)))
  else
    some false
def ref_IsName_R3 (N : Nat) (k2 : (List UInt8) → Int → Option Bool) (n : Nat) (x0 : List UInt8) (x3 : Int) : Option Bool :=
  k2 x0 (w64 (x3 + 1))
def ref_IsName_L2 (N : Nat) : Nat → (List UInt8) → Int → Option Bool
  | 0, _, _ => none
  | n + 1, x0, x3 =>
    bif decide (x3 < (x0.length : Int)) then
      (idxC x0 x3).bind fun z1 =>
      (ref_IsLetter N z1).bind fun z2 =>
      bif !z2 then
        bif x3 == 0 then
          some false
        else
          (idxC x0 x3).bind fun z3 =>
          (ref_IsNumeral N z3).bind fun z4 =>
          bif !z4 then
            some false
          else
            ref_IsName_R3 N (ref_IsName_L2 N n) n x0 x3
      else
        ref_IsName_R3 N (ref_IsName_L2 N n) n x0 x3
    else
      bif decide ((x0.length : Int) ≥ 1) then
        some (decide ((x0.length : Int) ≤ 40))
      else
        some false
def ref_IsName (N : Nat) (x0 : List UInt8) : Option Bool :=
  ref_IsName_L2 N N x0 0
def ref_EachLabel_R8 (N : Nat) (k4 : (List VLabel) → Bool → Int → Option Int) (n : Nat) (x0 : List VLabel) (x1 : Bool) (x5 : Int) : Option Int :=
  (idxC x0 x5).bind fun z4 =>
  bif decide ((z4.Value.length : Int) > 100) then
    some 2
  else
    k4 x0 x1 (w64 (x5 + 1))
def ref_EachLabel_L14 (N : Nat) (k11 : (List VLabel) → Int → Option Int) : Nat → (List VLabel) → Int → Int → Option Int
  | 0, _, _, _ => none
  | n + 1, x0, x6, x7 =>
    bif decide (x7 < x6) then
      (idxC x0 x7).bind fun z5 =>
      (idxC x0 x6).bind fun z6 =>
      bif decide (z5.Name = z6.Name) then
        some 6
      else
        ref_EachLabel_L14 N k11 n x0 x6 (w64 (x7 + 1))
    else
      k11 x0 (w64 (x6 + 1))
def ref_EachLabel_L11 (N : Nat) : Nat → (List VLabel) → Int → Option Int
  | 0, _, _ => none
  | n + 1, x0, x6 =>
    bif decide (x6 < (x0.length : Int)) then
      ref_EachLabel_L14 N (ref_EachLabel_L11 N n) n x0 x6 0
    else
      some 0
def ref_EachLabel_L4 (N : Nat) : Nat → (List VLabel) → Bool → Int → Option Int
  | 0, _, _, _ => none
  | n + 1, x0, x1, x5 =>
    bif decide (x5 < (x0.length : Int)) then
      (idxC x0 x5).bind fun z1 =>
      (ref_IsName N z1.Name).bind fun z2 =>
      bif !z2 then
        some 1
      else
        (idxC x0 x5).bind fun z3 =>
        bif decide (z3.Value = ([] : List UInt8)) then
          bif !x1 then
            some 1
          else
            ref_EachLabel_R8 N (ref_EachLabel_L4 N n) n x0 x1 x5
        else
          ref_EachLabel_R8 N (ref_EachLabel_L4 N n) n x0 x1 x5
    else
      ref_EachLabel_L11 N n x0 0
def ref_EachLabel (N : Nat) (x0 : List VLabel) (x1 : Bool) : Option Int :=
  bif decide ((x0.length : Int) > 20) then
    some 2
  else
    ref_EachLabel_L4 N N x0 x1 0
def ref_CheckLabels_R4 (N : Nat) (k3 : (List VLabel) → Int → Int → Option Int) (n : Nat) (x0 : List VLabel) (x3 : Int) (x4 : Int) : Option Int :=
  k3 x0 x3 (w64 (x4 + 1))
def ref_CheckLabels_L3 (N : Nat) : Nat → (List VLabel) → Int → Int → Option Int
  | 0, _, _, _ => none
  | n + 1, x0, x3, x4 =>
    bif decide (x4 < (x0.length : Int)) then
      bif x3 == 0 then
        (idxC x0 x4).bind fun z2 =>
        (idxC x0 (w64 (x4 - 1))).bind fun z3 =>
        bif Op.bytesLess z2.Name z3.Name then
          ref_CheckLabels_R4 N (ref_CheckLabels_L3 N n) n x0 4 x4
        else
          ref_CheckLabels_R4 N (ref_CheckLabels_L3 N n) n x0 x3 x4
      else
        some x3
    else
      some x3
def ref_CheckLabels (N : Nat) (x0 : List VLabel) : Option Int :=
  (ref_EachLabel N x0 false).bind fun z1 =>
  ref_CheckLabels_L3 N N x0 z1 1
def ref_IsTime (N : Nat) (x0 : Int) : Option Bool :=
  bif decide (x0 ≥ (-9007199254740991)) then
    some (decide (x0 ≤ 9007199254740991))
  else
    some false
def ref_Order_R7 (N : Nat) (k2 : (List VLabel) → (List VLabel) → Int → Option Int) (n : Nat) (x0 : List VLabel) (x1 : List VLabel) (x5 : Int) (x6 : List UInt8) (x7 : List UInt8) : Option Int :=
  bif Op.bytesLess x6 x7 then
    some (-1)
  else
    bif !(Op.bytesLess x6 x7 || decide (x6 = x7)) then
      some 1
    else
      k2 x0 x1 (w64 (x5 + 1))
def ref_Order_R11 (N : Nat) (n : Nat) (x0 : List VLabel) (x1 : List VLabel) : Option Int :=
  bif decide ((x0.length : Int) < (x1.length : Int)) then
    some (-1)
  else
    bif decide ((x0.length : Int) > (x1.length : Int)) then
      some 1
    else
      some 0
def ref_Order_L2 (N : Nat) : Nat → (List VLabel) → (List VLabel) → Int → Option Int
  | 0, _, _, _ => none
  | n + 1, x0, x1, x5 =>
    bif decide (x5 < (x0.length : Int)) then
      bif decide (x5 < (x1.length : Int)) then
        (idxC x0 x5).bind fun z1 =>
        (idxC x1 x5).bind fun z2 =>
        bif decide (z1.Name = z2.Name) then
          (idxC x0 x5).bind fun z3 =>
          (idxC x1 x5).bind fun z4 =>
          ref_Order_R7 N (ref_Order_L2 N n) n x0 x1 x5 z3.Value z4.Value
        else
          ref_Order_R7 N (ref_Order_L2 N n) n x0 x1 x5 z1.Name z2.Name
      else
        ref_Order_R11 N n x0 x1
    else
      ref_Order_R11 N n x0 x1
def ref_Order (N : Nat) (x0 : List VLabel) (x1 : List VLabel) : Option Int :=
  ref_Order_L2 N N x0 x1 0
def ref_CheckStore_L17 (N : Nat) (k4 : (List VSeries) → Int → Option Int) : Nat → (List VSeries) → Int → Int → Option Int
  | 0, _, _, _ => none
  | n + 1, x0, x3, x6 =>
    (idxC x0 x3).bind fun z12 =>
    bif decide (x6 < (z12.Samples.length : Int)) then
      (idxC x0 x3).bind fun z13 =>
      (idxC z13.Samples x6).bind fun z14 =>
      (idxC x0 x3).bind fun z15 =>
      (idxC z15.Samples (w64 (x6 - 1))).bind fun z16 =>
      bif decide (z14.Time ≤ z16.Time) then
        some 4
      else
        ref_CheckStore_L17 N k4 n x0 x3 (w64 (x6 + 1))
    else
      k4 x0 (w64 (x3 + 1))
def ref_CheckStore_L12 (N : Nat) (k4 : (List VSeries) → Int → Option Int) : Nat → (List VSeries) → Int → Int → Option Int
  | 0, _, _, _ => none
  | n + 1, x0, x3, x5 =>
    (idxC x0 x3).bind fun z5 =>
    bif decide (x5 < (z5.Samples.length : Int)) then
      (idxC x0 x3).bind fun z6 =>
      (idxC z6.Samples x5).bind fun z7 =>
      (ref_IsTime N z7.Time).bind fun z8 =>
      bif !z8 then
        some 3
      else
        ref_CheckStore_L12 N k4 n x0 x3 (w64 (x5 + 1))
    else
      ref_CheckStore_L17 N k4 n x0 x3 1
def ref_CheckStore_L22 (N : Nat) : Nat → (List VSeries) → Int → Option Int
  | 0, _, _ => none
  | n + 1, x0, x7 =>
    bif decide (x7 < (x0.length : Int)) then
      (idxC x0 (w64 (x7 - 1))).bind fun z9 =>
      (idxC x0 x7).bind fun z10 =>
      (ref_Order N z9.Labels z10.Labels).bind fun z11 =>
      bif decide (z11 ≥ 0) then
        some 4
      else
        ref_CheckStore_L22 N n x0 (w64 (x7 + 1))
    else
      some 0
def ref_CheckStore_L4 (N : Nat) : Nat → (List VSeries) → Int → Option Int
  | 0, _, _ => none
  | n + 1, x0, x3 =>
    bif decide (x3 < (x0.length : Int)) then
      (idxC x0 x3).bind fun z2 =>
      (ref_CheckLabels N z2.Labels).bind fun z3 =>
      bif z3 != 0 then
        some z3
      else
        (idxC x0 x3).bind fun z4 =>
        bif (z4.Samples.length : Int) == 0 then
          some 3
        else
          ref_CheckStore_L12 N (ref_CheckStore_L4 N n) n x0 x3 0
    else
      ref_CheckStore_L22 N n x0 1
def ref_CheckStore (N : Nat) (x0 : List VSeries) : Option Int :=
  (ref_GreatStore N x0).bind fun z1 =>
  bif z1 then
    some 2
  else
    ref_CheckStore_L4 N N x0 0
def law_TakeChecks (N : Nat) (x0 : List VSeries) : Option Bool :=
  (law_takeBegun N).bind fun z1 =>
  bif z1 then
    (take_Check N x0).bind fun z2 =>
    (ref_CheckStore N x0).bind fun z3 =>
    some (z2 == z3)
  else
    some false
def take_find_1 (N : Nat) (x0 : VSeries) (x1 : List VLabel) : Option Int :=
  (labels_Order N x0.Labels x1).bind fun z1 =>
  some z1
def slices_BinarySearchFunc_api_Series_api_Series_api_Label__i0_L3 (N : Nat) : Nat → (List VSeries) → (List VLabel) → Int → Int → Int → Option (Int × Bool)
  | 0, _, _, _, _, _ => none
  | n + 1, x0, x1, x8, x9, x10 =>
    bif decide (x9 < x10) then
      (shrC .u64 (IntKind.wrap .u64 (w64 (x9 + x10))) 1).bind fun z1 =>
      (idxC x0 (w64 z1)).bind fun z2 =>
      (take_find_1 N z2 x1).bind fun z3 =>
      bif decide (z3 < 0) then
        slices_BinarySearchFunc_api_Series_api_Series_api_Label__i0_L3 N n x0 x1 x8 (w64 ((w64 z1) + 1)) x10
      else
        slices_BinarySearchFunc_api_Series_api_Series_api_Label__i0_L3 N n x0 x1 x8 x9 (w64 z1)
    else
      bif decide (x9 < x8) then
        (idxC x0 x9).bind fun z4 =>
        (take_find_1 N z4 x1).bind fun z5 =>
        some (x9, z5 == 0)
      else
        some (x9, false)
def slices_BinarySearchFunc_api_Series_api_Series_api_Label__i0 (N : Nat) (x0 : List VSeries) (x1 : List VLabel) : Option (Int × Bool) :=
  slices_BinarySearchFunc_api_Series_api_Series_api_Label__i0_L3 N N x0 x1 (x0.length : Int) 0 (x0.length : Int)
def take_find (N : Nat) (x0 : List VSeries) (x1 : List VLabel) : Option (Int × Bool) :=
  (slices_BinarySearchFunc_api_Series_api_Series_api_Label__i0 N x0 x1).bind fun z1 =>
  some (z1.1, z1.2)
def take_Get_R4 (N : Nat) (n : Nat) (x0 : List VSeries) (x1 : List VLabel) (x6 : Int) : Option ((List VSample) × Int) :=
  bif x6 != 0 then
    some (([] : List VSample), x6)
  else
    (take_find N x0 x1).bind fun z3 =>
    bif !z3.2 then
      some (([] : List VSample), 5)
    else
      (idxC x0 z3.1).bind fun z4 =>
      (slices_Clone_api_Sample_api_Sample_ N z4.Samples).bind fun z5 =>
      some (z5, 0)
def take_Get (N : Nat) (x0 : List VSeries) (x1 : List VLabel) : Option ((List VSample) × Int) :=
  (take_Check N x0).bind fun z1 =>
  bif z1 == 0 then
    (labels_Check N x1).bind fun z2 =>
    take_Get_R4 N N x0 x1 z2
  else
    take_Get_R4 N N x0 x1 z1
def ref_SameLabels_L4 (N : Nat) : Nat → (List VLabel) → (List VLabel) → Int → Option Bool
  | 0, _, _, _ => none
  | n + 1, x0, x1, x5 =>
    bif decide (x5 < (x0.length : Int)) then
      (idxC x0 x5).bind fun z1 =>
      (idxC x1 x5).bind fun z2 =>
      bif !(beqS z1.Name z2.Name && (beqS z1.Value z2.Value && true)) then
        some false
      else
        ref_SameLabels_L4 N n x0 x1 (w64 (x5 + 1))
    else
      some true
def ref_SameLabels (N : Nat) (x0 : List VLabel) (x1 : List VLabel) : Option Bool :=
  bif (x0.length : Int) != (x1.length : Int) then
    some false
  else
    ref_SameLabels_L4 N N x0 x1 0
def ref_SameSamples_L4 (N : Nat) : Nat → (List VSample) → (List VSample) → Int → Option Bool
  | 0, _, _, _ => none
  | n + 1, x0, x1, x5 =>
    bif decide (x5 < (x0.length : Int)) then
      (idxC x0 x5).bind fun z1 =>
      (idxC x1 x5).bind fun z2 =>
      bif !(beqI z1.Time z2.Time && (beqI z1.Bits z2.Bits && true)) then
        some false
      else
        ref_SameSamples_L4 N n x0 x1 (w64 (x5 + 1))
    else
      some true
def ref_SameSamples (N : Nat) (x0 : List VSample) (x1 : List VSample) : Option Bool :=
  bif (x0.length : Int) != (x1.length : Int) then
    some false
  else
    ref_SameSamples_L4 N N x0 x1 0
def law_TakeGets_R10 (N : Nat) (k9 : (List VSeries) → (List VLabel) → (List VSample) → Int → Int → (List VSample) → Int → Option Bool) (n : Nat) (x0 : List VSeries) (x1 : List VLabel) (x5 : List VSample) (x6 : Int) (x7 : Int) (x8 : List VSample) (x9 : Int) : Option Bool :=
  k9 x0 x1 x5 x6 x7 x8 (w64 (x9 + 1))
def law_TakeGets_L9 (N : Nat) : Nat → (List VSeries) → (List VLabel) → (List VSample) → Int → Int → (List VSample) → Int → Option Bool
  | 0, _, _, _, _, _, _, _ => none
  | n + 1, x0, x1, x5, x6, x7, x8, x9 =>
    bif decide (x9 < (x0.length : Int)) then
      (idxC x0 x9).bind fun z6 =>
      (ref_SameLabels N z6.Labels x1).bind fun z7 =>
      bif z7 then
        (idxC x0 x9).bind fun z8 =>
        law_TakeGets_R10 N (law_TakeGets_L9 N n) n x0 x1 x5 x6 0 z8.Samples x9
      else
        law_TakeGets_R10 N (law_TakeGets_L9 N n) n x0 x1 x5 x6 x7 x8 x9
    else
      (law_takeBegun N).bind fun z9 =>
      bif z9 then
        bif x6 == x7 then
          (ref_SameSamples N x5 x8).bind fun z10 =>
          some z10
        else
          some false
      else
        some false
def law_TakeGets_R5 (N : Nat) (n : Nat) (x0 : List VSeries) (x1 : List VLabel) (x5 : List VSample) (x6 : Int) (x7 : Int) : Option Bool :=
  bif x7 == 0 then
    law_TakeGets_L9 N n x0 x1 x5 x6 5 ([] : List VSample) 0
  else
    (law_takeBegun N).bind fun z4 =>
    bif z4 then
      bif x6 == x7 then
        (ref_SameSamples N x5 ([] : List VSample)).bind fun z5 =>
        some z5
      else
        some false
    else
      some false
def law_TakeGets (N : Nat) (x0 : List VSeries) (x1 : List VLabel) : Option Bool :=
  (take_Get N x0 x1).bind fun z1 =>
  (ref_CheckStore N x0).bind fun z2 =>
  bif z2 == 0 then
    (ref_CheckLabels N x1).bind fun z3 =>
    law_TakeGets_R5 N N x0 x1 z1.1 z1.2 z3
  else
    law_TakeGets_R5 N N x0 x1 z1.1 z1.2 z2
end Go.Proofs.Ytmoehipmpchofaa
