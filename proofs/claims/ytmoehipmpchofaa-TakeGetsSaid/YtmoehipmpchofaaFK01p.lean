/- Plain functions, written by gen/tgl.py out of the program. -/
import Derived.Test.YtmoehipmpchofaaHT
import Derived.Test.YtmoehipmpchofaaIN2
namespace Go.Proofs.Ytmoehipmpchofaa
open Go.RowKit P
set_option linter.unusedVariables false
set_option linter.unusedSimpArgs false
set_option maxRecDepth 100000
def wire_many_L9 (N : Nat) (k4 : (List VSeries) → Int → Int → Option Bool) : Nat → (List VSeries) → Int → Int → (List VLabel) → Int → Int → Option Bool
  | 0, _, _, _, _, _, _ => none
  | n + 1, x10, x11, x12, x27, x28, x29 =>
    bif decide (x29 < x28) then
      (idxC x27 x29).bind fun z2 =>
      bif decide ((z2.Name.length : Int) > 20000) then
        some true
      else
        bif decide ((z2.Value.length : Int) > 20000) then
          some true
        else
          wire_many_L9 N k4 n x10 x11 x12 x27 x28 (w64 (x29 + 1))
    else
      k4 x10 x11 (w64 (x12 + 1))
def wire_many_L4 (N : Nat) : Nat → (List VSeries) → Int → Int → Option Bool
  | 0, _, _, _ => none
  | n + 1, x10, x11, x12 =>
    bif decide (x12 < x11) then
      (idxC x10 x12).bind fun z1 =>
      bif decide ((z1.Labels.length : Int) > 20) then
        some true
      else
        bif decide ((z1.Samples.length : Int) > 200) then
          some true
        else
          wire_many_L9 N (wire_many_L4 N n) n x10 x11 x12 z1.Labels (z1.Labels.length : Int) 0
    else
      some false
def wire_many (N : Nat) (x0 : List VSeries) : Option Bool :=
  bif decide ((x0.length : Int) > 200) then
    some true
  else
    wire_many_L4 N N x0 (x0.length : Int) 0
def wire_isTime (N : Nat) (x0 : Int) : Option Bool :=
  bif decide (x0 ≥ (-9007199254740991)) then
    some (decide (x0 ≤ 9007199254740991))
  else
    some false
def wire_times_L5 (N : Nat) (k2 : (List VSeries) → Int → Int → Option Bool) : Nat → (List VSeries) → Int → Int → (List VSample) → Int → Int → Option Bool
  | 0, _, _, _, _, _, _ => none
  | n + 1, x7, x8, x9, x14, x15, x16 =>
    bif decide (x16 < x15) then
      (idxC x14 x16).bind fun z2 =>
      (wire_isTime N z2.Time).bind fun z3 =>
      bif !z3 then
        some false
      else
        wire_times_L5 N k2 n x7 x8 x9 x14 x15 (w64 (x16 + 1))
    else
      k2 x7 x8 (w64 (x9 + 1))
def wire_times_L2 (N : Nat) : Nat → (List VSeries) → Int → Int → Option Bool
  | 0, _, _, _ => none
  | n + 1, x7, x8, x9 =>
    bif decide (x9 < x8) then
      (idxC x7 x9).bind fun z1 =>
      wire_times_L5 N (wire_times_L2 N n) n x7 x8 x9 z1.Samples (z1.Samples.length : Int) 0
    else
      some true
def wire_times (N : Nat) (x0 : List VSeries) : Option Bool :=
  wire_times_L2 N N x0 (x0.length : Int) 0
def wire_check (N : Nat) (x0 : List VSeries) : Option Int :=
  (wire_many N x0).bind fun z1 =>
  bif z1 then
    some 2
  else
    (wire_times N x0).bind fun z2 =>
    bif !z2 then
      some 3
    else
      some 0
def take_many_1 (N : Nat) (x0 : VSeries) : Option Bool :=
  some (decide ((x0.Samples.length : Int) > 5000))
def slices_IndexFunc_api_Series_api_Series__i0_L2 (N : Nat) : Nat → (List VSeries) → Int → Int → Option Int
  | 0, _, _, _ => none
  | n + 1, x0, x7, x8 =>
    bif decide (x8 < x7) then
      (idxC x0 x8).bind fun z1 =>
      (take_many_1 N z1).bind fun z2 =>
      bif z2 then
        some x8
      else
        slices_IndexFunc_api_Series_api_Series__i0_L2 N n x0 x7 (w64 (x8 + 1))
    else
      some (-1)
def slices_IndexFunc_api_Series_api_Series__i0 (N : Nat) (x0 : List VSeries) : Option Int :=
  slices_IndexFunc_api_Series_api_Series__i0_L2 N N x0 (x0.length : Int) 0
def slices_ContainsFunc_api_Series_api_Series__i0 (N : Nat) (x0 : List VSeries) : Option Bool :=
  (slices_IndexFunc_api_Series_api_Series__i0 N x0).bind fun z1 =>
  some (decide (z1 ≥ 0))
def take_many (N : Nat) (x0 : List VSeries) : Option Bool :=
  bif decide ((x0.length : Int) > 500) then
    some true
  else
    (slices_ContainsFunc_api_Series_api_Series__i0 N x0).bind fun z1 =>
    some z1
def labels_each_R9 (N : Nat) (k4 : (List VLabel) → Bool → (List VLabel) → Int → Int → Option Int) (n : Nat) (x0 : List VLabel) (x1 : Bool) (x13 : List VLabel) (x14 : Int) (x15 : Int) (b6 : VLabel) : Option Int :=
  bif decide ((b6.Value.length : Int) > 100) then
    some 2
  else
    k4 x0 x1 x13 x14 (w64 (x15 + 1))
def labels_each_L14 (N : Nat) : Nat → (List VLabel) → Int → Int → (List (List UInt8 × Bool)) → Option Int
  | 0, _, _, _, _ => none
  | n + 1, x38, x39, x40, b37 =>
    bif decide (x40 < x39) then
      (idxC x38 x40).bind fun z3 =>
      bif (mget b37 z3.Name).getD false then
        some 6
      else
        labels_each_L14 N n x38 x39 (w64 (x40 + 1)) (mset b37 z3.Name true)
    else
      some 0
def labels_each_L4 (N : Nat) : Nat → (List VLabel) → Bool → (List VLabel) → Int → Int → Option Int
  | 0, _, _, _, _, _ => none
  | n + 1, x0, x1, x13, x14, x15 =>
    bif decide (x15 < x14) then
      (idxC x13 x15).bind fun z1 =>
      (labels_IsName N z1.Name).bind fun z2 =>
      bif !z2 then
        some 1
      else
        bif decide (z1.Value = ([] : List UInt8)) then
          bif !x1 then
            some 1
          else
            labels_each_R9 N (labels_each_L4 N n) n x0 x1 x13 x14 x15 z1
        else
          labels_each_R9 N (labels_each_L4 N n) n x0 x1 x13 x14 x15 z1
    else
      labels_each_L14 N n x0 (x0.length : Int) 0 ([] : List (List UInt8 × Bool))
def labels_each (N : Nat) (x0 : List VLabel) (x1 : Bool) : Option Int :=
  bif decide ((x0.length : Int) > 20) then
    some 2
  else
    labels_each_L4 N N x0 x1 x0 (x0.length : Int) 0
def cmp_isNaN_string_ (N : Nat) (x0 : List UInt8) : Option Bool :=
  some (!decide (x0 = x0))
def cmp_Compare_string_ (N : Nat) (x0 : List UInt8) (x1 : List UInt8) : Option Int :=
  (cmp_isNaN_string_ N x0).bind fun z1 =>
  (cmp_isNaN_string_ N x1).bind fun z2 =>
  bif z1 then
    bif z2 then
      some 0
    else
      some (-1)
  else
    bif z2 then
      some 1
    else
      bif Op.bytesLess x0 x1 then
        some (-1)
      else
        bif !(Op.bytesLess x0 x1 || decide (x0 = x1)) then
          some 1
        else
          some 0
def labels_byName (N : Nat) (x0 : VLabel) (x1 : VLabel) : Option Int :=
  (cmp_Compare_string_ N x0.Name x1.Name).bind fun z1 =>
  some z1
def slices_IsSortedFunc_api_Label_api_Label__i0_L2 (N : Nat) : Nat → (List VLabel) → Int → Option Bool
  | 0, _, _ => none
  | n + 1, x0, x5 =>
    bif decide (x5 > 0) then
      (idxC x0 x5).bind fun z1 =>
      (idxC x0 (w64 (x5 - 1))).bind fun z2 =>
      (labels_byName N z1 z2).bind fun z3 =>
      bif decide (z3 < 0) then
        some false
      else
        slices_IsSortedFunc_api_Label_api_Label__i0_L2 N n x0 (w64 (x5 - 1))
    else
      some true
def slices_IsSortedFunc_api_Label_api_Label__i0 (N : Nat) (x0 : List VLabel) : Option Bool :=
  slices_IsSortedFunc_api_Label_api_Label__i0_L2 N N x0 (w64 ((x0.length : Int) - 1))
def labels_Check (N : Nat) (x0 : List VLabel) : Option Int :=
  (labels_each N x0 false).bind fun z1 =>
  bif z1 != 0 then
    some z1
  else
    (slices_IsSortedFunc_api_Label_api_Label__i0 N x0).bind fun z2 =>
    bif !z2 then
      some 4
    else
      some 0
def take_isTime (N : Nat) (x0 : Int) : Option Bool :=
  bif decide (x0 ≥ (-9007199254740991)) then
    some (decide (x0 ≤ 9007199254740991))
  else
    some false
def take_Check_1 (N : Nat) (x0 : VSample) : Option Bool :=
  (take_isTime N x0.Time).bind fun z1 =>
  some (!z1)
def cmp_Or_int__L3 (N : Nat) : Nat → Int → (List Int) → Int → Int → Option Int
  | 0, _, _, _, _ => none
  | n + 1, x3, x6, x7, x8 =>
    bif decide (x8 < x7) then
      (idxC x6 x8).bind fun z1 =>
      bif z1 != x3 then
        some z1
      else
        cmp_Or_int__L3 N n x3 x6 x7 (w64 (x8 + 1))
    else
      some x3
def cmp_Or_int_ (N : Nat) (x0 : List Int) : Option Int :=
  cmp_Or_int__L3 N N 0 x0 (x0.length : Int) 0
def labels_Order_1 (N : Nat) (x0 : VLabel) (x1 : VLabel) : Option Int :=
  (cmp_Compare_string_ N x0.Name x1.Name).bind fun z1 =>
  (cmp_Compare_string_ N x0.Value x1.Value).bind fun z2 =>
  (cmp_Or_int_ N ([z1, z2] : List Int)).bind fun z3 =>
  some z3
def slices_CompareFunc_api_Label_api_Label_api_Label_api_Label__i0_L2 (N : Nat) : Nat → (List VLabel) → (List VLabel) → (List VLabel) → Int → Int → Option Int
  | 0, _, _, _, _, _ => none
  | n + 1, x0, x1, x11, x12, x13 =>
    bif decide (x13 < x12) then
      (idxC x11 x13).bind fun z1 =>
      bif decide (x13 ≥ (x1.length : Int)) then
        some 1
      else
        (idxC x1 x13).bind fun z2 =>
        (labels_Order_1 N z1 z2).bind fun z3 =>
        bif z3 != 0 then
          some z3
        else
          slices_CompareFunc_api_Label_api_Label_api_Label_api_Label__i0_L2 N n x0 x1 x11 x12 (w64 (x13 + 1))
    else
      bif decide ((x0.length : Int) < (x1.length : Int)) then
        some (-1)
      else
        some 0
def slices_CompareFunc_api_Label_api_Label_api_Label_api_Label__i0 (N : Nat) (x0 : List VLabel) (x1 : List VLabel) : Option Int :=
  slices_CompareFunc_api_Label_api_Label_api_Label_api_Label__i0_L2 N N x0 x1 x0 (x0.length : Int) 0
def labels_Order (N : Nat) (x0 : List VLabel) (x1 : List VLabel) : Option Int :=
  (slices_CompareFunc_api_Label_api_Label_api_Label_api_Label__i0 N x0 x1).bind fun z1 =>
  some z1
def slices_IndexFunc_api_Sample_api_Sample__i0_L2 (N : Nat) : Nat → (List VSample) → Int → Int → Option Int
  | 0, _, _, _ => none
  | n + 1, x0, x7, x8 =>
    bif decide (x8 < x7) then
      (idxC x0 x8).bind fun z1 =>
      (take_Check_1 N z1).bind fun z2 =>
      bif z2 then
        some x8
      else
        slices_IndexFunc_api_Sample_api_Sample__i0_L2 N n x0 x7 (w64 (x8 + 1))
    else
      some (-1)
def slices_IndexFunc_api_Sample_api_Sample__i0 (N : Nat) (x0 : List VSample) : Option Int :=
  slices_IndexFunc_api_Sample_api_Sample__i0_L2 N N x0 (x0.length : Int) 0
def slices_ContainsFunc_api_Sample_api_Sample__i0 (N : Nat) (x0 : List VSample) : Option Bool :=
  (slices_IndexFunc_api_Sample_api_Sample__i0 N x0).bind fun z1 =>
  some (decide (z1 ≥ 0))
def take_Check_L12 (N : Nat) (k4 : (List VSeries) → (List VSeries) → Int → Int → Option Int) : Nat → (List VSeries) → Int → (List VSeries) → Int → Int → VSeries → Option Int
  | 0, _, _, _, _, _, _ => none
  | n + 1, x0, x6, x10, x11, x12, b4 =>
    bif decide (x6 < (b4.Samples.length : Int)) then
      (idxC b4.Samples x6).bind fun z5 =>
      (idxC b4.Samples (w64 (x6 - 1))).bind fun z6 =>
      bif decide (z5.Time ≤ z6.Time) then
        some 4
      else
        take_Check_L12 N k4 n x0 (w64 (x6 + 1)) x10 x11 x12 b4
    else
      k4 x0 x10 x11 (w64 (x12 + 1))
def take_Check_L18 (N : Nat) : Nat → (List VSeries) → Int → Option Int
  | 0, _, _ => none
  | n + 1, x0, x7 =>
    bif decide (x7 < (x0.length : Int)) then
      (idxC x0 (w64 (x7 - 1))).bind fun z7 =>
      (idxC x0 x7).bind fun z8 =>
      (labels_Order N z7.Labels z8.Labels).bind fun z9 =>
      bif decide (z9 ≥ 0) then
        some 4
      else
        take_Check_L18 N n x0 (w64 (x7 + 1))
    else
      some 0
def take_Check_L4 (N : Nat) : Nat → (List VSeries) → (List VSeries) → Int → Int → Option Int
  | 0, _, _, _, _ => none
  | n + 1, x0, x10, x11, x12 =>
    bif decide (x12 < x11) then
      (idxC x10 x12).bind fun z2 =>
      (labels_Check N z2.Labels).bind fun z3 =>
      bif z3 != 0 then
        some z3
      else
        bif (z2.Samples.length : Int) == 0 then
          some 3
        else
          (slices_ContainsFunc_api_Sample_api_Sample__i0 N z2.Samples).bind fun z4 =>
          bif z4 then
            some 3
          else
            take_Check_L12 N (take_Check_L4 N n) n x0 1 x10 x11 x12 z2
    else
      take_Check_L18 N n x0 1
def take_Check (N : Nat) (x0 : List VSeries) : Option Int :=
  (take_many N x0).bind fun z1 =>
  bif z1 then
    some 2
  else
    take_Check_L4 N N x0 x0 (x0.length : Int) 0
def slices_Clone_api_Label_api_Label_ (N : Nat) (x0 : List VLabel) : Option (List VLabel) :=
  (appC 32 ([] : List VLabel) x0).bind fun z1 =>
  some z1
def slices_Clone_api_Sample_api_Sample_ (N : Nat) (x0 : List VSample) : Option (List VSample) :=
  (appC 16 ([] : List VSample) x0).bind fun z1 =>
  some z1
def take_clone_L3 (N : Nat) : Nat → (List VSeries) → (List VSeries) → Int → Int → Option (List VSeries)
  | 0, _, _, _, _ => none
  | n + 1, x3, x6, x7, x8 =>
    bif decide (x8 < x7) then
      (idxC x6 x8).bind fun z1 =>
      (slices_Clone_api_Label_api_Label_ N z1.Labels).bind fun z2 =>
      (slices_Clone_api_Sample_api_Sample_ N z1.Samples).bind fun z3 =>
      (appC 48 x3 ([({ Labels := z2, Samples := z3 } : VSeries)] : List VSeries)).bind fun z4 =>
      take_clone_L3 N n z4 x6 x7 (w64 (x8 + 1))
    else
      some x3
def take_clone (N : Nat) (x0 : List VSeries) : Option (List VSeries) :=
  take_clone_L3 N N ([] : List VSeries) x0 (x0.length : Int) 0
end Go.Proofs.Ytmoehipmpchofaa
