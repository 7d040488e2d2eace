/- Plain functions, written by gen/tgl.py out of the program. -/
import Derived.Test.YtofidfkojmbdoaaHT
import Derived.Test.YtofidfkojmbdoaaIN2
import Derived.Test.YtofidfkojmbdoaaPH
import Derived.Test.YtofidfkojmbdoaaCL
namespace Go.Proofs.Ytofidfkojmbdoaa
open Go.RowKit P
set_option linter.unusedVariables false
set_option linter.unusedSimpArgs false
set_option maxRecDepth 100000
/-! ### gleaner/gleanerref.CheckShard$1 -/
def ref_CheckShard_1 (N : Nat) (x0 : Int) (x1 : Int) (x2 : Int) : Option Bool :=
  bif decide (x0 ≥ x1) then
    some (decide (x0 ≤ x2))
  else
    some false
/-! ### gleaner/gleanerref.IsTime -/
def ref_IsTime (N : Nat) (x0 : Int) : Option Bool :=
  bif decide (x0 ≥ (-9007199254740991)) then
    some (decide (x0 ≤ 9007199254740991))
  else
    some false
/-! ### gleaner/gleanerref.IsLetter -/
def ref_IsLetter (N : Nat) (x0 : UInt8) : Option Bool :=
  bif decide ((b2i x0) ≥ (b2i 97)) then
    bif decide ((b2i x0) ≤ (b2i 122)) then
      some true
    else
      bif decide ((b2i x0) ≥ (b2i 65)) then
        bif decide ((b2i x0) ≤ (b2i 90)) then
          some true
        else
          some ((b2i x0) == (b2i 95))
      else
        some ((b2i x0) == (b2i 95))
  else
    bif decide ((b2i x0) ≥ (b2i 65)) then
      bif decide ((b2i x0) ≤ (b2i 90)) then
        some true
      else
        some ((b2i x0) == (b2i 95))
    else
      some ((b2i x0) == (b2i 95))
/-! ### gleaner/gleanerref.IsNumeral -/
def ref_IsNumeral (N : Nat) (x0 : UInt8) : Option Bool :=
  bif decide ((b2i x0) ≥ (b2i 48)) then
    some (decide ((b2i x0) ≤ (b2i 57)))
  else
    some false
/-! ### gleaner/gleanerref.IsName -/
def ref_IsName_R3 (N : Nat) (k2 : (List UInt8) → Int → Option Bool) (n : Nat) (x0 : List UInt8) (x3 : Int) : Option Bool :=
  k2 x0 (w64 (x3 + 1))
def ref_IsName_L2 (N : Nat) : Nat → (List UInt8) → Int → Option Bool
  | 0, _, _ => none
  | n + 1, x0, x3 =>
    bif decide (x3 < (x0.length : Int)) then
      (idxC x0 x3).bind fun z1 =>
      (ref_IsLetter N z1).bind fun z2 =>
      bif !z2 then
        bif x3 == 0 then
          some false
        else
          (idxC x0 x3).bind fun z3 =>
          (ref_IsNumeral N z3).bind fun z4 =>
          bif !z4 then
            some false
          else
            ref_IsName_R3 N (ref_IsName_L2 N n) n x0 x3
      else
        ref_IsName_R3 N (ref_IsName_L2 N n) n x0 x3
    else
      bif decide ((x0.length : Int) ≥ 1) then
        some (decide ((x0.length : Int) ≤ 40))
      else
        some false
def ref_IsName (N : Nat) (x0 : List UInt8) : Option Bool :=
  ref_IsName_L2 N N x0 0
/-! ### gleaner/gleanerref.EachLabel -/
def ref_EachLabel_R8 (N : Nat) (k4 : (List VLabel) → Bool → Int → Option Int) (n : Nat) (x0 : List VLabel) (x1 : Bool) (x5 : Int) : Option Int :=
  (idxC x0 x5).bind fun z4 =>
  bif decide ((z4.Value.length : Int) > 100) then
    some 2
  else
    k4 x0 x1 (w64 (x5 + 1))
def ref_EachLabel_L14 (N : Nat) (k11 : (List VLabel) → Int → Option Int) : Nat → (List VLabel) → Int → Int → Option Int
  | 0, _, _, _ => none
  | n + 1, x0, x6, x7 =>
    bif decide (x7 < x6) then
      (idxC x0 x7).bind fun z5 =>
      (idxC x0 x6).bind fun z6 =>
      bif decide (z5.Name = z6.Name) then
        some 6
      else
        ref_EachLabel_L14 N k11 n x0 x6 (w64 (x7 + 1))
    else
      k11 x0 (w64 (x6 + 1))
def ref_EachLabel_L11 (N : Nat) : Nat → (List VLabel) → Int → Option Int
  | 0, _, _ => none
  | n + 1, x0, x6 =>
    bif decide (x6 < (x0.length : Int)) then
      ref_EachLabel_L14 N (ref_EachLabel_L11 N n) n x0 x6 0
    else
      some 0
def ref_EachLabel_L4 (N : Nat) : Nat → (List VLabel) → Bool → Int → Option Int
  | 0, _, _, _ => none
  | n + 1, x0, x1, x5 =>
    bif decide (x5 < (x0.length : Int)) then
      (idxC x0 x5).bind fun z1 =>
      (ref_IsName N z1.Name).bind fun z2 =>
      bif !z2 then
        some 1
      else
        (idxC x0 x5).bind fun z3 =>
        bif decide (z3.Value = ([] : List UInt8)) then
          bif !x1 then
            some 1
          else
            ref_EachLabel_R8 N (ref_EachLabel_L4 N n) n x0 x1 x5
        else
          ref_EachLabel_R8 N (ref_EachLabel_L4 N n) n x0 x1 x5
    else
      ref_EachLabel_L11 N n x0 0
def ref_EachLabel (N : Nat) (x0 : List VLabel) (x1 : Bool) : Option Int :=
  bif decide ((x0.length : Int) > 20) then
    some 2
  else
    ref_EachLabel_L4 N N x0 x1 0
/-! ### gleaner/gleanerref.CheckLabels -/
def ref_CheckLabels_R4 (N : Nat) (k3 : (List VLabel) → Int → Int → Option Int) (n : Nat) (x0 : List VLabel) (x3 : Int) (x4 : Int) : Option Int :=
  k3 x0 x3 (w64 (x4 + 1))
def ref_CheckLabels_L3 (N : Nat) : Nat → (List VLabel) → Int → Int → Option Int
  | 0, _, _, _ => none
  | n + 1, x0, x3, x4 =>
    bif decide (x4 < (x0.length : Int)) then
      bif x3 == 0 then
        (idxC x0 x4).bind fun z2 =>
        (idxC x0 (w64 (x4 - 1))).bind fun z3 =>
        bif Op.bytesLess z2.Name z3.Name then
          ref_CheckLabels_R4 N (ref_CheckLabels_L3 N n) n x0 4 x4
        else
          ref_CheckLabels_R4 N (ref_CheckLabels_L3 N n) n x0 x3 x4
      else
        some x3
    else
      some x3
def ref_CheckLabels (N : Nat) (x0 : List VLabel) : Option Int :=
  (ref_EachLabel N x0 false).bind fun z1 =>
  ref_CheckLabels_L3 N N x0 z1 1
/-! ### gleaner/gleanerref.CheckItem -/
def ref_CheckItem (N : Nat) (x0 : VItem) : Option Int :=
  bif decide (x0.Number < 0) then
    some 3
  else
    (ref_IsTime N x0.Sample.Time).bind fun z1 =>
    bif !z1 then
      some 3
    else
      (ref_CheckLabels N x0.Labels).bind fun z2 =>
      some z2
/-! ### gleaner/gleanerref.CheckShard -/
def ref_CheckShard_R3 (N : Nat) (n : Nat) : Option Int :=
  some 3
def ref_CheckShard_L13 (N : Nat) : Nat → Int → VShard → Option Int
  | 0, _, _ => none
  | n + 1, x6, b1 =>
    bif decide (x6 < (b1.Items.length : Int)) then
      (idxC b1.Items x6).bind fun z9 =>
      (idxC b1.Items (w64 (x6 - 1))).bind fun z10 =>
      bif decide (z9.Number ≤ z10.Number) then
        some 4
      else
        ref_CheckShard_L13 N n (w64 (x6 + 1)) b1
    else
      some 0
def ref_CheckShard_L7 (N : Nat) : Nat → Int → VShard → Option Int
  | 0, _, _ => none
  | n + 1, x4, b1 =>
    bif decide (x4 < (b1.Items.length : Int)) then
      (idxC b1.Items x4).bind fun z7 =>
      (ref_CheckItem N z7).bind fun z8 =>
      bif z8 != 0 then
        some z8
      else
        ref_CheckShard_L7 N n (w64 (x4 + 1)) b1
    else
      ref_CheckShard_L13 N n 1 b1
def ref_CheckShard_R4 (N : Nat) (n : Nat) (b1 : VShard) : Option Int :=
  bif decide ((b1.Items.length : Int) > b1.Room) then
    some 2
  else
    ref_CheckShard_L7 N n 0 b1
def ref_CheckShard (N : Nat) (x0 : VShard) : Option Int :=
  (ref_CheckShard_1 N x0.Batch 1 200).bind fun z1 =>
  bif !z1 then
    ref_CheckShard_R3 N N
  else
    (ref_CheckShard_1 N x0.Room 1 100).bind fun z2 =>
    bif !z2 then
      ref_CheckShard_R3 N N
    else
      (ref_CheckShard_1 N x0.First 1 x0.Most).bind fun z3 =>
      bif !z3 then
        ref_CheckShard_R3 N N
      else
        bif decide (x0.Most > 100000) then
          ref_CheckShard_R3 N N
        else
          bif x0.Waits != 0 then
            (ref_CheckShard_1 N x0.Waits x0.First x0.Most).bind fun z4 =>
            bif !z4 then
              ref_CheckShard_R3 N N
            else
              (ref_IsTime N x0.Till).bind fun z5 =>
              bif !z5 then
                ref_CheckShard_R3 N N
              else
                ref_CheckShard_R4 N N x0
          else
            (ref_IsTime N x0.Till).bind fun z6 =>
            bif !z6 then
              ref_CheckShard_R3 N N
            else
              ref_CheckShard_R4 N N x0
/-! ### gleaner/shard.within -/
def shard_within (N : Nat) (x0 : Int) (x1 : Int) (x2 : Int) : Option Bool :=
  bif decide (x0 ≥ x1) then
    some (decide (x0 ≤ x2))
  else
    some false
/-! ### gleaner/labels.each -/
def labels_each_R9 (N : Nat) (k4 : (List VLabel) → Bool → (List VLabel) → Int → Int → Option Int) (n : Nat) (x0 : List VLabel) (x1 : Bool) (x13 : List VLabel) (x14 : Int) (x15 : Int) (b6 : VLabel) : Option Int :=
  bif decide ((b6.Value.length : Int) > 100) then
    some 2
  else
    k4 x0 x1 x13 x14 (w64 (x15 + 1))
def labels_each_L14 (N : Nat) : Nat → (List VLabel) → Int → Int → (List (List UInt8 × Bool)) → Option Int
  | 0, _, _, _, _ => none
  | n + 1, x38, x39, x40, b37 =>
    bif decide (x40 < x39) then
      (idxC x38 x40).bind fun z3 =>
      bif (mget b37 z3.Name).getD false then
        some 6
      else
        labels_each_L14 N n x38 x39 (w64 (x40 + 1)) (mset b37 z3.Name true)
    else
      some 0
def labels_each_L4 (N : Nat) : Nat → (List VLabel) → Bool → (List VLabel) → Int → Int → Option Int
  | 0, _, _, _, _, _ => none
  | n + 1, x0, x1, x13, x14, x15 =>
    bif decide (x15 < x14) then
      (idxC x13 x15).bind fun z1 =>
      (labels_IsName N z1.Name).bind fun z2 =>
      bif !z2 then
        some 1
      else
        bif decide (z1.Value = ([] : List UInt8)) then
          bif !x1 then
            some 1
          else
            labels_each_R9 N (labels_each_L4 N n) n x0 x1 x13 x14 x15 z1
        else
          labels_each_R9 N (labels_each_L4 N n) n x0 x1 x13 x14 x15 z1
    else
      labels_each_L14 N n x0 (x0.length : Int) 0 ([] : List (List UInt8 × Bool))
def labels_each (N : Nat) (x0 : List VLabel) (x1 : Bool) : Option Int :=
  bif decide ((x0.length : Int) > 20) then
    some 2
  else
    labels_each_L4 N N x0 x1 x0 (x0.length : Int) 0
/-! ### cmp.isNaN[string] -/
def cmp_isNaN_string_ (N : Nat) (x0 : List UInt8) : Option Bool :=
  some (!decide (x0 = x0))
/-! ### cmp.Compare[string] -/
def cmp_Compare_string_ (N : Nat) (x0 : List UInt8) (x1 : List UInt8) : Option Int :=
  (cmp_isNaN_string_ N x0).bind fun z1 =>
  (cmp_isNaN_string_ N x1).bind fun z2 =>
  bif z1 then
    bif z2 then
      some 0
    else
      some (-1)
  else
    bif z2 then
      some 1
    else
      bif Op.bytesLess x0 x1 then
        some (-1)
      else
        bif !(Op.bytesLess x0 x1 || decide (x0 = x1)) then
          some 1
        else
          some 0
/-! ### gleaner/labels.byName -/
def labels_byName (N : Nat) (x0 : VLabel) (x1 : VLabel) : Option Int :=
  (cmp_Compare_string_ N x0.Name x1.Name).bind fun z1 =>
  some z1
/-! ### slices.IsSortedFunc[[]gleaner/api.Label,gleaner/api.Label] -/
def slices_IsSortedFunc_api_Label_api_Label__i0_L2 (N : Nat) : Nat → (List VLabel) → Int → Option Bool
  | 0, _, _ => none
  | n + 1, x0, x5 =>
    bif decide (x5 > 0) then
      (idxC x0 x5).bind fun z1 =>
      (idxC x0 (w64 (x5 - 1))).bind fun z2 =>
      (labels_byName N z1 z2).bind fun z3 =>
      bif decide (z3 < 0) then
        some false
      else
        slices_IsSortedFunc_api_Label_api_Label__i0_L2 N n x0 (w64 (x5 - 1))
    else
      some true
def slices_IsSortedFunc_api_Label_api_Label__i0 (N : Nat) (x0 : List VLabel) : Option Bool :=
  slices_IsSortedFunc_api_Label_api_Label__i0_L2 N N x0 (w64 ((x0.length : Int) - 1))
/-! ### gleaner/labels.Check -/
def labels_Check (N : Nat) (x0 : List VLabel) : Option Int :=
  (labels_each N x0 false).bind fun z1 =>
  bif z1 != 0 then
    some z1
  else
    (slices_IsSortedFunc_api_Label_api_Label__i0 N x0).bind fun z2 =>
    bif !z2 then
      some 4
    else
      some 0
/-! ### gleaner/labels.check -/
def labels_check_L2 (N : Nat) : Nat → (List (List VLabel)) → Int → Int → Option Int
  | 0, _, _, _ => none
  | n + 1, x6, x7, x8 =>
    bif decide (x8 < x7) then
      (idxC x6 x8).bind fun z1 =>
      (labels_Check N z1).bind fun z2 =>
      bif z2 != 0 then
        some z2
      else
        labels_check_L2 N n x6 x7 (w64 (x8 + 1))
    else
      some 0
def labels_check (N : Nat) (x0 : List (List VLabel)) : Option Int :=
  labels_check_L2 N N x0 (x0.length : Int) 0
/-! ### gleaner/labels.sum -/
def labels_sum_L2 (N : Nat) : Nat → Int → (List UInt8) → Int → Int → Option Int
  | 0, _, _, _, _ => none
  | n + 1, x0, x10, x11, x12 =>
    bif decide (x12 < x11) then
      (idxC x10 x12).bind fun z2 =>
      labels_sum_L2 N n (IntKind.wrap .u64 ((bits .xor .u64 x0 (IntKind.wrap .u64 (b2i z2))) * 1099511628211)) x10 x11 (w64 (x12 + 1))
    else
      some x0
def labels_sum (N : Nat) (x0 : Int) (x1 : List UInt8) : Option Int :=
  (appC 1 x1 ([255] : List UInt8)).bind fun z1 =>
  labels_sum_L2 N N x0 z1 (z1.length : Int) 0
/-! ### gleaner/labels.RawSum -/
def labels_RawSum_L3 (N : Nat) : Nat → Int → (List VLabel) → Int → Int → Option Int
  | 0, _, _, _, _ => none
  | n + 1, x3, x6, x7, x8 =>
    bif decide (x8 < x7) then
      (idxC x6 x8).bind fun z1 =>
      (labels_sum N x3 z1.Name).bind fun z2 =>
      (labels_sum N z2 z1.Value).bind fun z3 =>
      labels_RawSum_L3 N n z3 x6 x7 (w64 (x8 + 1))
    else
      some x3
def labels_RawSum (N : Nat) (x0 : List VLabel) : Option Int :=
  labels_RawSum_L3 N N 14695981039346656037 x0 (x0.length : Int) 0
/-! ### gleaner/labels.Sum -/
def labels_Sum (N : Nat) (x0 : List VLabel) : Option (Int × Int) :=
  (labels_check N ([x0] : List (List VLabel))).bind fun z1 =>
  bif z1 != 0 then
    some (0, z1)
  else
    (labels_RawSum N x0).bind fun z2 =>
    some (z2, 0)
/-! ### gleaner/shard.Which -/
def shard_Which (N : Nat) (x0 : List VLabel) (x1 : Int) : Option (Int × Int) :=
  (shard_within N x1 1 8).bind fun z1 =>
  bif !z1 then
    some (0, 3)
  else
    (labels_Sum N x0).bind fun z2 =>
    (remC z2.1 (IntKind.wrap .u64 x1)).bind fun z3 =>
    some (w64 z3, z2.2)
end Go.Proofs.Ytofidfkojmbdoaa
