/- Plain functions, written by gen/tgl.py out of the program. -/
import Derived.Test.YtofidfkojmbdoaaHT
import Derived.Test.YtofidfkojmbdoaaIN2
import Derived.Test.YtofidfkojmbdoaaPH
import Derived.Test.YtofidfkojmbdoaaCL
namespace Go.Proofs.Ytofidfkojmbdoaa
open Go.RowKit P
set_option linter.unusedVariables false
set_option linter.unusedSimpArgs false
set_option maxRecDepth 100000
/-! ### gleaner/shard.within -/
def shard_within (N : Nat) (x0 : Int) (x1 : Int) (x2 : Int) : Option Bool :=
  bif decide (x0 ≥ x1) then
    some (decide (x0 ≤ x2))
  else
    some false
/-! ### gleaner/shard.isTime -/
def shard_isTime (N : Nat) (x0 : Int) : Option Bool :=
  (shard_within N x0 (-9007199254740991) 9007199254740991).bind fun z1 =>
  some z1
/-! ### gleaner/labels.each -/
def labels_each_R9 (N : Nat) (k4 : (List VLabel) → Bool → (List VLabel) → Int → Int → Option Int) (n : Nat) (x0 : List VLabel) (x1 : Bool) (x13 : List VLabel) (x14 : Int) (x15 : Int) (b6 : VLabel) : Option Int :=
  bif decide ((b6.Value.length : Int) > 100) then
    some 2
  else
    k4 x0 x1 x13 x14 (w64 (x15 + 1))
def labels_each_L14 (N : Nat) : Nat → (List VLabel) → Int → Int → (List (List UInt8 × Bool)) → Option Int
  | 0, _, _, _, _ => none
  | n + 1, x38, x39, x40, b37 =>
    bif decide (x40 < x39) then
      (idxC x38 x40).bind fun z3 =>
      bif (mget b37 z3.Name).getD false then
        some 6
      else
        labels_each_L14 N n x38 x39 (w64 (x40 + 1)) (mset b37 z3.Name true)
    else
      some 0
def labels_each_L4 (N : Nat) : Nat → (List VLabel) → Bool → (List VLabel) → Int → Int → Option Int
  | 0, _, _, _, _, _ => none
  | n + 1, x0, x1, x13, x14, x15 =>
    bif decide (x15 < x14) then
      (idxC x13 x15).bind fun z1 =>
      (labels_IsName N z1.Name).bind fun z2 =>
      bif !z2 then
        some 1
      else
        bif decide (z1.Value = ([] : List UInt8)) then
          bif !x1 then
            some 1
          else
            labels_each_R9 N (labels_each_L4 N n) n x0 x1 x13 x14 x15 z1
        else
          labels_each_R9 N (labels_each_L4 N n) n x0 x1 x13 x14 x15 z1
    else
      labels_each_L14 N n x0 (x0.length : Int) 0 ([] : List (List UInt8 × Bool))
def labels_each (N : Nat) (x0 : List VLabel) (x1 : Bool) : Option Int :=
  bif decide ((x0.length : Int) > 20) then
    some 2
  else
    labels_each_L4 N N x0 x1 x0 (x0.length : Int) 0
/-! ### cmp.isNaN[string] -/
def cmp_isNaN_string_ (N : Nat) (x0 : List UInt8) : Option Bool :=
  some (!decide (x0 = x0))
/-! ### cmp.Compare[string] -/
def cmp_Compare_string_ (N : Nat) (x0 : List UInt8) (x1 : List UInt8) : Option Int :=
  (cmp_isNaN_string_ N x0).bind fun z1 =>
  (cmp_isNaN_string_ N x1).bind fun z2 =>
  bif z1 then
    bif z2 then
      some 0
    else
      some (-1)
  else
    bif z2 then
      some 1
    else
      bif Op.bytesLess x0 x1 then
        some (-1)
      else
        bif !(Op.bytesLess x0 x1 || decide (x0 = x1)) then
          some 1
        else
          some 0
/-! ### gleaner/labels.byName -/
def labels_byName (N : Nat) (x0 : VLabel) (x1 : VLabel) : Option Int :=
  (cmp_Compare_string_ N x0.Name x1.Name).bind fun z1 =>
  some z1
/-! ### slices.IsSortedFunc[[]gleaner/api.Label,gleaner/api.Label] -/
def slices_IsSortedFunc_api_Label_api_Label__i0_L2 (N : Nat) : Nat → (List VLabel) → Int → Option Bool
  | 0, _, _ => none
  | n + 1, x0, x5 =>
    bif decide (x5 > 0) then
      (idxC x0 x5).bind fun z1 =>
      (idxC x0 (w64 (x5 - 1))).bind fun z2 =>
      (labels_byName N z1 z2).bind fun z3 =>
      bif decide (z3 < 0) then
        some false
      else
        slices_IsSortedFunc_api_Label_api_Label__i0_L2 N n x0 (w64 (x5 - 1))
    else
      some true
def slices_IsSortedFunc_api_Label_api_Label__i0 (N : Nat) (x0 : List VLabel) : Option Bool :=
  slices_IsSortedFunc_api_Label_api_Label__i0_L2 N N x0 (w64 ((x0.length : Int) - 1))
/-! ### gleaner/labels.Check -/
def labels_Check (N : Nat) (x0 : List VLabel) : Option Int :=
  (labels_each N x0 false).bind fun z1 =>
  bif z1 != 0 then
    some z1
  else
    (slices_IsSortedFunc_api_Label_api_Label__i0 N x0).bind fun z2 =>
    bif !z2 then
      some 4
    else
      some 0
/-! ### gleaner/shard.checkItem -/
def shard_checkItem (N : Nat) (x0 : VItem) : Option Int :=
  bif decide (x0.Number < 0) then
    some 3
  else
    (shard_isTime N x0.Sample.Time).bind fun z1 =>
    bif !z1 then
      some 3
    else
      (labels_Check N x0.Labels).bind fun z2 =>
      some z2
/-! ### gleaner/shard.Check -/
def shard_Check_L14 (N : Nat) : Nat → Int → VShard → Option Int
  | 0, _, _ => none
  | n + 1, x7, b1 =>
    bif decide (x7 < (b1.Items.length : Int)) then
      (idxC b1.Items x7).bind fun z9 =>
      (idxC b1.Items (w64 (x7 - 1))).bind fun z10 =>
      bif decide (z9.Number ≤ z10.Number) then
        some 4
      else
        shard_Check_L14 N n (w64 (x7 + 1)) b1
    else
      some 0
def shard_Check_L7 (N : Nat) : Nat → (List VItem) → Int → Int → VShard → Option Int
  | 0, _, _, _, _ => none
  | n + 1, x58, x59, x60, b1 =>
    bif decide (x60 < x59) then
      (idxC x58 x60).bind fun z7 =>
      (shard_checkItem N z7).bind fun z8 =>
      bif z8 != 0 then
        some z8
      else
        shard_Check_L7 N n x58 x59 (w64 (x60 + 1)) b1
    else
      shard_Check_L14 N n 1 b1
def shard_Check_R2 (N : Nat) (n : Nat) (x3 : Bool) (b1 : VShard) : Option Int :=
  bif !x3 then
    some 3
  else
    bif decide ((b1.Items.length : Int) > b1.Room) then
      some 2
    else
      shard_Check_L7 N n b1.Items (b1.Items.length : Int) 0 b1
def shard_Check (N : Nat) (x0 : VShard) : Option Int :=
  (shard_within N x0.Batch 1 200).bind fun z1 =>
  bif z1 then
    (shard_within N x0.Room 1 100).bind fun z2 =>
    bif z2 then
      (shard_within N x0.First 1 x0.Most).bind fun z3 =>
      bif z3 then
        bif decide (x0.Most ≤ 100000) then
          bif x0.Waits == 0 then
            (shard_isTime N x0.Till).bind fun z4 =>
            shard_Check_R2 N N z4 x0
          else
            (shard_within N x0.Waits x0.First x0.Most).bind fun z5 =>
            bif z5 then
              (shard_isTime N x0.Till).bind fun z6 =>
              shard_Check_R2 N N z6 x0
            else
              shard_Check_R2 N N false x0
        else
          shard_Check_R2 N N false x0
      else
        shard_Check_R2 N N false x0
    else
      shard_Check_R2 N N false x0
  else
    shard_Check_R2 N N false x0
/-! ### slices.Clone[[]gleaner/api.Label,gleaner/api.Label] -/
def slices_Clone_api_Label_api_Label_ (N : Nat) (x0 : List VLabel) : Option (List VLabel) :=
  (appC 32 ([] : List VLabel) x0).bind fun z1 =>
  some z1
/-! ### gleaner/shard.own -/
def shard_own_L4 (N : Nat) : Nat → (List VItem) → Int → Int → (List VItem) → Int → Int → Int → Int → Int → Int → (List VItem) → Int → Int → Int → Int → Int → Int → Option VShard
  | 0, _, _, _, _, _, _, _, _, _, _, _, _, _, _, _, _, _ => none
  | n + 1, x13, x14, x15, b2_0, b2_1, b2_2, b2_3, b2_4, b2_5, b2_6, b4_0, b4_1, b4_2, b4_3, b4_4, b4_5, b4_6 =>
    bif decide (x15 < x14) then
      (idxC x13 x15).bind fun z2 =>
      (slices_Clone_api_Label_api_Label_ N z2.Labels).bind fun z3 =>
      (appC 48 b2_0 ([({ Number := z2.Number, Labels := z3, Sample := z2.Sample } : VItem)] : List VItem)).bind fun z4 =>
      shard_own_L4 N n x13 x14 (w64 (x15 + 1)) z4 b2_1 b2_2 b2_3 b2_4 b2_5 b2_6 b4_0 b4_1 b4_2 b4_3 b4_4 b4_5 b4_6
    else
      some ({ Items := b2_0, Batch := b2_1, Room := b2_2, First := b2_3, Most := b2_4, Waits := b2_5, Till := b2_6 } : VShard)
def shard_own (N : Nat) (x0 : VShard) (x1 : Int) : Option VShard :=
  (subC x0.Items x1 (x0.Items.length : Int)).bind fun z1 =>
  shard_own_L4 N N z1 (z1.length : Int) 0 ([] : List VItem) x0.Batch x0.Room x0.First x0.Most x0.Waits x0.Till ([] : List VItem) 0 0 0 0 0 0
/-! ### gleaner/shard.Push -/
def shard_Push_R10 (N : Nat) (n : Nat) (x6 : Int) (b2 : VShard) (b3 : VItem) (b4_0 : List VItem) (b4_1 : Int) (b4_2 : Int) (b4_3 : Int) (b4_4 : Int) (b4_5 : Int) (b4_6 : Int) : Option (VShard × Int) :=
  bif x6 != 0 then
    some (({ Items := ([] : List VItem), Batch := 0, Room := 0, First := 0, Most := 0, Waits := 0, Till := 0 } : VShard), x6)
  else
    (appCl 48 b2.Items ([b3] : List VItem)).bind fun z4 =>
    (shard_own N ({ Items := z4, Batch := b2.Batch, Room := b2.Room, First := b2.First, Most := b2.Most, Waits := b2.Waits, Till := b2.Till } : VShard) 0).bind fun z5 =>
    some (z5, 0)
def shard_Push_R8 (N : Nat) (n : Nat) (x6 : Int) (x7 : Int) (b2 : VShard) (b3 : VItem) (b4_0 : List VItem) (b4_1 : Int) (b4_2 : Int) (b4_3 : Int) (b4_4 : Int) (b4_5 : Int) (b4_6 : Int) : Option (VShard × Int) :=
  bif x7 == b2.Room then
    shard_Push_R10 N n 2 b2 b3 b4_0 b4_1 b4_2 b4_3 b4_4 b4_5 b4_6
  else
    shard_Push_R10 N n x6 b2 b3 b4_0 b4_1 b4_2 b4_3 b4_4 b4_5 b4_6
def shard_Push_R4 (N : Nat) (n : Nat) (x6 : Int) (b2 : VShard) (b3 : VItem) (b4_0 : List VItem) (b4_1 : Int) (b4_2 : Int) (b4_3 : Int) (b4_4 : Int) (b4_5 : Int) (b4_6 : Int) : Option (VShard × Int) :=
  bif x6 != 0 then
    shard_Push_R10 N n x6 b2 b3 b4_0 b4_1 b4_2 b4_3 b4_4 b4_5 b4_6
  else
    bif decide ((b2.Items.length : Int) > 0) then
      (idxC b2.Items (w64 ((b2.Items.length : Int) - 1))).bind fun z3 =>
      bif decide (b3.Number ≤ z3.Number) then
        shard_Push_R10 N n 4 b2 b3 b4_0 b4_1 b4_2 b4_3 b4_4 b4_5 b4_6
      else
        shard_Push_R8 N n x6 (b2.Items.length : Int) b2 b3 b4_0 b4_1 b4_2 b4_3 b4_4 b4_5 b4_6
    else
      shard_Push_R8 N n x6 (b2.Items.length : Int) b2 b3 b4_0 b4_1 b4_2 b4_3 b4_4 b4_5 b4_6
def shard_Push (N : Nat) (x0 : VShard) (x1 : VItem) : Option (VShard × Int) :=
  (shard_Check N x0).bind fun z1 =>
  bif z1 == 0 then
    (shard_checkItem N x1).bind fun z2 =>
    shard_Push_R4 N N z2 x0 x1 ([] : List VItem) 0 0 0 0 0 0
  else
    shard_Push_R4 N N z1 x0 x1 ([] : List VItem) 0 0 0 0 0 0
/-! ### gleaner/wire.many -/
def wire_many_L9 (N : Nat) (k4 : (List VSeries) → Int → Int → Option Bool) : Nat → (List VSeries) → Int → Int → (List VLabel) → Int → Int → Option Bool
  | 0, _, _, _, _, _, _ => none
  | n + 1, x10, x11, x12, x27, x28, x29 =>
    bif decide (x29 < x28) then
      (idxC x27 x29).bind fun z2 =>
      bif decide ((z2.Name.length : Int) > 20000) then
        some true
      else
        bif decide ((z2.Value.length : Int) > 20000) then
          some true
        else
          wire_many_L9 N k4 n x10 x11 x12 x27 x28 (w64 (x29 + 1))
    else
      k4 x10 x11 (w64 (x12 + 1))
def wire_many_L4 (N : Nat) : Nat → (List VSeries) → Int → Int → Option Bool
  | 0, _, _, _ => none
  | n + 1, x10, x11, x12 =>
    bif decide (x12 < x11) then
      (idxC x10 x12).bind fun z1 =>
      bif decide ((z1.Labels.length : Int) > 20) then
        some true
      else
        bif decide ((z1.Samples.length : Int) > 200) then
          some true
        else
          wire_many_L9 N (wire_many_L4 N n) n x10 x11 x12 z1.Labels (z1.Labels.length : Int) 0
    else
      some false
def wire_many (N : Nat) (x0 : List VSeries) : Option Bool :=
  bif decide ((x0.length : Int) > 200) then
    some true
  else
    wire_many_L4 N N x0 (x0.length : Int) 0
/-! ### gleaner/wire.isTime -/
def wire_isTime (N : Nat) (x0 : Int) : Option Bool :=
  bif decide (x0 ≥ (-9007199254740991)) then
    some (decide (x0 ≤ 9007199254740991))
  else
    some false
/-! ### gleaner/wire.times -/
def wire_times_L5 (N : Nat) (k2 : (List VSeries) → Int → Int → Option Bool) : Nat → (List VSeries) → Int → Int → (List VSample) → Int → Int → Option Bool
  | 0, _, _, _, _, _, _ => none
  | n + 1, x7, x8, x9, x14, x15, x16 =>
    bif decide (x16 < x15) then
      (idxC x14 x16).bind fun z2 =>
      (wire_isTime N z2.Time).bind fun z3 =>
      bif !z3 then
        some false
      else
        wire_times_L5 N k2 n x7 x8 x9 x14 x15 (w64 (x16 + 1))
    else
      k2 x7 x8 (w64 (x9 + 1))
def wire_times_L2 (N : Nat) : Nat → (List VSeries) → Int → Int → Option Bool
  | 0, _, _, _ => none
  | n + 1, x7, x8, x9 =>
    bif decide (x9 < x8) then
      (idxC x7 x9).bind fun z1 =>
      wire_times_L5 N (wire_times_L2 N n) n x7 x8 x9 z1.Samples (z1.Samples.length : Int) 0
    else
      some true
def wire_times (N : Nat) (x0 : List VSeries) : Option Bool :=
  wire_times_L2 N N x0 (x0.length : Int) 0
/-! ### gleaner/wire.check -/
def wire_check (N : Nat) (x0 : List VSeries) : Option Int :=
  (wire_many N x0).bind fun z1 =>
  bif z1 then
    some 2
  else
    (wire_times N x0).bind fun z2 =>
    bif !z2 then
      some 3
    else
      some 0
/-! ### gleaner/wire.Number -/
def wire_Number_L2 (N : Nat) : Nat → Int → (List UInt8) → Option (List UInt8)
  | 0, _, _ => none
  | n + 1, x0, x3 =>
    bif decide (x0 > 127) then
      (appC 1 x3 ([toB (bits .or .u8 (b2i (toB (IntKind.wrap .u8 x0))) (b2i 128))] : List UInt8)).bind fun z1 =>
      (shrC .u64 x0 7).bind fun z2 =>
      wire_Number_L2 N n z2 z1
    else
      (appC 1 x3 ([toB (IntKind.wrap .u8 x0)] : List UInt8)).bind fun z3 =>
      some z3
def wire_Number (N : Nat) (x0 : Int) : Option (List UInt8) :=
  wire_Number_L2 N N x0 ([] : List UInt8)
/-! ### gleaner/wire.field -/
def wire_field (N : Nat) (x0 : Int) (x1 : List UInt8) : Option (List UInt8) :=
  (shlC .u64 (IntKind.wrap .u64 x0) 3).bind fun z1 =>
  (wire_Number N (bits .or .u64 z1 2)).bind fun z2 =>
  (wire_Number N (IntKind.wrap .u64 (x1.length : Int))).bind fun z3 =>
  (catC z2 z3).bind fun z4 =>
  (catC z4 x1).bind fun z5 =>
  some z5
/-! ### gleaner/wire.sample -/
def wire_sample_L3 (N : Nat) : Nat → (List UInt8) → Int → VSample → Option (List UInt8)
  | 0, _, _, _ => none
  | n + 1, x3, x6, b1 =>
    bif decide (x6 < 8) then
      (shrC .u64 b1.Bits (w64 (8 * x6))).bind fun z1 =>
      (appC 1 x3 ([toB (IntKind.wrap .u8 z1)] : List UInt8)).bind fun z2 =>
      wire_sample_L3 N n z2 (w64 (x6 + 1)) b1
    else
      (wire_Number N 16).bind fun z3 =>
      (catC x3 z3).bind fun z4 =>
      (wire_Number N (IntKind.wrap .u64 b1.Time)).bind fun z5 =>
      (catC z4 z5).bind fun z6 =>
      some z6
def wire_sample (N : Nat) (x0 : VSample) : Option (List UInt8) :=
  wire_sample_L3 N N ([9] : List UInt8) 0 x0
/-! ### gleaner/wire.Write -/
def wire_Write_L15 (N : Nat) (k6 : (List UInt8) → (List VSeries) → Int → Int → Option ((List UInt8) × Int)) : Nat → (List UInt8) → (List UInt8) → (List VSeries) → Int → Int → (List VSample) → Int → Int → Option ((List UInt8) × Int)
  | 0, _, _, _, _, _, _, _, _ => none
  | n + 1, x5, x8, x18, x19, x20, x43, x44, x45 =>
    bif decide (x45 < x44) then
      (idxC x43 x45).bind fun z9 =>
      (wire_sample N z9).bind fun z10 =>
      (wire_field N 2 z10).bind fun z11 =>
      (catC x8 z11).bind fun z12 =>
      wire_Write_L15 N k6 n x5 z12 x18 x19 x20 x43 x44 (w64 (x45 + 1))
    else
      (wire_field N 1 x8).bind fun z13 =>
      (catC x5 z13).bind fun z14 =>
      bif decide ((z14.length : Int) > 20000) then
        some (([] : List UInt8), 2)
      else
        k6 z14 x18 x19 (w64 (x20 + 1))
def wire_Write_L10 (N : Nat) (k6 : (List UInt8) → (List VSeries) → Int → Int → Option ((List UInt8) × Int)) : Nat → (List UInt8) → (List UInt8) → (List VSeries) → Int → Int → (List VLabel) → Int → Int → VSeries → Option ((List UInt8) × Int)
  | 0, _, _, _, _, _, _, _, _, _ => none
  | n + 1, x5, x8, x18, x19, x20, x25, x26, x27, b7 =>
    bif decide (x27 < x26) then
      (idxC x25 x27).bind fun z3 =>
      (wire_field N 1 z3.Name).bind fun z4 =>
      (wire_field N 2 z3.Value).bind fun z5 =>
      (catC z4 z5).bind fun z6 =>
      (wire_field N 1 z6).bind fun z7 =>
      (catC x8 z7).bind fun z8 =>
      wire_Write_L10 N k6 n x5 z8 x18 x19 x20 x25 x26 (w64 (x27 + 1)) b7
    else
      wire_Write_L15 N k6 n x5 x8 x18 x19 x20 b7.Samples (b7.Samples.length : Int) 0
def wire_Write_L6 (N : Nat) : Nat → (List UInt8) → (List VSeries) → Int → Int → Option ((List UInt8) × Int)
  | 0, _, _, _, _ => none
  | n + 1, x5, x18, x19, x20 =>
    bif decide (x20 < x19) then
      (idxC x18 x20).bind fun z2 =>
      wire_Write_L10 N (wire_Write_L6 N n) n x5 ([] : List UInt8) x18 x19 x20 z2.Labels (z2.Labels.length : Int) 0 z2
    else
      some (x5, 0)
def wire_Write (N : Nat) (x0 : List VSeries) : Option ((List UInt8) × Int) :=
  (wire_check N x0).bind fun z1 =>
  bif z1 != 0 then
    some (([] : List UInt8), z1)
  else
    wire_Write_L6 N N ([] : List UInt8) x0 (x0.length : Int) 0
/-! ### gleaner/shard.packed -/
def shard_packed_L3 (N : Nat) : Nat → (List VSeries) → (List VItem) → Int → Int → Option ((List UInt8) × Bool)
  | 0, _, _, _, _ => none
  | n + 1, x4, x9, x10, x11 =>
    bif decide (x11 < x10) then
      (idxC x9 x11).bind fun z1 =>
      (appC 48 x4 ([({ Labels := z1.Labels, Samples := ([z1.Sample] : List VSample) } : VSeries)] : List VSeries)).bind fun z2 =>
      shard_packed_L3 N n z2 x9 x10 (w64 (x11 + 1))
    else
      (wire_Write N x4).bind fun z3 =>
      bif z3.2 != 0 then
        some (([] : List UInt8), false)
      else
        (press_Pack N z3.1).bind fun z4 =>
        some (z4.1, z4.2 == 0)
def shard_packed (N : Nat) (x0 : List VItem) : Option ((List UInt8) × Bool) :=
  shard_packed_L3 N N ([] : List VSeries) x0 (x0.length : Int) 0
/-! ### gleaner/shard.Next -/
def shard_Next_L9 (N : Nat) : Nat → Int → VShard → Option ((List VItem) × (List UInt8) × Int)
  | 0, _, _ => none
  | n + 1, x8, b2 =>
    bif decide (x8 > 0) then
      (subC b2.Items 0 x8).bind fun z3 =>
      (shard_packed N z3).bind fun z4 =>
      bif z4.2 then
        (subC b2.Items 0 x8).bind fun z5 =>
        (shard_own N ({ Items := z5, Batch := b2.Batch, Room := b2.Room, First := b2.First, Most := b2.Most, Waits := b2.Waits, Till := b2.Till } : VShard) 0).bind fun z6 =>
        some (z6.Items, z4.1, 0)
      else
        (quoC .i64 x8 2).bind fun z7 =>
        shard_Next_L9 N n z7 b2
    else
      some (([] : List VItem), ([] : List UInt8), 0)
def shard_Next (N : Nat) (x0 : VShard) (x1 : Int) : Option ((List VItem) × (List UInt8) × Int) :=
  (shard_Check N x0).bind fun z1 =>
  bif z1 != 0 then
    some (([] : List VItem), ([] : List UInt8), z1)
  else
    (shard_isTime N x1).bind fun z2 =>
    bif !z2 then
      some (([] : List VItem), ([] : List UInt8), 3)
    else
      bif decide (x0.Till > x1) then
        some (([] : List VItem), ([] : List UInt8), 4)
      else
        shard_Next_L9 N N (if x0.Batch < (x0.Items.length : Int) then x0.Batch else (x0.Items.length : Int)) x0
/-! ### gleaner/gleanerlaw.shardBegun -/
def law_shardBegun (N : Nat) : Option Bool :=
  (shard_Push N ({ Items := ([] : List VItem), Batch := 1, Room := 1, First := 1, Most := 2, Waits := 0, Till := 0 } : VShard) ({ Number := 0, Labels := ([({ Name := ([97] : List UInt8), Value := ([98] : List UInt8) } : VLabel)] : List VLabel), Sample := ({ Time := 0, Bits := 0 } : VSample) } : VItem)).bind fun z1 =>
  (shard_Next N z1.1 0).bind fun z2 =>
  bif z1.2 == 0 then
    bif z2.2.2 == 0 then
      bif (z2.1.length : Int) == 1 then
        some (!decide (z2.2.1 = ([] : List UInt8)))
      else
        some false
    else
      some false
  else
    some false
/-! ### gleaner/gleanerref.CheckShard$1 -/
def ref_CheckShard_1 (N : Nat) (x0 : Int) (x1 : Int) (x2 : Int) : Option Bool :=
  bif decide (x0 ≥ x1) then
    some (decide (x0 ≤ x2))
  else
    some false
/-! ### gleaner/gleanerref.IsTime -/
def ref_IsTime (N : Nat) (x0 : Int) : Option Bool :=
  bif decide (x0 ≥ (-9007199254740991)) then
    some (decide (x0 ≤ 9007199254740991))
  else
    some false
/-! ### gleaner/gleanerref.IsLetter -/
def ref_IsLetter (N : Nat) (x0 : UInt8) : Option Bool :=
  bif decide ((b2i x0) ≥ (b2i 97)) then
    bif decide ((b2i x0) ≤ (b2i 122)) then
      some true
    else
      bif decide ((b2i x0) ≥ (b2i 65)) then
        bif decide ((b2i x0) ≤ (b2i 90)) then
          some true
        else
          some ((b2i x0) == (b2i 95))
      else
        some ((b2i x0) == (b2i 95))
  else
    bif decide ((b2i x0) ≥ (b2i 65)) then
      bif decide ((b2i x0) ≤ (b2i 90)) then
        some true
      else
        some ((b2i x0) == (b2i 95))
    else
      some ((b2i x0) == (b2i 95))
/-! ### gleaner/gleanerref.IsNumeral -/
def ref_IsNumeral (N : Nat) (x0 : UInt8) : Option Bool :=
  bif decide ((b2i x0) ≥ (b2i 48)) then
    some (decide ((b2i x0) ≤ (b2i 57)))
  else
    some false
/-! ### gleaner/gleanerref.IsName -/
def ref_IsName_R3 (N : Nat) (k2 : (List UInt8) → Int → Option Bool) (n : Nat) (x0 : List UInt8) (x3 : Int) : Option Bool :=
  k2 x0 (w64 (x3 + 1))
def ref_IsName_L2 (N : Nat) : Nat → (List UInt8) → Int → Option Bool
  | 0, _, _ => none
  | n + 1, x0, x3 =>
    bif decide (x3 < (x0.length : Int)) then
      (idxC x0 x3).bind fun z1 =>
      (ref_IsLetter N z1).bind fun z2 =>
      bif !z2 then
        bif x3 == 0 then
          some false
        else
          (idxC x0 x3).bind fun z3 =>
          (ref_IsNumeral N z3).bind fun z4 =>
          bif !z4 then
            some false
          else
            ref_IsName_R3 N (ref_IsName_L2 N n) n x0 x3
      else
        ref_IsName_R3 N (ref_IsName_L2 N n) n x0 x3
    else
      bif decide ((x0.length : Int) ≥ 1) then
        some (decide ((x0.length : Int) ≤ 40))
      else
        some false
def ref_IsName (N : Nat) (x0 : List UInt8) : Option Bool :=
  ref_IsName_L2 N N x0 0
/-! ### gleaner/gleanerref.EachLabel -/
def ref_EachLabel_R8 (N : Nat) (k4 : (List VLabel) → Bool → Int → Option Int) (n : Nat) (x0 : List VLabel) (x1 : Bool) (x5 : Int) : Option Int :=
  (idxC x0 x5).bind fun z4 =>
  bif decide ((z4.Value.length : Int) > 100) then
    some 2
  else
    k4 x0 x1 (w64 (x5 + 1))
def ref_EachLabel_L14 (N : Nat) (k11 : (List VLabel) → Int → Option Int) : Nat → (List VLabel) → Int → Int → Option Int
  | 0, _, _, _ => none
  | n + 1, x0, x6, x7 =>
    bif decide (x7 < x6) then
      (idxC x0 x7).bind fun z5 =>
      (idxC x0 x6).bind fun z6 =>
      bif decide (z5.Name = z6.Name) then
        some 6
      else
        ref_EachLabel_L14 N k11 n x0 x6 (w64 (x7 + 1))
    else
      k11 x0 (w64 (x6 + 1))
def ref_EachLabel_L11 (N : Nat) : Nat → (List VLabel) → Int → Option Int
  | 0, _, _ => none
  | n + 1, x0, x6 =>
    bif decide (x6 < (x0.length : Int)) then
      ref_EachLabel_L14 N (ref_EachLabel_L11 N n) n x0 x6 0
    else
      some 0
def ref_EachLabel_L4 (N : Nat) : Nat → (List VLabel) → Bool → Int → Option Int
  | 0, _, _, _ => none
  | n + 1, x0, x1, x5 =>
    bif decide (x5 < (x0.length : Int)) then
      (idxC x0 x5).bind fun z1 =>
      (ref_IsName N z1.Name).bind fun z2 =>
      bif !z2 then
        some 1
      else
        (idxC x0 x5).bind fun z3 =>
        bif decide (z3.Value = ([] : List UInt8)) then
          bif !x1 then
            some 1
          else
            ref_EachLabel_R8 N (ref_EachLabel_L4 N n) n x0 x1 x5
        else
          ref_EachLabel_R8 N (ref_EachLabel_L4 N n) n x0 x1 x5
    else
      ref_EachLabel_L11 N n x0 0
def ref_EachLabel (N : Nat) (x0 : List VLabel) (x1 : Bool) : Option Int :=
  bif decide ((x0.length : Int) > 20) then
    some 2
  else
    ref_EachLabel_L4 N N x0 x1 0
/-! ### gleaner/gleanerref.CheckLabels -/
def ref_CheckLabels_R4 (N : Nat) (k3 : (List VLabel) → Int → Int → Option Int) (n : Nat) (x0 : List VLabel) (x3 : Int) (x4 : Int) : Option Int :=
  k3 x0 x3 (w64 (x4 + 1))
def ref_CheckLabels_L3 (N : Nat) : Nat → (List VLabel) → Int → Int → Option Int
  | 0, _, _, _ => none
  | n + 1, x0, x3, x4 =>
    bif decide (x4 < (x0.length : Int)) then
      bif x3 == 0 then
        (idxC x0 x4).bind fun z2 =>
        (idxC x0 (w64 (x4 - 1))).bind fun z3 =>
        bif Op.bytesLess z2.Name z3.Name then
          ref_CheckLabels_R4 N (ref_CheckLabels_L3 N n) n x0 4 x4
        else
          ref_CheckLabels_R4 N (ref_CheckLabels_L3 N n) n x0 x3 x4
      else
        some x3
    else
      some x3
def ref_CheckLabels (N : Nat) (x0 : List VLabel) : Option Int :=
  (ref_EachLabel N x0 false).bind fun z1 =>
  ref_CheckLabels_L3 N N x0 z1 1
/-! ### gleaner/gleanerref.CheckItem -/
def ref_CheckItem (N : Nat) (x0 : VItem) : Option Int :=
  bif decide (x0.Number < 0) then
    some 3
  else
    (ref_IsTime N x0.Sample.Time).bind fun z1 =>
    bif !z1 then
      some 3
    else
      (ref_CheckLabels N x0.Labels).bind fun z2 =>
      some z2
/-! ### gleaner/gleanerref.CheckShard -/
def ref_CheckShard_R3 (N : Nat) (n : Nat) : Option Int :=
  some 3
def ref_CheckShard_L13 (N : Nat) : Nat → Int → VShard → Option Int
  | 0, _, _ => none
  | n + 1, x6, b1 =>
    bif decide (x6 < (b1.Items.length : Int)) then
      (idxC b1.Items x6).bind fun z9 =>
      (idxC b1.Items (w64 (x6 - 1))).bind fun z10 =>
      bif decide (z9.Number ≤ z10.Number) then
        some 4
      else
        ref_CheckShard_L13 N n (w64 (x6 + 1)) b1
    else
      some 0
def ref_CheckShard_L7 (N : Nat) : Nat → Int → VShard → Option Int
  | 0, _, _ => none
  | n + 1, x4, b1 =>
    bif decide (x4 < (b1.Items.length : Int)) then
      (idxC b1.Items x4).bind fun z7 =>
      (ref_CheckItem N z7).bind fun z8 =>
      bif z8 != 0 then
        some z8
      else
        ref_CheckShard_L7 N n (w64 (x4 + 1)) b1
    else
      ref_CheckShard_L13 N n 1 b1
def ref_CheckShard_R4 (N : Nat) (n : Nat) (b1 : VShard) : Option Int :=
  bif decide ((b1.Items.length : Int) > b1.Room) then
    some 2
  else
    ref_CheckShard_L7 N n 0 b1
def ref_CheckShard (N : Nat) (x0 : VShard) : Option Int :=
  (ref_CheckShard_1 N x0.Batch 1 200).bind fun z1 =>
  bif !z1 then
    ref_CheckShard_R3 N N
  else
    (ref_CheckShard_1 N x0.Room 1 100).bind fun z2 =>
    bif !z2 then
      ref_CheckShard_R3 N N
    else
      (ref_CheckShard_1 N x0.First 1 x0.Most).bind fun z3 =>
      bif !z3 then
        ref_CheckShard_R3 N N
      else
        bif decide (x0.Most > 100000) then
          ref_CheckShard_R3 N N
        else
          bif x0.Waits != 0 then
            (ref_CheckShard_1 N x0.Waits x0.First x0.Most).bind fun z4 =>
            bif !z4 then
              ref_CheckShard_R3 N N
            else
              (ref_IsTime N x0.Till).bind fun z5 =>
              bif !z5 then
                ref_CheckShard_R3 N N
              else
                ref_CheckShard_R4 N N x0
          else
            (ref_IsTime N x0.Till).bind fun z6 =>
            bif !z6 then
              ref_CheckShard_R3 N N
            else
              ref_CheckShard_R4 N N x0
/-! ### gleaner/gleanerlaw.ShardChecks -/
def law_ShardChecks (N : Nat) (x0 : VShard) : Option Bool :=
  (law_shardBegun N).bind fun z1 =>
  bif z1 then
    (shard_Check N x0).bind fun z2 =>
    (ref_CheckShard N x0).bind fun z3 =>
    some (z2 == z3)
  else
    some false
/-! ### gleaner/gleanerref.SameLabels -/
def ref_SameLabels_L4 (N : Nat) : Nat → (List VLabel) → (List VLabel) → Int → Option Bool
  | 0, _, _, _ => none
  | n + 1, x0, x1, x5 =>
    bif decide (x5 < (x0.length : Int)) then
      (idxC x0 x5).bind fun z1 =>
      (idxC x1 x5).bind fun z2 =>
      bif !(beqS z1.Name z2.Name && (beqS z1.Value z2.Value && true)) then
        some false
      else
        ref_SameLabels_L4 N n x0 x1 (w64 (x5 + 1))
    else
      some true
def ref_SameLabels (N : Nat) (x0 : List VLabel) (x1 : List VLabel) : Option Bool :=
  bif (x0.length : Int) != (x1.length : Int) then
    some false
  else
    ref_SameLabels_L4 N N x0 x1 0
/-! ### gleaner/gleanerref.SameItems -/
def ref_SameItems_L4 (N : Nat) : Nat → (List VItem) → (List VItem) → Int → Option Bool
  | 0, _, _, _ => none
  | n + 1, x0, x1, x5 =>
    bif decide (x5 < (x0.length : Int)) then
      (idxC x0 x5).bind fun z1 =>
      (idxC x1 x5).bind fun z2 =>
      bif z1.Number != z2.Number then
        some false
      else
        (idxC x0 x5).bind fun z3 =>
        (idxC x1 x5).bind fun z4 =>
        bif !(beqI z3.Sample.Time z4.Sample.Time && (beqI z3.Sample.Bits z4.Sample.Bits && true)) then
          some false
        else
          (idxC x0 x5).bind fun z5 =>
          (idxC x1 x5).bind fun z6 =>
          (ref_SameLabels N z5.Labels z6.Labels).bind fun z7 =>
          bif !z7 then
            some false
          else
            ref_SameItems_L4 N n x0 x1 (w64 (x5 + 1))
    else
      some true
def ref_SameItems (N : Nat) (x0 : List VItem) (x1 : List VItem) : Option Bool :=
  bif (x0.length : Int) != (x1.length : Int) then
    some false
  else
    ref_SameItems_L4 N N x0 x1 0
/-! ### gleaner/gleanerref.SameShard -/
def ref_SameShard (N : Nat) (x0 : VShard) (x1 : VShard) : Option Bool :=
  (ref_SameItems N x0.Items x1.Items).bind fun z1 =>
  bif z1 then
    bif x0.Batch == x1.Batch then
      bif x0.Room == x1.Room then
        bif x0.First == x1.First then
          bif x0.Most == x1.Most then
            bif x0.Waits == x1.Waits then
              some (x0.Till == x1.Till)
            else
              some false
          else
            some false
        else
          some false
      else
        some false
    else
      some false
  else
    some false
end Go.Proofs.Ytofidfkojmbdoaa
