/- Plain functions, written by gen/tgl.py out of the program. -/
import Derived.Test.YtofidfkojmbdoaaHT
import Derived.Test.YtofidfkojmbdoaaFS1p
namespace Go.Proofs.Ytofidfkojmbdoaa
open Go.RowKit P
set_option linter.unusedVariables false
set_option linter.unusedSimpArgs false
set_option maxRecDepth 100000
/-! ### gleaner/gleanerref.Xor -/
def ref_Xor_R5 (N : Nat) (k2 : Int → Int → Int → Int → Option Int) (n : Nat) (x0 : Int) (x1 : Int) (x5 : Int) (x6 : Int) : Option Int :=
  (quoC .i64 x0 2).bind fun z3 =>
  (quoC .i64 x1 2).bind fun z4 =>
  k2 z3 z4 x5 (w64 (2 * x6))
def ref_Xor_R3 (N : Nat) (k2 : Int → Int → Int → Int → Option Int) (n : Nat) (x0 : Int) (x1 : Int) (x5 : Int) (x6 : Int) : Option Int :=
  (remC x0 2).bind fun z1 =>
  (remC x1 2).bind fun z2 =>
  bif z1 != z2 then
    ref_Xor_R5 N k2 n x0 x1 (w64 (x5 + x6)) x6
  else
    ref_Xor_R5 N k2 n x0 x1 x5 x6
def ref_Xor_L2 (N : Nat) : Nat → Int → Int → Int → Int → Option Int
  | 0, _, _, _, _ => none
  | n + 1, x0, x1, x5, x6 =>
    bif decide (x0 > 0) then
      ref_Xor_R3 N (ref_Xor_L2 N n) n x0 x1 x5 x6
    else
      bif decide (x1 > 0) then
        ref_Xor_R3 N (ref_Xor_L2 N n) n x0 x1 x5 x6
      else
        some x5
def ref_Xor (N : Nat) (x0 : Int) (x1 : Int) : Option Int :=
  ref_Xor_L2 N N x0 x1 0 1
/-! ### gleaner/gleanerref.SumOf$1 -/
def ref_SumOf_1_i0_L4 (N : Nat) : Nat → (List Int) → Int → Int → (List Int) → Option (List Int)
  | 0, _, _, _, _ => none
  | n + 1, x3, x4, x5, b100001 =>
    bif decide (x5 < 4) then
      (idxN 4 x5).bind fun z19 =>
      (b100001[0 + z19]?).bind fun z20 =>
      (idxC x3 x5).bind fun z21 =>
      (remC (w64 (x4 + (w64 ((w64 (z20 * 435)) + z21)))) 65536).bind fun z22 =>
      (quoC .i64 (w64 (x4 + (w64 ((w64 (z20 * 435)) + z21)))) 65536).bind fun z23 =>
      (idxN 4 x5).bind fun z24 =>
      (setA b100001 (0 + z24) z22).bind fun z25 =>
      ref_SumOf_1_i0_L4 N n x3 z23 (w64 (x5 + 1)) z25
    else
      some b100001
def ref_SumOf_1_i0 (N : Nat) (x0 : Int) (y1 : List Int) : Option (List Int) :=
  (idxN 4 0).bind fun z1 =>
  (y1[0 + z1]?).bind fun z2 =>
  (quoC .i64 z2 256).bind fun z3 =>
  (idxN 4 0).bind fun z4 =>
  (y1[0 + z4]?).bind fun z5 =>
  (remC z5 256).bind fun z6 =>
  (ref_Xor N z6 x0).bind fun z7 =>
  (idxN 4 0).bind fun z8 =>
  (setA y1 (0 + z8) (w64 ((w64 (z3 * 256)) + z7))).bind fun z9 =>
  (idxN 4 0).bind fun z10 =>
  (z9[0 + z10]?).bind fun z11 =>
  (remC z11 256).bind fun z12 =>
  (idxN 4 0).bind fun z13 =>
  (z9[0 + z13]?).bind fun z14 =>
  (quoC .i64 z14 256).bind fun z15 =>
  (idxN 4 1).bind fun z16 =>
  (z9[0 + z16]?).bind fun z17 =>
  (remC z17 256).bind fun z18 =>
  ref_SumOf_1_i0_L4 N N ([0, 0, w64 (z12 * 256), w64 (z15 + (w64 (z18 * 256)))] : List Int) 0 0 z9
/-! ### gleaner/gleanerref.SumOf$2 -/
def ref_SumOf_2_i0_L1 (N : Nat) : Nat → (List UInt8) → Int → (List Int) → Option (List Int)
  | 0, _, _, _ => none
  | n + 1, x0, x3, b100002 =>
    bif decide (x3 < (x0.length : Int)) then
      (idxC x0 x3).bind fun z1 =>
      (ref_SumOf_1_i0 N (w64 (b2i z1)) b100002).bind fun z2 =>
      ref_SumOf_2_i0_L1 N n x0 (w64 (x3 + 1)) z2
    else
      (ref_SumOf_1_i0 N 255 b100002).bind fun z3 =>
      some z3
def ref_SumOf_2_i0 (N : Nat) (x0 : List UInt8) (y2 : List Int) : Option (List Int) :=
  ref_SumOf_2_i0_L1 N N x0 0 y2
/-! ### gleaner/gleanerref.SumOf -/
def ref_SumOf_L11 (N : Nat) : Nat → Int → Int → (List Int) → Option Int
  | 0, _, _, _ => none
  | n + 1, x7, x8, b9 =>
    bif decide (x8 ≥ 0) then
      (idxN 4 x8).bind fun z5 =>
      (b9[0 + z5]?).bind fun z6 =>
      ref_SumOf_L11 N n (IntKind.wrap .u64 ((IntKind.wrap .u64 (x7 * 65536)) + (IntKind.wrap .u64 z6))) (w64 (x8 - 1)) b9
    else
      some x7
def ref_SumOf_L5 (N : Nat) : Nat → (List VLabel) → Int → (List Int) → Option Int
  | 0, _, _, _ => none
  | n + 1, x0, x6, b9 =>
    bif decide (x6 < (x0.length : Int)) then
      (idxC x0 x6).bind fun z1 =>
      (ref_SumOf_2_i0 N z1.Name b9).bind fun z2 =>
      (idxC x0 x6).bind fun z3 =>
      (ref_SumOf_2_i0 N z3.Value z2).bind fun z4 =>
      ref_SumOf_L5 N n x0 (w64 (x6 + 1)) z4
    else
      ref_SumOf_L11 N n 0 3 b9
def ref_SumOf (N : Nat) (x0 : List VLabel) : Option Int :=
  ref_SumOf_L5 N N x0 0 ([8997, 33826, 40164, 52210] : List Int)
/-! ### gleaner/shard.isTime -/
def shard_isTime (N : Nat) (x0 : Int) : Option Bool :=
  (shard_within N x0 (-9007199254740991) 9007199254740991).bind fun z1 =>
  some z1
/-! ### gleaner/shard.checkItem -/
def shard_checkItem (N : Nat) (x0 : VItem) : Option Int :=
  bif decide (x0.Number < 0) then
    some 3
  else
    (shard_isTime N x0.Sample.Time).bind fun z1 =>
    bif !z1 then
      some 3
    else
      (labels_Check N x0.Labels).bind fun z2 =>
      some z2
/-! ### gleaner/shard.Check -/
def shard_Check_L14 (N : Nat) : Nat → Int → VShard → Option Int
  | 0, _, _ => none
  | n + 1, x7, b1 =>
    bif decide (x7 < (b1.Items.length : Int)) then
      (idxC b1.Items x7).bind fun z9 =>
      (idxC b1.Items (w64 (x7 - 1))).bind fun z10 =>
      bif decide (z9.Number ≤ z10.Number) then
        some 4
      else
        shard_Check_L14 N n (w64 (x7 + 1)) b1
    else
      some 0
def shard_Check_L7 (N : Nat) : Nat → (List VItem) → Int → Int → VShard → Option Int
  | 0, _, _, _, _ => none
  | n + 1, x58, x59, x60, b1 =>
    bif decide (x60 < x59) then
      (idxC x58 x60).bind fun z7 =>
      (shard_checkItem N z7).bind fun z8 =>
      bif z8 != 0 then
        some z8
      else
        shard_Check_L7 N n x58 x59 (w64 (x60 + 1)) b1
    else
      shard_Check_L14 N n 1 b1
def shard_Check_R2 (N : Nat) (n : Nat) (x3 : Bool) (b1 : VShard) : Option Int :=
  bif !x3 then
    some 3
  else
    bif decide ((b1.Items.length : Int) > b1.Room) then
      some 2
    else
      shard_Check_L7 N n b1.Items (b1.Items.length : Int) 0 b1
def shard_Check (N : Nat) (x0 : VShard) : Option Int :=
  (shard_within N x0.Batch 1 200).bind fun z1 =>
  bif z1 then
    (shard_within N x0.Room 1 100).bind fun z2 =>
    bif z2 then
      (shard_within N x0.First 1 x0.Most).bind fun z3 =>
      bif z3 then
        bif decide (x0.Most ≤ 100000) then
          bif x0.Waits == 0 then
            (shard_isTime N x0.Till).bind fun z4 =>
            shard_Check_R2 N N z4 x0
          else
            (shard_within N x0.Waits x0.First x0.Most).bind fun z5 =>
            bif z5 then
              (shard_isTime N x0.Till).bind fun z6 =>
              shard_Check_R2 N N z6 x0
            else
              shard_Check_R2 N N false x0
        else
          shard_Check_R2 N N false x0
      else
        shard_Check_R2 N N false x0
    else
      shard_Check_R2 N N false x0
  else
    shard_Check_R2 N N false x0
/-! ### slices.Clone[[]gleaner/api.Label,gleaner/api.Label] -/
def slices_Clone_api_Label_api_Label_ (N : Nat) (x0 : List VLabel) : Option (List VLabel) :=
  (appC 32 ([] : List VLabel) x0).bind fun z1 =>
  some z1
/-! ### gleaner/shard.own -/
def shard_own_L4 (N : Nat) : Nat → (List VItem) → Int → Int → (List VItem) → Int → Int → Int → Int → Int → Int → (List VItem) → Int → Int → Int → Int → Int → Int → Option VShard
  | 0, _, _, _, _, _, _, _, _, _, _, _, _, _, _, _, _, _ => none
  | n + 1, x13, x14, x15, b2_0, b2_1, b2_2, b2_3, b2_4, b2_5, b2_6, b4_0, b4_1, b4_2, b4_3, b4_4, b4_5, b4_6 =>
    bif decide (x15 < x14) then
      (idxC x13 x15).bind fun z2 =>
      (slices_Clone_api_Label_api_Label_ N z2.Labels).bind fun z3 =>
      (appC 48 b2_0 ([({ Number := z2.Number, Labels := z3, Sample := z2.Sample } : VItem)] : List VItem)).bind fun z4 =>
      shard_own_L4 N n x13 x14 (w64 (x15 + 1)) z4 b2_1 b2_2 b2_3 b2_4 b2_5 b2_6 b4_0 b4_1 b4_2 b4_3 b4_4 b4_5 b4_6
    else
      some ({ Items := b2_0, Batch := b2_1, Room := b2_2, First := b2_3, Most := b2_4, Waits := b2_5, Till := b2_6 } : VShard)
def shard_own (N : Nat) (x0 : VShard) (x1 : Int) : Option VShard :=
  (subC x0.Items x1 (x0.Items.length : Int)).bind fun z1 =>
  shard_own_L4 N N z1 (z1.length : Int) 0 ([] : List VItem) x0.Batch x0.Room x0.First x0.Most x0.Waits x0.Till ([] : List VItem) 0 0 0 0 0 0
/-! ### gleaner/shard.Push -/
def shard_Push_R10 (N : Nat) (n : Nat) (x6 : Int) (b2 : VShard) (b3 : VItem) (b4_0 : List VItem) (b4_1 : Int) (b4_2 : Int) (b4_3 : Int) (b4_4 : Int) (b4_5 : Int) (b4_6 : Int) : Option (VShard × Int) :=
  bif x6 != 0 then
    some (({ Items := ([] : List VItem), Batch := 0, Room := 0, First := 0, Most := 0, Waits := 0, Till := 0 } : VShard), x6)
  else
    (appCl 48 b2.Items ([b3] : List VItem)).bind fun z4 =>
    (shard_own N ({ Items := z4, Batch := b2.Batch, Room := b2.Room, First := b2.First, Most := b2.Most, Waits := b2.Waits, Till := b2.Till } : VShard) 0).bind fun z5 =>
    some (z5, 0)
def shard_Push_R8 (N : Nat) (n : Nat) (x6 : Int) (x7 : Int) (b2 : VShard) (b3 : VItem) (b4_0 : List VItem) (b4_1 : Int) (b4_2 : Int) (b4_3 : Int) (b4_4 : Int) (b4_5 : Int) (b4_6 : Int) : Option (VShard × Int) :=
  bif x7 == b2.Room then
    shard_Push_R10 N n 2 b2 b3 b4_0 b4_1 b4_2 b4_3 b4_4 b4_5 b4_6
  else
    shard_Push_R10 N n x6 b2 b3 b4_0 b4_1 b4_2 b4_3 b4_4 b4_5 b4_6
def shard_Push_R4 (N : Nat) (n : Nat) (x6 : Int) (b2 : VShard) (b3 : VItem) (b4_0 : List VItem) (b4_1 : Int) (b4_2 : Int) (b4_3 : Int) (b4_4 : Int) (b4_5 : Int) (b4_6 : Int) : Option (VShard × Int) :=
  bif x6 != 0 then
    shard_Push_R10 N n x6 b2 b3 b4_0 b4_1 b4_2 b4_3 b4_4 b4_5 b4_6
  else
    bif decide ((b2.Items.length : Int) > 0) then
      (idxC b2.Items (w64 ((b2.Items.length : Int) - 1))).bind fun z3 =>
      bif decide (b3.Number ≤ z3.Number) then
        shard_Push_R10 N n 4 b2 b3 b4_0 b4_1 b4_2 b4_3 b4_4 b4_5 b4_6
      else
        shard_Push_R8 N n x6 (b2.Items.length : Int) b2 b3 b4_0 b4_1 b4_2 b4_3 b4_4 b4_5 b4_6
    else
      shard_Push_R8 N n x6 (b2.Items.length : Int) b2 b3 b4_0 b4_1 b4_2 b4_3 b4_4 b4_5 b4_6
def shard_Push (N : Nat) (x0 : VShard) (x1 : VItem) : Option (VShard × Int) :=
  (shard_Check N x0).bind fun z1 =>
  bif z1 == 0 then
    (shard_checkItem N x1).bind fun z2 =>
    shard_Push_R4 N N z2 x0 x1 ([] : List VItem) 0 0 0 0 0 0
  else
    shard_Push_R4 N N z1 x0 x1 ([] : List VItem) 0 0 0 0 0 0
/-! ### gleaner/wire.many -/
def wire_many_L9 (N : Nat) (k4 : (List VSeries) → Int → Int → Option Bool) : Nat → (List VSeries) → Int → Int → (List VLabel) → Int → Int → Option Bool
  | 0, _, _, _, _, _, _ => none
  | n + 1, x10, x11, x12, x27, x28, x29 =>
    bif decide (x29 < x28) then
      (idxC x27 x29).bind fun z2 =>
      bif decide ((z2.Name.length : Int) > 20000) then
        some true
      else
        bif decide ((z2.Value.length : Int) > 20000) then
          some true
        else
          wire_many_L9 N k4 n x10 x11 x12 x27 x28 (w64 (x29 + 1))
    else
      k4 x10 x11 (w64 (x12 + 1))
def wire_many_L4 (N : Nat) : Nat → (List VSeries) → Int → Int → Option Bool
  | 0, _, _, _ => none
  | n + 1, x10, x11, x12 =>
    bif decide (x12 < x11) then
      (idxC x10 x12).bind fun z1 =>
      bif decide ((z1.Labels.length : Int) > 20) then
        some true
      else
        bif decide ((z1.Samples.length : Int) > 200) then
          some true
        else
          wire_many_L9 N (wire_many_L4 N n) n x10 x11 x12 z1.Labels (z1.Labels.length : Int) 0
    else
      some false
def wire_many (N : Nat) (x0 : List VSeries) : Option Bool :=
  bif decide ((x0.length : Int) > 200) then
    some true
  else
    wire_many_L4 N N x0 (x0.length : Int) 0
/-! ### gleaner/wire.isTime -/
def wire_isTime (N : Nat) (x0 : Int) : Option Bool :=
  bif decide (x0 ≥ (-9007199254740991)) then
    some (decide (x0 ≤ 9007199254740991))
  else
    some false
/-! ### gleaner/wire.times -/
def wire_times_L5 (N : Nat) (k2 : (List VSeries) → Int → Int → Option Bool) : Nat → (List VSeries) → Int → Int → (List VSample) → Int → Int → Option Bool
  | 0, _, _, _, _, _, _ => none
  | n + 1, x7, x8, x9, x14, x15, x16 =>
    bif decide (x16 < x15) then
      (idxC x14 x16).bind fun z2 =>
      (wire_isTime N z2.Time).bind fun z3 =>
      bif !z3 then
        some false
      else
        wire_times_L5 N k2 n x7 x8 x9 x14 x15 (w64 (x16 + 1))
    else
      k2 x7 x8 (w64 (x9 + 1))
def wire_times_L2 (N : Nat) : Nat → (List VSeries) → Int → Int → Option Bool
  | 0, _, _, _ => none
  | n + 1, x7, x8, x9 =>
    bif decide (x9 < x8) then
      (idxC x7 x9).bind fun z1 =>
      wire_times_L5 N (wire_times_L2 N n) n x7 x8 x9 z1.Samples (z1.Samples.length : Int) 0
    else
      some true
def wire_times (N : Nat) (x0 : List VSeries) : Option Bool :=
  wire_times_L2 N N x0 (x0.length : Int) 0
/-! ### gleaner/wire.check -/
def wire_check (N : Nat) (x0 : List VSeries) : Option Int :=
  (wire_many N x0).bind fun z1 =>
  bif z1 then
    some 2
  else
    (wire_times N x0).bind fun z2 =>
    bif !z2 then
      some 3
    else
      some 0
/-! ### gleaner/wire.Number -/
def wire_Number_L2 (N : Nat) : Nat → Int → (List UInt8) → Option (List UInt8)
  | 0, _, _ => none
  | n + 1, x0, x3 =>
    bif decide (x0 > 127) then
      (appC 1 x3 ([toB (bits .or .u8 (b2i (toB (IntKind.wrap .u8 x0))) (b2i 128))] : List UInt8)).bind fun z1 =>
      (shrC .u64 x0 7).bind fun z2 =>
      wire_Number_L2 N n z2 z1
    else
      (appC 1 x3 ([toB (IntKind.wrap .u8 x0)] : List UInt8)).bind fun z3 =>
      some z3
def wire_Number (N : Nat) (x0 : Int) : Option (List UInt8) :=
  wire_Number_L2 N N x0 ([] : List UInt8)
/-! ### gleaner/wire.field -/
def wire_field (N : Nat) (x0 : Int) (x1 : List UInt8) : Option (List UInt8) :=
  (shlC .u64 (IntKind.wrap .u64 x0) 3).bind fun z1 =>
  (wire_Number N (bits .or .u64 z1 2)).bind fun z2 =>
  (wire_Number N (IntKind.wrap .u64 (x1.length : Int))).bind fun z3 =>
  (catC z2 z3).bind fun z4 =>
  (catC z4 x1).bind fun z5 =>
  some z5
/-! ### gleaner/wire.sample -/
def wire_sample_L3 (N : Nat) : Nat → (List UInt8) → Int → VSample → Option (List UInt8)
  | 0, _, _, _ => none
  | n + 1, x3, x6, b1 =>
    bif decide (x6 < 8) then
      (shrC .u64 b1.Bits (w64 (8 * x6))).bind fun z1 =>
      (appC 1 x3 ([toB (IntKind.wrap .u8 z1)] : List UInt8)).bind fun z2 =>
      wire_sample_L3 N n z2 (w64 (x6 + 1)) b1
    else
      (wire_Number N 16).bind fun z3 =>
      (catC x3 z3).bind fun z4 =>
      (wire_Number N (IntKind.wrap .u64 b1.Time)).bind fun z5 =>
      (catC z4 z5).bind fun z6 =>
      some z6
def wire_sample (N : Nat) (x0 : VSample) : Option (List UInt8) :=
  wire_sample_L3 N N ([9] : List UInt8) 0 x0
end Go.Proofs.Ytofidfkojmbdoaa
