/- Plain functions, written by gen/tgl.py out of the program. -/
import Derived.Test.YtofidfkojmbdoaaHT
import Derived.Test.YtofidfkojmbdoaaFS1p
namespace Go.Proofs.Ytofidfkojmbdoaa
open Go.RowKit P
set_option linter.unusedVariables false
set_option linter.unusedSimpArgs false
set_option maxRecDepth 100000
/-! ### gleaner/gleanerlaw.ShardPushes -/
def law_ShardPushes_R15 (N : Nat) (n : Nat) (x6 : Int) (x7 : Int) (b5 : VShard) (b9_0 : List VItem) (b9_1 : Int) (b9_2 : Int) (b9_3 : Int) (b9_4 : Int) (b9_5 : Int) (b9_6 : Int) : Option Bool :=
  (law_shardBegun N).bind fun z8 =>
  bif z8 then
    bif x6 == x7 then
      (ref_SameShard N b5 ({ Items := b9_0, Batch := b9_1, Room := b9_2, First := b9_3, Most := b9_4, Waits := b9_5, Till := b9_6 } : VShard)).bind fun z9 =>
      some z9
    else
      some false
  else
    some false
def law_ShardPushes_R11 (N : Nat) (n : Nat) (x6 : Int) (x7 : Int) (b2 : VShard) (b3 : VItem) (b5 : VShard) : Option Bool :=
  bif x7 == 0 then
    (appC 48 ([] : List VItem) b2.Items).bind fun z5 =>
    (appC 48 z5 ([b3] : List VItem)).bind fun z7 =>
    law_ShardPushes_R15 N n x6 x7 b5 z7 b2.Batch b2.Room b2.First b2.Most b2.Waits b2.Till
  else
    law_ShardPushes_R15 N n x6 x7 b5 ([] : List VItem) 0 0 0 0 0 0
def law_ShardPushes_R9 (N : Nat) (n : Nat) (x6 : Int) (x7 : Int) (x8 : Int) (b2 : VShard) (b3 : VItem) (b5 : VShard) : Option Bool :=
  bif x8 == b2.Room then
    law_ShardPushes_R11 N n x6 2 b2 b3 b5
  else
    law_ShardPushes_R11 N n x6 x7 b2 b3 b5
def law_ShardPushes_R5 (N : Nat) (n : Nat) (x6 : Int) (x7 : Int) (b2 : VShard) (b3 : VItem) (b5 : VShard) : Option Bool :=
  bif x7 != 0 then
    law_ShardPushes_R11 N n x6 x7 b2 b3 b5
  else
    bif decide ((b2.Items.length : Int) > 0) then
      (idxC b2.Items (w64 ((b2.Items.length : Int) - 1))).bind fun z4 =>
      bif decide (b3.Number ≤ z4.Number) then
        law_ShardPushes_R11 N n x6 4 b2 b3 b5
      else
        law_ShardPushes_R9 N n x6 x7 (b2.Items.length : Int) b2 b3 b5
    else
      law_ShardPushes_R9 N n x6 x7 (b2.Items.length : Int) b2 b3 b5
def law_ShardPushes (N : Nat) (x0 : VShard) (x1 : VItem) : Option Bool :=
  (shard_Push N x0 x1).bind fun z1 =>
  (ref_CheckShard N x0).bind fun z2 =>
  bif z2 == 0 then
    (ref_CheckItem N x1).bind fun z3 =>
    law_ShardPushes_R5 N N z1.2 z3 x0 x1 z1.1
  else
    law_ShardPushes_R5 N N z1.2 z2 x0 x1 z1.1
/-! ### gleaner/gleanerref.CheckNext -/
def ref_CheckNext_R4 (N : Nat) (n : Nat) (x1 : Int) (x5 : Int) (b2 : VShard) : Option Int :=
  bif x5 == 0 then
    bif decide (b2.Till > x1) then
      some 4
    else
      some x5
  else
    some x5
def ref_CheckNext (N : Nat) (x0 : VShard) (x1 : Int) : Option Int :=
  (ref_CheckShard N x0).bind fun z1 =>
  bif z1 == 0 then
    (ref_IsTime N x1).bind fun z2 =>
    bif !z2 then
      ref_CheckNext_R4 N N x1 3 x0
    else
      ref_CheckNext_R4 N N x1 z1 x0
  else
    ref_CheckNext_R4 N N x1 z1 x0
/-! ### gleaner/gleanerref.SeriesOf -/
def ref_SeriesOf_L3 (N : Nat) : Nat → (List VItem) → (List VSeries) → Int → Option (List VSeries)
  | 0, _, _, _ => none
  | n + 1, x0, x3, x4 =>
    bif decide (x4 < (x0.length : Int)) then
      (idxC x0 x4).bind fun z1 =>
      (idxC x0 x4).bind fun z2 =>
      (appC 48 x3 ([({ Labels := z1.Labels, Samples := ([z2.Sample] : List VSample) } : VSeries)] : List VSeries)).bind fun z3 =>
      ref_SeriesOf_L3 N n x0 z3 (w64 (x4 + 1))
    else
      some x3
def ref_SeriesOf (N : Nat) (x0 : List VItem) : Option (List VSeries) :=
  ref_SeriesOf_L3 N N x0 ([] : List VSeries) 0
/-! ### gleaner/gleanerref.TooMany -/
def ref_TooMany_L7 (N : Nat) (k2 : (List VSeries) → Int → Option Bool) : Nat → (List VSeries) → Int → Int → Option Bool
  | 0, _, _, _ => none
  | n + 1, x0, x3, x4 =>
    (idxC x0 x3).bind fun z3 =>
    bif decide (x4 < (z3.Labels.length : Int)) then
      (idxC x0 x3).bind fun z4 =>
      (idxC z4.Labels x4).bind fun z5 =>
      bif decide ((z5.Name.length : Int) > 20000) then
        some true
      else
        (idxC x0 x3).bind fun z6 =>
        (idxC z6.Labels x4).bind fun z7 =>
        bif decide ((z7.Value.length : Int) > 20000) then
          some true
        else
          ref_TooMany_L7 N k2 n x0 x3 (w64 (x4 + 1))
    else
      k2 x0 (w64 (x3 + 1))
def ref_TooMany_L2 (N : Nat) : Nat → (List VSeries) → Int → Option Bool
  | 0, _, _ => none
  | n + 1, x0, x3 =>
    bif decide (x3 < (x0.length : Int)) then
      (idxC x0 x3).bind fun z1 =>
      bif decide ((z1.Labels.length : Int) > 20) then
        some true
      else
        (idxC x0 x3).bind fun z2 =>
        bif decide ((z2.Samples.length : Int) > 200) then
          some true
        else
          ref_TooMany_L7 N (ref_TooMany_L2 N n) n x0 x3 0
    else
      some (decide ((x0.length : Int) > 200))
def ref_TooMany (N : Nat) (x0 : List VSeries) : Option Bool :=
  ref_TooMany_L2 N N x0 0
/-! ### gleaner/gleanerref.CheckSeries -/
def ref_CheckSeries_L7 (N : Nat) (k4 : (List VSeries) → Int → Option Int) : Nat → (List VSeries) → Int → Int → Option Int
  | 0, _, _, _ => none
  | n + 1, x0, x3, x4 =>
    (idxC x0 x3).bind fun z2 =>
    bif decide (x4 < (z2.Samples.length : Int)) then
      (idxC x0 x3).bind fun z3 =>
      (idxC z3.Samples x4).bind fun z4 =>
      (ref_IsTime N z4.Time).bind fun z5 =>
      bif !z5 then
        some 3
      else
        ref_CheckSeries_L7 N k4 n x0 x3 (w64 (x4 + 1))
    else
      k4 x0 (w64 (x3 + 1))
def ref_CheckSeries_L4 (N : Nat) : Nat → (List VSeries) → Int → Option Int
  | 0, _, _ => none
  | n + 1, x0, x3 =>
    bif decide (x3 < (x0.length : Int)) then
      ref_CheckSeries_L7 N (ref_CheckSeries_L4 N n) n x0 x3 0
    else
      some 0
def ref_CheckSeries (N : Nat) (x0 : List VSeries) : Option Int :=
  (ref_TooMany N x0).bind fun z1 =>
  bif z1 then
    some 2
  else
    ref_CheckSeries_L4 N N x0 0
/-! ### gleaner/gleanerref.NumberOf -/
def ref_NumberOf_L2 (N : Nat) : Nat → Int → (List UInt8) → Option (List UInt8)
  | 0, _, _ => none
  | n + 1, x0, x3 =>
    bif decide (x0 ≥ 128) then
      (remC x0 128).bind fun z1 =>
      (catC x3 ([toB (IntKind.wrap .u8 (IntKind.wrap .u64 (z1 + 128)))] : List UInt8)).bind fun z2 =>
      (quoC .u64 x0 128).bind fun z3 =>
      ref_NumberOf_L2 N n z3 z2
    else
      (catC x3 ([toB (IntKind.wrap .u8 x0)] : List UInt8)).bind fun z4 =>
      some z4
def ref_NumberOf (N : Nat) (x0 : Int) : Option (List UInt8) :=
  ref_NumberOf_L2 N N x0 ([] : List UInt8)
/-! ### gleaner/gleanerref.fieldOf -/
def ref_fieldOf (N : Nat) (x0 : Int) (x1 : List UInt8) : Option (List UInt8) :=
  (ref_NumberOf N (IntKind.wrap .u64 (x1.length : Int))).bind fun z1 =>
  (catC ([toB (IntKind.wrap .u8 (w64 ((w64 (8 * x0)) + 2)))] : List UInt8) z1).bind fun z2 =>
  (catC z2 x1).bind fun z3 =>
  some z3
/-! ### gleaner/gleanerref.Word -/
def ref_Word_L3 (N : Nat) : Nat → Int → (List UInt8) → Int → Option (List UInt8)
  | 0, _, _, _ => none
  | n + 1, x0, x3, x4 =>
    bif decide (x4 < 8) then
      (remC x0 256).bind fun z1 =>
      (appC 1 x3 ([toB (IntKind.wrap .u8 z1)] : List UInt8)).bind fun z2 =>
      (quoC .u64 x0 256).bind fun z3 =>
      ref_Word_L3 N n z3 z2 (w64 (x4 + 1))
    else
      some x3
def ref_Word (N : Nat) (x0 : Int) : Option (List UInt8) :=
  ref_Word_L3 N N x0 ([] : List UInt8) 0
/-! ### gleaner/gleanerref.Unsigned -/
def ref_Unsigned (N : Nat) (x0 : Int) : Option Int :=
  bif decide (x0 ≥ 0) then
    some (IntKind.wrap .u64 x0)
  else
    some (IntKind.wrap .u64 (18446744073709551615 - (IntKind.wrap .u64 (w64 (0 - (w64 (x0 + 1)))))))
/-! ### gleaner/gleanerref.WriteOf -/
def ref_WriteOf_L15 (N : Nat) (k6 : (List VSeries) → (List UInt8) → Int → Option ((List UInt8) × Int)) : Nat → (List VSeries) → (List UInt8) → Int → (List UInt8) → Int → Option ((List UInt8) × Int)
  | 0, _, _, _, _, _ => none
  | n + 1, x0, x5, x6, x7, x10 =>
    (idxC x0 x6).bind fun z10 =>
    bif decide (x10 < (z10.Samples.length : Int)) then
      (idxC x0 x6).bind fun z11 =>
      (idxC z11.Samples x10).bind fun z12 =>
      (ref_Word N z12.Bits).bind fun z13 =>
      (catC ([9] : List UInt8) z13).bind fun z14 =>
      (catC z14 ([16] : List UInt8)).bind fun z15 =>
      (ref_Unsigned N z12.Time).bind fun z16 =>
      (ref_NumberOf N z16).bind fun z17 =>
      (catC z15 z17).bind fun z18 =>
      (ref_fieldOf N 2 z18).bind fun z19 =>
      (catC x7 z19).bind fun z20 =>
      ref_WriteOf_L15 N k6 n x0 x5 x6 z20 (w64 (x10 + 1))
    else
      (ref_fieldOf N 1 x7).bind fun z21 =>
      (catC x5 z21).bind fun z22 =>
      bif decide ((z22.length : Int) > 20000) then
        some (([] : List UInt8), 2)
      else
        k6 x0 z22 (w64 (x6 + 1))
def ref_WriteOf_L10 (N : Nat) (k6 : (List VSeries) → (List UInt8) → Int → Option ((List UInt8) × Int)) : Nat → (List VSeries) → (List UInt8) → Int → (List UInt8) → Int → Option ((List UInt8) × Int)
  | 0, _, _, _, _, _ => none
  | n + 1, x0, x5, x6, x7, x8 =>
    (idxC x0 x6).bind fun z2 =>
    bif decide (x8 < (z2.Labels.length : Int)) then
      (idxC x0 x6).bind fun z3 =>
      (idxC z3.Labels x8).bind fun z4 =>
      (ref_fieldOf N 1 z4.Name).bind fun z5 =>
      (ref_fieldOf N 2 z4.Value).bind fun z6 =>
      (catC z5 z6).bind fun z7 =>
      (ref_fieldOf N 1 z7).bind fun z8 =>
      (catC x7 z8).bind fun z9 =>
      ref_WriteOf_L10 N k6 n x0 x5 x6 z9 (w64 (x8 + 1))
    else
      ref_WriteOf_L15 N k6 n x0 x5 x6 x7 0
def ref_WriteOf_L6 (N : Nat) : Nat → (List VSeries) → (List UInt8) → Int → Option ((List UInt8) × Int)
  | 0, _, _, _ => none
  | n + 1, x0, x5, x6 =>
    bif decide (x6 < (x0.length : Int)) then
      ref_WriteOf_L10 N (ref_WriteOf_L6 N n) n x0 x5 x6 ([] : List UInt8) 0
    else
      some (x5, 0)
def ref_WriteOf (N : Nat) (x0 : List VSeries) : Option ((List UInt8) × Int) :=
  (ref_CheckSeries N x0).bind fun z1 =>
  bif z1 != 0 then
    some (([] : List UInt8), z1)
  else
    ref_WriteOf_L6 N N x0 ([] : List UInt8) 0
/-! ### gleaner/gleanerref.NextOf -/
def ref_NextOf_L2 (N : Nat) : Nat → Int → VShard → Option (List VItem)
  | 0, _, _ => none
  | n + 1, x3, b1 =>
    bif decide (x3 > 0) then
      (subC b1.Items 0 x3).bind fun z1 =>
      (ref_SeriesOf N z1).bind fun z2 =>
      (ref_WriteOf N z2).bind fun z3 =>
      bif z3.2 == 0 then
        (subC b1.Items 0 x3).bind fun z4 =>
        some z4
      else
        (quoC .i64 x3 2).bind fun z5 =>
        ref_NextOf_L2 N n z5 b1
    else
      (subC b1.Items 0 x3).bind fun z6 =>
      some z6
def ref_NextOf (N : Nat) (x0 : VShard) : Option (List VItem) :=
  ref_NextOf_L2 N N (if x0.Batch < (x0.Items.length : Int) then x0.Batch else (x0.Items.length : Int)) x0
/-! ### gleaner/gleanerref.NumberAt -/
def ref_NumberAt_L10 (N : Nat) : Nat → (List UInt8) → Int → Int → Int → Option (Int × Int × Int)
  | 0, _, _, _, _ => none
  | n + 1, x0, x5, x6, x7 =>
    bif decide (x7 ≥ 0) then
      (idxC x0 x7).bind fun z3 =>
      ((remC (b2i z3) (b2i 128)).bind u8C).bind fun z4 =>
      ref_NumberAt_L10 N n x0 x5 (IntKind.wrap .u64 ((IntKind.wrap .u64 (x6 * 128)) + (IntKind.wrap .u64 (b2i z4)))) (w64 (x7 - 1))
    else
      some (x6, w64 (x5 + 1), 0)
def ref_NumberAt_R8 (N : Nat) (n : Nat) (x0 : List UInt8) (x5 : Int) : Option (Int × Int × Int) :=
  ref_NumberAt_L10 N n x0 x5 0 x5
def ref_NumberAt_R4 (N : Nat) (n : Nat) (x0 : List UInt8) (x5 : Int) : Option (Int × Int × Int) :=
  bif x5 == (x0.length : Int) then
    some (0, 0, 1)
  else
    bif x5 == 9 then
      (idxC x0 9).bind fun z2 =>
      bif decide ((b2i z2) > (b2i 1)) then
        some (0, 0, 3)
      else
        ref_NumberAt_R8 N n x0 x5
    else
      ref_NumberAt_R8 N n x0 x5
def ref_NumberAt_L2 (N : Nat) : Nat → (List UInt8) → Int → Option (Int × Int × Int)
  | 0, _, _ => none
  | n + 1, x0, x5 =>
    bif decide (x5 < (x0.length : Int)) then
      (idxC x0 x5).bind fun z1 =>
      bif decide ((b2i z1) ≥ (b2i 128)) then
        bif decide (x5 < 9) then
          ref_NumberAt_L2 N n x0 (w64 (x5 + 1))
        else
          ref_NumberAt_R4 N n x0 x5
      else
        ref_NumberAt_R4 N n x0 x5
    else
      ref_NumberAt_R4 N n x0 x5
def ref_NumberAt (N : Nat) (x0 : List UInt8) : Option (Int × Int × Int) :=
  ref_NumberAt_L2 N N x0 0
/-! ### gleaner/gleanerref.UnpackOf$1 -/
def ref_UnpackOf_1_i0_L5 (N : Nat) : Nat → Int → Int → Int → Int → (List UInt8) → Option (Int × Int × (List UInt8))
  | 0, _, _, _, _, _ => none
  | n + 1, x0, x5, x6, b100000_0, b100001_0 =>
    bif decide (x6 ≥ 0) then
      (idxC b100001_0 (w64 (b100000_0 + x6))).bind fun z1 =>
      ref_UnpackOf_1_i0_L5 N n x0 (w64 ((w64 (256 * x5)) + (w64 (b2i z1)))) (w64 (x6 - 1)) b100000_0 b100001_0
    else
      some (x5, w64 (b100000_0 + x0), b100001_0)
def ref_UnpackOf_1_i0 (N : Nat) (x0 : Int) (y0_0 : Int) (y1_0 : List UInt8) : Option (Int × Int × (List UInt8)) :=
  bif decide ((w64 (y0_0 + x0)) > (y1_0.length : Int)) then
    some ((-1), y0_0, y1_0)
  else
    ref_UnpackOf_1_i0_L5 N N x0 0 (w64 (x0 - 1)) y0_0 y1_0
/-! ### gleaner/gleanerref.UnpackOf -/
def ref_UnpackOf_L22 (N : Nat) (k11 : Int → (List UInt8) → (List UInt8) → Int → Option ((List UInt8) × Int)) : Nat → Int → (List UInt8) → Int → Int → (List UInt8) → Int → Option ((List UInt8) × Int)
  | 0, _, _, _, _, _, _ => none
  | n + 1, x9, x10, x14, x15, b2_0, b7_0 =>
    bif decide (x15 ≤ x14) then
      (idxC b2_0 (w64 (b7_0 + x15))).bind fun z12 =>
      (appC 1 x10 ([z12] : List UInt8)).bind fun z13 =>
      ref_UnpackOf_L22 N k11 n x9 z13 x14 (w64 (x15 + 1)) b2_0 b7_0
    else
      k11 x9 x10 b2_0 (w64 (b7_0 + (w64 (x14 + 1))))
def ref_UnpackOf_R19 (N : Nat) (k11 : Int → (List UInt8) → (List UInt8) → Int → Option ((List UInt8) × Int)) (n : Nat) (x9 : Int) (x10 : List UInt8) (x14 : Int) (b2_0 : List UInt8) (b7_0 : Int) : Option ((List UInt8) × Int) :=
  bif decide (x14 < 0) then
    some (([] : List UInt8), 1)
  else
    bif decide ((w64 ((w64 (b7_0 + x14)) + 1)) > (b2_0.length : Int)) then
      some (([] : List UInt8), 1)
    else
      bif decide ((w64 ((w64 ((x10.length : Int) + x14)) + 1)) > x9) then
        some (([] : List UInt8), 1)
      else
        ref_UnpackOf_L22 N k11 n x9 x10 x14 0 b2_0 b7_0
def ref_UnpackOf_L40 (N : Nat) (k11 : Int → (List UInt8) → (List UInt8) → Int → Option ((List UInt8) × Int)) : Nat → Int → (List UInt8) → Int → Int → Int → (List UInt8) → Int → Option ((List UInt8) × Int)
  | 0, _, _, _, _, _, _, _ => none
  | n + 1, x9, x10, x16, x17, x18, b2_0, b7_0 =>
    bif decide (x18 < x16) then
      (idxC x10 (w64 ((x10.length : Int) - x17))).bind fun z14 =>
      (appC 1 x10 ([z14] : List UInt8)).bind fun z15 =>
      ref_UnpackOf_L40 N k11 n x9 z15 x16 x17 (w64 (x18 + 1)) b2_0 b7_0
    else
      k11 x9 x10 b2_0 b7_0
def ref_UnpackOf_R37 (N : Nat) (k11 : Int → (List UInt8) → (List UInt8) → Int → Option ((List UInt8) × Int)) (n : Nat) (x9 : Int) (x10 : List UInt8) (x16 : Int) (x17 : Int) (b2_0 : List UInt8) (b7_0 : Int) : Option ((List UInt8) × Int) :=
  bif decide (x17 < 1) then
    some (([] : List UInt8), 1)
  else
    bif decide (x17 > (x10.length : Int)) then
      some (([] : List UInt8), 1)
    else
      bif decide ((w64 ((x10.length : Int) + x16)) > x9) then
        some (([] : List UInt8), 1)
      else
        ref_UnpackOf_L40 N k11 n x9 x10 x16 x17 0 b2_0 b7_0
def ref_UnpackOf_L11 (N : Nat) : Nat → Int → (List UInt8) → (List UInt8) → Int → Option ((List UInt8) × Int)
  | 0, _, _, _, _ => none
  | n + 1, x9, x10, b2_0, b7_0 =>
    bif decide (b7_0 < (b2_0.length : Int)) then
      (idxC b2_0 b7_0).bind fun z2 =>
      (quoC .i64 (w64 (b2i z2)) 4).bind fun z3 =>
      (remC (w64 (b2i z2)) 4).bind fun z4 =>
      bif z4 == 0 then
        bif decide (z3 ≥ 60) then
          (ref_UnpackOf_1_i0 N (w64 (z3 - 59)) (w64 (b7_0 + 1)) b2_0).bind fun z5 =>
          ref_UnpackOf_R19 N (ref_UnpackOf_L11 N n) n x9 x10 z5.1 z5.2.2 z5.2.1
        else
          ref_UnpackOf_R19 N (ref_UnpackOf_L11 N n) n x9 x10 z3 b2_0 (w64 (b7_0 + 1))
      else
        (remC (w64 (b2i z2)) 4).bind fun z6 =>
        bif z6 == 1 then
          (remC z3 8).bind fun z7 =>
          (ref_UnpackOf_1_i0 N 1 (w64 (b7_0 + 1)) b2_0).bind fun z8 =>
          bif decide (z8.1 ≥ 0) then
            (quoC .i64 z3 8).bind fun z9 =>
            ref_UnpackOf_R37 N (ref_UnpackOf_L11 N n) n x9 x10 (w64 (z7 + 4)) (w64 (z8.1 + (w64 (z9 * 256)))) z8.2.2 z8.2.1
          else
            ref_UnpackOf_R37 N (ref_UnpackOf_L11 N n) n x9 x10 (w64 (z7 + 4)) z8.1 z8.2.2 z8.2.1
        else
          bif z6 == 2 then
            (ref_UnpackOf_1_i0 N 2 (w64 (b7_0 + 1)) b2_0).bind fun z10 =>
            ref_UnpackOf_R37 N (ref_UnpackOf_L11 N n) n x9 x10 (w64 (z3 + 1)) z10.1 z10.2.2 z10.2.1
          else
            bif z6 == 3 then
              (ref_UnpackOf_1_i0 N 4 (w64 (b7_0 + 1)) b2_0).bind fun z11 =>
              ref_UnpackOf_R37 N (ref_UnpackOf_L11 N n) n x9 x10 (w64 (z3 + 1)) z11.1 z11.2.2 z11.2.1
            else
              ref_UnpackOf_R37 N (ref_UnpackOf_L11 N n) n x9 x10 (w64 (z3 + 1)) (-1) b2_0 (w64 (b7_0 + 1))
    else
      bif (x10.length : Int) != x9 then
        some (([] : List UInt8), 1)
      else
        some (x10, 0)
def ref_UnpackOf (N : Nat) (x0 : List UInt8) (x1 : Int) : Option ((List UInt8) × Int) :=
  bif decide (x1 < 0) then
    some (([] : List UInt8), 3)
  else
    bif decide (x1 > 20000) then
      some (([] : List UInt8), 3)
    else
      (ref_NumberAt N x0).bind fun z1 =>
      bif z1.2.2 != 0 then
        some (([] : List UInt8), 1)
      else
        bif decide (z1.1 > (IntKind.wrap .u64 x1)) then
          some (([] : List UInt8), 2)
        else
          ref_UnpackOf_L11 N N (w64 z1.1) ([] : List UInt8) x0 z1.2.1
/-! ### gleaner/gleanerlaw.ShardNexts -/
def law_ShardNexts_R4 (N : Nat) (n : Nat) (x5 : List VItem) (x6 : List UInt8) (x7 : Int) (x8 : Int) : Option Bool :=
  (law_shardBegun N).bind fun z9 =>
  bif z9 then
    bif x7 == x8 then
      bif (x5.length : Int) == 0 then
        some (decide (x6 = ([] : List UInt8)))
      else
        some false
    else
      some false
  else
    some false
def law_ShardNexts (N : Nat) (x0 : VShard) (x1 : Int) : Option Bool :=
  (shard_Next N x0 x1).bind fun z1 =>
  (ref_CheckNext N x0 x1).bind fun z2 =>
  (law_shardBegun N).bind fun z3 =>
  bif !z3 then
    law_ShardNexts_R4 N N z1.1 z1.2.1 z1.2.2 z2
  else
    bif z1.2.2 != z2 then
      law_ShardNexts_R4 N N z1.1 z1.2.1 z1.2.2 z2
    else
      bif z2 != 0 then
        law_ShardNexts_R4 N N z1.1 z1.2.1 z1.2.2 z2
      else
        (ref_NextOf N x0).bind fun z4 =>
        (ref_SameItems N z1.1 z4).bind fun z5 =>
        bif !z5 then
          some false
        else
          bif (z1.1.length : Int) == 0 then
            some (decide (z1.2.1 = ([] : List UInt8)))
          else
            (ref_UnpackOf N z1.2.1 20000).bind fun z6 =>
            (ref_SeriesOf N z4).bind fun z7 =>
            (ref_WriteOf N z7).bind fun z8 =>
            bif z6.2 == 0 then
              bif z8.2 == 0 then
                some (decide (z6.1 = z8.1))
              else
                some false
            else
              some false
/-! ### gleaner/shard.Done -/
def shard_Done_R7 (N : Nat) (n : Nat) (x1 : Int) (x2 : Int) (x8 : List VItem) (x10 : Int) (b3 : VShard) (b6_0 : List VItem) (b6_1 : Int) (b6_2 : Int) (b6_3 : Int) (b6_4 : Int) (b6_5 : Int) (b6_6 : Int) : Option (VShard × Int) :=
  bif x10 != 0 then
    some (({ Items := ([] : List VItem), Batch := 0, Room := 0, First := 0, Most := 0, Waits := 0, Till := 0 } : VShard), x10)
  else
    bif x2 != 0 then
      (shard_own N b3 (x8.length : Int)).bind fun z2 =>
      some (({ Items := z2.Items, Batch := z2.Batch, Room := z2.Room, First := z2.First, Most := z2.Most, Waits := 0, Till := 0 } : VShard), 0)
    else
      (shard_own N b3 0).bind fun z3 =>
      some (({ Items := z3.Items, Batch := z3.Batch, Room := z3.Room, First := z3.First, Most := z3.Most, Waits := if (if z3.First < (w64 (2 * z3.Waits)) then (w64 (2 * z3.Waits)) else z3.First) < z3.Most then (if z3.First < (w64 (2 * z3.Waits)) then (w64 (2 * z3.Waits)) else z3.First) else z3.Most, Till := if (w64 (x1 + (if (if z3.First < (w64 (2 * z3.Waits)) then (w64 (2 * z3.Waits)) else z3.First) < z3.Most then (if z3.First < (w64 (2 * z3.Waits)) then (w64 (2 * z3.Waits)) else z3.First) else z3.Most))) < 9007199254740991 then (w64 (x1 + (if (if z3.First < (w64 (2 * z3.Waits)) then (w64 (2 * z3.Waits)) else z3.First) < z3.Most then (if z3.First < (w64 (2 * z3.Waits)) then (w64 (2 * z3.Waits)) else z3.First) else z3.Most))) else 9007199254740991 } : VShard), 0)
def shard_Done_R5 (N : Nat) (n : Nat) (x1 : Int) (x2 : Int) (x8 : List VItem) (x10 : Int) (b3 : VShard) (b6_0 : List VItem) (b6_1 : Int) (b6_2 : Int) (b6_3 : Int) (b6_4 : Int) (b6_5 : Int) (b6_6 : Int) : Option (VShard × Int) :=
  bif (x8.length : Int) == 0 then
    shard_Done_R7 N n x1 x2 x8 5 b3 b6_0 b6_1 b6_2 b6_3 b6_4 b6_5 b6_6
  else
    shard_Done_R7 N n x1 x2 x8 x10 b3 b6_0 b6_1 b6_2 b6_3 b6_4 b6_5 b6_6
def shard_Done (N : Nat) (x0 : VShard) (x1 : Int) (x2 : Int) : Option (VShard × Int) :=
  (shard_Next N x0 x1).bind fun z1 =>
  bif z1.2.2 != 0 then
    shard_Done_R7 N N x1 x2 z1.1 z1.2.2 x0 ([] : List VItem) 0 0 0 0 0 0
  else
    bif x2 != 200 then
      bif x2 != 400 then
        bif x2 != 0 then
          shard_Done_R7 N N x1 x2 z1.1 7 x0 ([] : List VItem) 0 0 0 0 0 0
        else
          shard_Done_R5 N N x1 x2 z1.1 z1.2.2 x0 ([] : List VItem) 0 0 0 0 0 0
      else
        shard_Done_R5 N N x1 x2 z1.1 z1.2.2 x0 ([] : List VItem) 0 0 0 0 0 0
    else
      shard_Done_R5 N N x1 x2 z1.1 z1.2.2 x0 ([] : List VItem) 0 0 0 0 0 0
/-! ### gleaner/gleanerref.DoneOf -/
def ref_DoneOf_R15 (N : Nat) (n : Nat) (x1 : Int) (b3 : VShard) (b6_0 : List VItem) (b6_1 : Int) (b6_2 : Int) (b6_3 : Int) (b6_4 : Int) (b6_5 : Int) (b6_6 : Int) : Option (VShard × Int) :=
  some (({ Items := b3.Items, Batch := b3.Batch, Room := b3.Room, First := b3.First, Most := b3.Most, Waits := b3.Waits, Till := if 9007199254740991 < (w64 (x1 + b3.Waits)) then 9007199254740991 else (w64 (x1 + b3.Waits)) } : VShard), 0)
def ref_DoneOf_R6 (N : Nat) (n : Nat) (x1 : Int) (x2 : Int) (x8 : Int) (b3 : VShard) (b6_0 : List VItem) (b6_1 : Int) (b6_2 : Int) (b6_3 : Int) (b6_4 : Int) (b6_5 : Int) (b6_6 : Int) : Option (VShard × Int) :=
  bif x8 != 0 then
    some (({ Items := ([] : List VItem), Batch := 0, Room := 0, First := 0, Most := 0, Waits := 0, Till := 0 } : VShard), x8)
  else
    bif x2 != 0 then
      (ref_NextOf N b3).bind fun z2 =>
      (subC b3.Items (z2.length : Int) (b3.Items.length : Int)).bind fun z3 =>
      some (({ Items := z3, Batch := b3.Batch, Room := b3.Room, First := b3.First, Most := b3.Most, Waits := 0, Till := 0 } : VShard), 0)
    else
      bif b3.Waits == 0 then
        ref_DoneOf_R15 N n x1 ({ Items := b3.Items, Batch := b3.Batch, Room := b3.Room, First := b3.First, Most := b3.Most, Waits := b3.First, Till := b3.Till } : VShard) b6_0 b6_1 b6_2 b6_3 b6_4 b6_5 b6_6
      else
        ref_DoneOf_R15 N n x1 ({ Items := b3.Items, Batch := b3.Batch, Room := b3.Room, First := b3.First, Most := b3.Most, Waits := if b3.Most < (w64 (2 * b3.Waits)) then b3.Most else (w64 (2 * b3.Waits)), Till := b3.Till } : VShard) b6_0 b6_1 b6_2 b6_3 b6_4 b6_5 b6_6
def ref_DoneOf_R4 (N : Nat) (n : Nat) (x1 : Int) (x2 : Int) (x8 : Int) (b3 : VShard) (b6_0 : List VItem) (b6_1 : Int) (b6_2 : Int) (b6_3 : Int) (b6_4 : Int) (b6_5 : Int) (b6_6 : Int) : Option (VShard × Int) :=
  bif x8 == 0 then
    bif (b3.Items.length : Int) == 0 then
      ref_DoneOf_R6 N n x1 x2 5 b3 b6_0 b6_1 b6_2 b6_3 b6_4 b6_5 b6_6
    else
      ref_DoneOf_R6 N n x1 x2 x8 b3 b6_0 b6_1 b6_2 b6_3 b6_4 b6_5 b6_6
  else
    ref_DoneOf_R6 N n x1 x2 x8 b3 b6_0 b6_1 b6_2 b6_3 b6_4 b6_5 b6_6
def ref_DoneOf (N : Nat) (x0 : VShard) (x1 : Int) (x2 : Int) : Option (VShard × Int) :=
  (ref_CheckNext N x0 x1).bind fun z1 =>
  bif z1 == 0 then
    bif x2 != 0 then
      bif x2 != 200 then
        bif x2 != 400 then
          ref_DoneOf_R4 N N x1 x2 7 x0 ([] : List VItem) 0 0 0 0 0 0
        else
          ref_DoneOf_R4 N N x1 x2 z1 x0 ([] : List VItem) 0 0 0 0 0 0
      else
        ref_DoneOf_R4 N N x1 x2 z1 x0 ([] : List VItem) 0 0 0 0 0 0
    else
      ref_DoneOf_R4 N N x1 x2 z1 x0 ([] : List VItem) 0 0 0 0 0 0
  else
    ref_DoneOf_R4 N N x1 x2 z1 x0 ([] : List VItem) 0 0 0 0 0 0
/-! ### gleaner/gleanerlaw.ShardDones -/
def law_ShardDones (N : Nat) (x0 : VShard) (x1 : Int) (x2 : Int) : Option Bool :=
  (shard_Done N x0 x1 x2).bind fun z1 =>
  (ref_DoneOf N x0 x1 x2).bind fun z2 =>
  (law_shardBegun N).bind fun z3 =>
  bif z3 then
    bif z1.2 == z2.2 then
      (ref_SameShard N z1.1 z2.1).bind fun z4 =>
      some z4
    else
      some false
  else
    some false
/-! ### gleaner/gleanerlaw.ShardGoes -/
def law_ShardGoes_L6 (N : Nat) : Nat → Int → (List VItem) → (List VItem) → Int → VShard → Option Bool
  | 0, _, _, _, _, _ => none
  | n + 1, x1, x5, x6, x7, b2 =>
    bif decide (x7 ≤ (x5.length : Int)) then
      (shard_Next N b2 x1).bind fun z6 =>
      bif z6.2.2 != 0 then
        some (x7 == 0)
      else
        bif (z6.1.length : Int) == 0 then
          (ref_SameItems N x6 x5).bind fun z7 =>
          some z7
        else
          (appC 48 x6 z6.1).bind fun z8 =>
          (shard_Done N b2 x1 200).bind fun z9 =>
          bif z9.2 != 0 then
            some false
          else
            bif z9.1.Waits != 0 then
              some false
            else
              (shard_Check N z9.1).bind fun z10 =>
              bif z10 != 0 then
                some false
              else
                law_ShardGoes_L6 N n x1 x5 z8 (w64 (x7 + 1)) z9.1
    else
      some false
def law_ShardGoes (N : Nat) (x0 : VShard) (x1 : Int) : Option Bool :=
  (law_shardBegun N).bind fun z1 =>
  bif !z1 then
    (law_shardBegun N).bind fun z2 =>
    some z2
  else
    (shard_Check N x0).bind fun z3 =>
    bif z3 != 0 then
      (law_shardBegun N).bind fun z4 =>
      some z4
    else
      bif decide (x1 < 0) then
        (law_shardBegun N).bind fun z5 =>
        some z5
      else
        law_ShardGoes_L6 N N x1 x0.Items ([] : List VItem) 0 x0
/-! ### gleaner/gleanerlaw.ShardWaits -/
def law_ShardWaits_R10 (N : Nat) (k4 : Int → Int → VShard → Option Bool) (n : Nat) : Option Bool :=
  some false
def law_ShardWaits_L4 (N : Nat) : Nat → Int → Int → VShard → Option Bool
  | 0, _, _, _ => none
  | n + 1, x1, x5, b2 =>
    bif decide (x5 < 30) then
      (shard_Done N b2 x1 0).bind fun z2 =>
      bif z2.2 != 0 then
        some (x5 == 0)
      else
        bif decide (z2.1.Waits < z2.1.First) then
          law_ShardWaits_R10 N (law_ShardWaits_L4 N n) n
        else
          bif decide (z2.1.Waits > z2.1.Most) then
            law_ShardWaits_R10 N (law_ShardWaits_L4 N n) n
          else
            bif decide (z2.1.Waits < b2.Waits) then
              law_ShardWaits_R10 N (law_ShardWaits_L4 N n) n
            else
              bif decide (z2.1.Till < x1) then
                law_ShardWaits_R10 N (law_ShardWaits_L4 N n) n
              else
                bif decide (z2.1.Till > 9007199254740991) then
                  law_ShardWaits_R10 N (law_ShardWaits_L4 N n) n
                else
                  (ref_SameItems N z2.1.Items b2.Items).bind fun z3 =>
                  bif !z3 then
                    law_ShardWaits_R10 N (law_ShardWaits_L4 N n) n
                  else
                    (shard_Check N z2.1).bind fun z4 =>
                    bif z4 != 0 then
                      law_ShardWaits_R10 N (law_ShardWaits_L4 N n) n
                    else
                      law_ShardWaits_L4 N n z2.1.Till (w64 (x5 + 1)) z2.1
    else
      some (b2.Waits == b2.Most)
def law_ShardWaits (N : Nat) (x0 : VShard) (x1 : Int) : Option Bool :=
  (law_shardBegun N).bind fun z1 =>
  bif !z1 then
    some false
  else
    law_ShardWaits_L4 N N x1 0 x0
end Go.Proofs.Ytofidfkojmbdoaa
