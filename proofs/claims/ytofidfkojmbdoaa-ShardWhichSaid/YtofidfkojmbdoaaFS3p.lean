/- Plain functions, written by gen/tgl.py out of the program. -/
import Derived.Test.YtofidfkojmbdoaaHT
import Derived.Test.YtofidfkojmbdoaaFS2p
namespace Go.Proofs.Ytofidfkojmbdoaa
open Go.RowKit P
set_option linter.unusedVariables false
set_option linter.unusedSimpArgs false
set_option maxRecDepth 100000
/-! ### gleaner/wire.Write -/
def wire_Write_L15 (N : Nat) (k6 : (List UInt8) → (List VSeries) → Int → Int → Option ((List UInt8) × Int)) : Nat → (List UInt8) → (List UInt8) → (List VSeries) → Int → Int → (List VSample) → Int → Int → Option ((List UInt8) × Int)
  | 0, _, _, _, _, _, _, _, _ => none
  | n + 1, x5, x8, x18, x19, x20, x43, x44, x45 =>
    bif decide (x45 < x44) then
      (idxC x43 x45).bind fun z9 =>
      (wire_sample N z9).bind fun z10 =>
      (wire_field N 2 z10).bind fun z11 =>
      (catC x8 z11).bind fun z12 =>
      wire_Write_L15 N k6 n x5 z12 x18 x19 x20 x43 x44 (w64 (x45 + 1))
    else
      (wire_field N 1 x8).bind fun z13 =>
      (catC x5 z13).bind fun z14 =>
      bif decide ((z14.length : Int) > 20000) then
        some (([] : List UInt8), 2)
      else
        k6 z14 x18 x19 (w64 (x20 + 1))
def wire_Write_L10 (N : Nat) (k6 : (List UInt8) → (List VSeries) → Int → Int → Option ((List UInt8) × Int)) : Nat → (List UInt8) → (List UInt8) → (List VSeries) → Int → Int → (List VLabel) → Int → Int → VSeries → Option ((List UInt8) × Int)
  | 0, _, _, _, _, _, _, _, _, _ => none
  | n + 1, x5, x8, x18, x19, x20, x25, x26, x27, b7 =>
    bif decide (x27 < x26) then
      (idxC x25 x27).bind fun z3 =>
      (wire_field N 1 z3.Name).bind fun z4 =>
      (wire_field N 2 z3.Value).bind fun z5 =>
      (catC z4 z5).bind fun z6 =>
      (wire_field N 1 z6).bind fun z7 =>
      (catC x8 z7).bind fun z8 =>
      wire_Write_L10 N k6 n x5 z8 x18 x19 x20 x25 x26 (w64 (x27 + 1)) b7
    else
      wire_Write_L15 N k6 n x5 x8 x18 x19 x20 b7.Samples (b7.Samples.length : Int) 0
def wire_Write_L6 (N : Nat) : Nat → (List UInt8) → (List VSeries) → Int → Int → Option ((List UInt8) × Int)
  | 0, _, _, _, _ => none
  | n + 1, x5, x18, x19, x20 =>
    bif decide (x20 < x19) then
      (idxC x18 x20).bind fun z2 =>
      wire_Write_L10 N (wire_Write_L6 N n) n x5 ([] : List UInt8) x18 x19 x20 z2.Labels (z2.Labels.length : Int) 0 z2
    else
      some (x5, 0)
def wire_Write (N : Nat) (x0 : List VSeries) : Option ((List UInt8) × Int) :=
  (wire_check N x0).bind fun z1 =>
  bif z1 != 0 then
    some (([] : List UInt8), z1)
  else
    wire_Write_L6 N N ([] : List UInt8) x0 (x0.length : Int) 0
/-! ### gleaner/shard.packed -/
def shard_packed_L3 (N : Nat) : Nat → (List VSeries) → (List VItem) → Int → Int → Option ((List UInt8) × Bool)
  | 0, _, _, _, _ => none
  | n + 1, x4, x9, x10, x11 =>
    bif decide (x11 < x10) then
      (idxC x9 x11).bind fun z1 =>
      (appC 48 x4 ([({ Labels := z1.Labels, Samples := ([z1.Sample] : List VSample) } : VSeries)] : List VSeries)).bind fun z2 =>
      shard_packed_L3 N n z2 x9 x10 (w64 (x11 + 1))
    else
      (wire_Write N x4).bind fun z3 =>
      bif z3.2 != 0 then
        some (([] : List UInt8), false)
      else
        (press_Pack N z3.1).bind fun z4 =>
        some (z4.1, z4.2 == 0)
def shard_packed (N : Nat) (x0 : List VItem) : Option ((List UInt8) × Bool) :=
  shard_packed_L3 N N ([] : List VSeries) x0 (x0.length : Int) 0
/-! ### gleaner/shard.Next -/
def shard_Next_L9 (N : Nat) : Nat → Int → VShard → Option ((List VItem) × (List UInt8) × Int)
  | 0, _, _ => none
  | n + 1, x8, b2 =>
    bif decide (x8 > 0) then
      (subC b2.Items 0 x8).bind fun z3 =>
      (shard_packed N z3).bind fun z4 =>
      bif z4.2 then
        (subC b2.Items 0 x8).bind fun z5 =>
        (shard_own N ({ Items := z5, Batch := b2.Batch, Room := b2.Room, First := b2.First, Most := b2.Most, Waits := b2.Waits, Till := b2.Till } : VShard) 0).bind fun z6 =>
        some (z6.Items, z4.1, 0)
      else
        (quoC .i64 x8 2).bind fun z7 =>
        shard_Next_L9 N n z7 b2
    else
      some (([] : List VItem), ([] : List UInt8), 0)
def shard_Next (N : Nat) (x0 : VShard) (x1 : Int) : Option ((List VItem) × (List UInt8) × Int) :=
  (shard_Check N x0).bind fun z1 =>
  bif z1 != 0 then
    some (([] : List VItem), ([] : List UInt8), z1)
  else
    (shard_isTime N x1).bind fun z2 =>
    bif !z2 then
      some (([] : List VItem), ([] : List UInt8), 3)
    else
      bif decide (x0.Till > x1) then
        some (([] : List VItem), ([] : List UInt8), 4)
      else
        shard_Next_L9 N N (if x0.Batch < (x0.Items.length : Int) then x0.Batch else (x0.Items.length : Int)) x0
/-! ### gleaner/gleanerlaw.shardBegun -/
def law_shardBegun (N : Nat) : Option Bool :=
  (shard_Push N ({ Items := ([] : List VItem), Batch := 1, Room := 1, First := 1, Most := 2, Waits := 0, Till := 0 } : VShard) ({ Number := 0, Labels := ([({ Name := ([97] : List UInt8), Value := ([98] : List UInt8) } : VLabel)] : List VLabel), Sample := ({ Time := 0, Bits := 0 } : VSample) } : VItem)).bind fun z1 =>
  (shard_Next N z1.1 0).bind fun z2 =>
  bif z1.2 == 0 then
    bif z2.2.2 == 0 then
      bif (z2.1.length : Int) == 1 then
        some (!decide (z2.2.1 = ([] : List UInt8)))
      else
        some false
    else
      some false
  else
    some false
/-! ### gleaner/gleanerlaw.ShardWhich -/
def law_ShardWhich_R8 (N : Nat) (n : Nat) (x5 : Int) (x6 : Int) (x7 : Int) (x8 : Int) : Option Bool :=
  (law_shardBegun N).bind fun z7 =>
  bif z7 then
    bif x6 == x7 then
      some (x5 == x8)
    else
      some false
  else
    some false
def law_ShardWhich_R4 (N : Nat) (n : Nat) (x0 : List VLabel) (x1 : Int) (x5 : Int) (x6 : Int) (x8 : Int) : Option Bool :=
  bif 3 == 0 then
    (ref_SumOf N x0).bind fun z5 =>
    (remC z5 (IntKind.wrap .u64 x1)).bind fun z6 =>
    law_ShardWhich_R8 N n x5 x6 3 (w64 z6)
  else
    law_ShardWhich_R8 N n x5 x6 3 x8
def law_ShardWhich (N : Nat) (x0 : List VLabel) (x1 : Int) : Option Bool :=
  (shard_Which N x0 x1).bind fun z1 =>
  bif decide (x1 < 1) then
    law_ShardWhich_R4 N N x0 x1 z1.1 z1.2 0
  else
    bif decide (x1 > 8) then
      law_ShardWhich_R4 N N x0 x1 z1.1 z1.2 0
    else
      (ref_CheckLabels N x0).bind fun z2 =>
      bif z2 == 0 then
        (ref_SumOf N x0).bind fun z3 =>
        (remC z3 (IntKind.wrap .u64 x1)).bind fun z4 =>
        law_ShardWhich_R8 N N z1.1 z1.2 z2 (w64 z4)
      else
        law_ShardWhich_R8 N N z1.1 z1.2 z2 0
end Go.Proofs.Ytofidfkojmbdoaa
