-- slim: written by gen/slim.py from XFR01p.r.lean.tpl
/- Plain functions, written by gen/tgl.py out of the program. -/
import Derived.Test.YtgmbgbalcndohaaHT
import Derived.Test.YtgmbgbalcndohaaIN2
import Derived.Test.YtgmbgbalcndohaaNR
namespace Go.Proofs.Ytgmbgbalcndohaa
open Go.RowKit P
set_option linter.unusedVariables false
set_option linter.unusedSimpArgs false
set_option maxRecDepth 100000
/-! ### gleaner/record.isRef -/
def record_isRef (N : Nat) (x0 : Int) : Option Bool :=
  bif decide (x0 ≥ 1) then
    some (decide (x0 ≤ 1000000))
  else
    some false
/-! ### gleaner/labels.each -/
def labels_each_R9 (N : Nat) (k4 : (List VLabel) → Bool → (List VLabel) → Int → Int → Option Int) (n : Nat) (x0 : List VLabel) (x1 : Bool) (x13 : List VLabel) (x14 : Int) (x15 : Int) (b6 : VLabel) : Option Int :=
  bif decide ((b6.Value.length : Int) > 100) then
    some 2
  else
    k4 x0 x1 x13 x14 (w64 (x15 + 1))
def labels_each_L14 (N : Nat) : Nat → (List VLabel) → Int → Int → (List (List UInt8 × Bool)) → Option Int
  | 0, _, _, _, _ => none
  | n + 1, x38, x39, x40, b37 =>
    bif decide (x40 < x39) then
      (idxC x38 x40).bind fun z3 =>
      bif (mget b37 z3.Name).getD false then
        some 6
      else
        labels_each_L14 N n x38 x39 (w64 (x40 + 1)) (mset b37 z3.Name true)
    else
      some 0
def labels_each_L4 (N : Nat) : Nat → (List VLabel) → Bool → (List VLabel) → Int → Int → Option Int
  | 0, _, _, _, _, _ => none
  | n + 1, x0, x1, x13, x14, x15 =>
    bif decide (x15 < x14) then
      (idxC x13 x15).bind fun z1 =>
      (labels_IsName N z1.Name).bind fun z2 =>
      bif !z2 then
        some 1
      else
        bif decide (z1.Value = ([] : List UInt8)) then
          bif !x1 then
            some 1
          else
            labels_each_R9 N (labels_each_L4 N n) n x0 x1 x13 x14 x15 z1
        else
          labels_each_R9 N (labels_each_L4 N n) n x0 x1 x13 x14 x15 z1
    else
      labels_each_L14 N n x0 (x0.length : Int) 0 ([] : List (List UInt8 × Bool))
def labels_each (N : Nat) (x0 : List VLabel) (x1 : Bool) : Option Int :=
  bif decide ((x0.length : Int) > 20) then
    some 2
  else
    labels_each_L4 N N x0 x1 x0 (x0.length : Int) 0
/-! ### cmp.isNaN[string] -/
def cmp_isNaN_string_ (N : Nat) (x0 : List UInt8) : Option Bool :=
  some (!decide (x0 = x0))
/-! ### cmp.Compare[string] -/
def cmp_Compare_string_ (N : Nat) (x0 : List UInt8) (x1 : List UInt8) : Option Int :=
  (cmp_isNaN_string_ N x0).bind fun z1 =>
  (cmp_isNaN_string_ N x1).bind fun z2 =>
  bif z1 then
    bif z2 then
      some 0
    else
      some (-1)
  else
    bif z2 then
      some 1
    else
      bif Op.bytesLess x0 x1 then
        some (-1)
      else
        bif !(Op.bytesLess x0 x1 || decide (x0 = x1)) then
          some 1
        else
          some 0
/-! ### gleaner/labels.byName -/
def labels_byName (N : Nat) (x0 : VLabel) (x1 : VLabel) : Option Int :=
  (cmp_Compare_string_ N x0.Name x1.Name).bind fun z1 =>
  some z1
/-! ### slices.IsSortedFunc[[]gleaner/api.Label,gleaner/api.Label] -/
def slices_IsSortedFunc_api_Label_api_Label__i0_L2 (N : Nat) : Nat → (List VLabel) → Int → Option Bool
  | 0, _, _ => none
  | n + 1, x0, x5 =>
    bif decide (x5 > 0) then
      (idxC x0 x5).bind fun z1 =>
      (idxC x0 (w64 (x5 - 1))).bind fun z2 =>
      (labels_byName N z1 z2).bind fun z3 =>
      bif decide (z3 < 0) then
        some false
      else
        slices_IsSortedFunc_api_Label_api_Label__i0_L2 N n x0 (w64 (x5 - 1))
    else
      some true
def slices_IsSortedFunc_api_Label_api_Label__i0 (N : Nat) (x0 : List VLabel) : Option Bool :=
  slices_IsSortedFunc_api_Label_api_Label__i0_L2 N N x0 (w64 ((x0.length : Int) - 1))
/-! ### gleaner/labels.Check -/
def labels_Check (N : Nat) (x0 : List VLabel) : Option Int :=
  (labels_each N x0 false).bind fun z1 =>
  bif z1 != 0 then
    some z1
  else
    (slices_IsSortedFunc_api_Label_api_Label__i0 N x0).bind fun z2 =>
    bif !z2 then
      some 4
    else
      some 0
/-! ### gleaner/record.checkRef -/
def record_checkRef (N : Nat) (x0 : VRef) : Option Int :=
  (record_isRef N x0.Ref).bind fun z1 =>
  bif !z1 then
    some 3
  else
    bif (x0.Labels.length : Int) == 0 then
      some 1
    else
      (labels_Check N x0.Labels).bind fun z2 =>
      some z2
/-! ### gleaner/record.isTime -/
def record_isTime (N : Nat) (x0 : Int) : Option Bool :=
  bif decide (x0 ≥ (-9007199254740991)) then
    some (decide (x0 ≤ 9007199254740991))
  else
    some false
/-! ### gleaner/record.check -/
def record_check_L15 (N : Nat) : Nat → (List VPoint) → Int → Int → Option Int
  | 0, _, _, _ => none
  | n + 1, x63, x64, x65 =>
    bif decide (x65 < x64) then
      (idxC x63 x65).bind fun z3 =>
      (record_isRef N z3.Ref).bind fun z4 =>
      bif !z4 then
        some 3
      else
        (record_isTime N z3.Time).bind fun z5 =>
        bif !z5 then
          some 3
        else
          record_check_L15 N n x63 x64 (w64 (x65 + 1))
    else
      some 0
def record_check_L8 (N : Nat) : Nat → (List VRef) → Int → Int → VRecord → Option Int
  | 0, _, _, _, _ => none
  | n + 1, x50, x51, x52, b1 =>
    bif decide (x52 < x51) then
      (idxC x50 x52).bind fun z1 =>
      (record_checkRef N z1).bind fun z2 =>
      bif z2 != 0 then
        some z2
      else
        record_check_L8 N n x50 x51 (w64 (x52 + 1)) b1
    else
      record_check_L15 N n b1.Points (b1.Points.length : Int) 0
def record_check_R5 (N : Nat) (n : Nat) (b1 : VRecord) : Option Int :=
  bif decide ((b1.Refs.length : Int) > 200) then
    some 2
  else
    bif decide ((b1.Points.length : Int) > 200) then
      some 2
    else
      record_check_L8 N n b1.Refs (b1.Refs.length : Int) 0 b1
def record_check_R3 (N : Nat) (n : Nat) (b1 : VRecord) : Option Int :=
  bif b1.Kind == 1 then
    bif decide ((b1.Points.length : Int) > 0) then
      some 1
    else
      bif b1.Kind == 2 then
        bif decide ((b1.Refs.length : Int) > 0) then
          some 1
        else
          record_check_R5 N n b1
      else
        record_check_R5 N n b1
  else
    bif b1.Kind == 2 then
      bif decide ((b1.Refs.length : Int) > 0) then
        some 1
      else
        record_check_R5 N n b1
    else
      record_check_R5 N n b1
def record_check (N : Nat) (x0 : VRecord) : Option Int :=
  bif x0.Kind != 1 then
    bif x0.Kind != 2 then
      some 7
    else
      record_check_R3 N N x0
  else
    record_check_R3 N N x0
/-! ### gleaner/record.number -/
def record_number (N : Nat) (x0 : Int) : Option (List UInt8) :=
  (wire_Number N (IntKind.wrap .u64 x0)).bind fun z1 =>
  some z1
/-! ### gleaner/record.text -/
def record_text (N : Nat) (x0 : List UInt8) : Option (List UInt8) :=
  (record_number N (x0.length : Int)).bind fun z1 =>
  (catC z1 x0).bind fun z2 =>
  some z2
/-! ### gleaner/record.signed -/
def record_signed (N : Nat) (x0 : Int) : Option (List UInt8) :=
  bif decide (x0 < 0) then
    (record_number N (w64 ((w64 ((-2) * x0)) - 1))).bind fun z1 =>
    some z1
  else
    (record_number N (w64 (2 * x0))).bind fun z2 =>
    some z2
/-! ### gleaner/record.word -/
def record_word_L3 (N : Nat) : Nat → Int → Int → (List UInt8) → Option (List UInt8)
  | 0, _, _, _ => none
  | n + 1, x0, x5, b3 =>
    bif decide (x5 < 8) then
      (shrC .u64 x0 (w64 (8 * x5))).bind fun z1 =>
      (idxN 8 x5).bind fun z2 =>
      (setA b3 (0 + z2) (toB (IntKind.wrap .u8 z1))).bind fun z3 =>
      record_word_L3 N n x0 (w64 (x5 + 1)) z3
    else
      (subN 8 0 (8 : Int)).bind fun z4 =>
      (fullC (offN 0 8 z4.1) (z4.2 - z4.1) b3).bind fun z5 =>
      some z5
def record_word (N : Nat) (x0 : Int) : Option (List UInt8) :=
  record_word_L3 N N x0 0 ([0, 0, 0, 0, 0, 0, 0, 0] : List UInt8)
/-! ### gleaner/record.Pack -/
def record_Pack_L12 (N : Nat) (k8 : (List UInt8) → (List VRef) → Int → Int → Option ((List UInt8) × Int)) : Nat → (List UInt8) → (List VRef) → Int → Int → (List VLabel) → Int → Int → Option ((List UInt8) × Int)
  | 0, _, _, _, _, _, _, _ => none
  | n + 1, x5, x32, x33, x34, x49, x50, x51 =>
    bif decide (x51 < x50) then
      (idxC x49 x51).bind fun z18 =>
      (record_text N z18.Name).bind fun z19 =>
      (record_text N z18.Value).bind fun z20 =>
      (catC z19 z20).bind fun z21 =>
      (catC x5 z21).bind fun z22 =>
      record_Pack_L12 N k8 n z22 x32 x33 x34 x49 x50 (w64 (x51 + 1))
    else
      k8 x5 x32 x33 (w64 (x34 + 1))
def record_Pack_L8 (N : Nat) : Nat → (List UInt8) → (List VRef) → Int → Int → Option ((List UInt8) × Int)
  | 0, _, _, _, _ => none
  | n + 1, x5, x32, x33, x34 =>
    bif decide (x34 < x33) then
      (idxC x32 x34).bind fun z6 =>
      (record_number N z6.Ref).bind fun z7 =>
      (record_number N (z6.Labels.length : Int)).bind fun z8 =>
      (catC z7 z8).bind fun z9 =>
      (catC x5 z9).bind fun z10 =>
      record_Pack_L12 N (record_Pack_L8 N n) n z10 x32 x33 x34 z6.Labels (z6.Labels.length : Int) 0
    else
      some (x5, 0)
def record_Pack_L20 (N : Nat) : Nat → (List UInt8) → (List VPoint) → Int → Int → Option ((List UInt8) × Int)
  | 0, _, _, _, _ => none
  | n + 1, x5, x74, x75, x76 =>
    bif decide (x76 < x75) then
      (idxC x74 x76).bind fun z11 =>
      (record_number N z11.Ref).bind fun z12 =>
      (record_signed N z11.Time).bind fun z13 =>
      (catC z12 z13).bind fun z14 =>
      (record_word N z11.Bits).bind fun z15 =>
      (catC z14 z15).bind fun z16 =>
      (catC x5 z16).bind fun z17 =>
      record_Pack_L20 N n z17 x74 x75 (w64 (x76 + 1))
    else
      some (x5, 0)
def record_Pack (N : Nat) (x0 : VRecord) : Option ((List UInt8) × Int) :=
  (record_check N x0).bind fun z1 =>
  bif z1 != 0 then
    some (([] : List UInt8), z1)
  else
    bif x0.Kind == 1 then
      (record_number N (x0.Refs.length : Int)).bind fun z2 =>
      (catC ([toB (IntKind.wrap .u8 x0.Kind)] : List UInt8) z2).bind fun z3 =>
      record_Pack_L8 N N z3 x0.Refs (x0.Refs.length : Int) 0
    else
      (record_number N (x0.Points.length : Int)).bind fun z4 =>
      (catC ([toB (IntKind.wrap .u8 x0.Kind)] : List UInt8) z4).bind fun z5 =>
      record_Pack_L20 N N z5 x0.Points (x0.Points.length : Int) 0
/-! ### (*gleaner/record.reader).take -/
def record_reader_take_i0_R2 (N : Nat) (n : Nat) (x1 : Int) (b100000 : Vreader) : Option (PR ((List UInt8) × Vreader)) :=
  some (.pan (Value.iface 54 (.agg #[])))
def record_reader_take_i0 (N : Nat) (x1 : Int) (y0 : Vreader) : Option (PR ((List UInt8) × Vreader)) :=
  bif decide (x1 < 0) then
    record_reader_take_i0_R2 N N x1 y0
  else
    bif decide (x1 > (y0.s.length : Int)) then
      record_reader_take_i0_R2 N N x1 y0
    else
      (subC y0.s 0 x1).bind fun z1 =>
      (subC y0.s x1 (y0.s.length : Int)).bind fun z2 =>
      some (.ok (z1, ({ s := z2 } : Vreader)))
/-! ### (*gleaner/record.reader).number -/
def record_reader_number_i0_R3 (N : Nat) (n : Nat) (x3 : Int) (x4 : Int) (b100000 : Vreader) : Option (PR (Int × Vreader)) :=
  some (.pan (Value.iface 54 (.agg #[])))
def record_reader_number_i0 (N : Nat) (y0 : Vreader) : Option (PR (Int × Vreader)) :=
  (wire_ReadNumber N y0.s).bind fun z1 =>
  bif z1.2.2 != 0 then
    record_reader_number_i0_R3 N N z1.1 z1.2.1 y0
  else
    bif decide (z1.1 > 4611686018427387904) then
      record_reader_number_i0_R3 N N z1.1 z1.2.1 y0
    else
      (wire_Number N z1.1).bind fun z2 =>
      (subC y0.s 0 z1.2.1).bind fun z3 =>
      bif !decide (z2 = z3) then
        record_reader_number_i0_R3 N N z1.1 z1.2.1 y0
      else
        (subC y0.s z1.2.1 (y0.s.length : Int)).bind fun z4 =>
        some (.ok (w64 z1.1, ({ s := z4 } : Vreader)))
/-! ### (*gleaner/record.reader).text -/
def record_reader_text_i0 (N : Nat) (y0 : Vreader) : Option (PR ((List UInt8) × Vreader)) :=
  (record_reader_number_i0 N y0).bind fun z1 =>
  match z1 with
  | .pan vz1 =>
    some (.pan vz1)
  | .ok z2 =>
    (record_reader_take_i0 N z2.1 z2.2).bind fun z3 =>
    match z3 with
    | .pan vz3 =>
      some (.pan vz3)
    | .ok z4 =>
      some (.ok (z4.1, z4.2))
/-! ### (*gleaner/record.reader).record$1$1 -/
def record_reader_record_1_1_i0 (N : Nat) (y0_0 : Int) (y0_1 : List VLabel) (y2 : Vreader) : Option (PR (Int × (List VLabel) × Vreader)) :=
  (record_reader_text_i0 N y2).bind fun z1 =>
  match z1 with
  | .pan vz1 =>
    some (.pan vz1)
  | .ok z2 =>
    (record_reader_text_i0 N z2.2).bind fun z3 =>
    match z3 with
    | .pan vz3 =>
      some (.pan vz3)
    | .ok z4 =>
      (appC 32 y0_1 ([({ Name := z2.1, Value := z4.1 } : VLabel)] : List VLabel)).bind fun z5 =>
      some (.ok (y0_0, z5, z4.2))
/-! ### (*gleaner/record.reader).many -/
def record_reader_many_i0_L4 (N : Nat) : Nat → Int → Int → Vreader → Int → (List VLabel) → Option (PR (Vreader × Int × (List VLabel)))
  | 0, _, _, _, _, _ => none
  | n + 1, x16, x17, b100000, b100001_0, b100001_1 =>
    bif decide (x17 < x16) then
      (record_reader_record_1_1_i0 N b100001_0 b100001_1 b100000).bind fun z3 =>
      match z3 with
      | .pan vz3 =>
        some (.pan vz3)
      | .ok z4 =>
        record_reader_many_i0_L4 N n x16 (w64 (x17 + 1)) z4.2.2 z4.1 z4.2.1
    else
      some (.ok (b100000, b100001_0, b100001_1))
def record_reader_many_i0 (N : Nat) (y0 : Vreader) (y1_0 : Int) (y1_1 : List VLabel) : Option (PR (Vreader × Int × (List VLabel))) :=
  (record_reader_number_i0 N y0).bind fun z1 =>
  match z1 with
  | .pan vz1 =>
    some (.pan vz1)
  | .ok z2 =>
    bif decide (z2.1 > (z2.2.s.length : Int)) then
      some (.pan (Value.iface 54 (.agg #[])))
    else
      record_reader_many_i0_L4 N N z2.1 0 z2.2 y1_0 y1_1
/-! ### (*gleaner/record.reader).record$1 -/
def record_reader_record_1_i0 (N : Nat) (y1_0 : Int) (y1_1 : List VRef) (y1_2 : List VPoint) (y2 : Vreader) : Option (PR (Int × (List VRef) × (List VPoint) × Vreader)) :=
  (record_reader_number_i0 N y2).bind fun z1 =>
  match z1 with
  | .pan vz1 =>
    some (.pan vz1)
  | .ok z2 =>
    (record_reader_many_i0 N z2.2 z2.1 ([] : List VLabel)).bind fun z3 =>
    match z3 with
    | .pan vz3 =>
      some (.pan vz3)
    | .ok z4 =>
      (appC 32 y1_1 ([({ Ref := z4.2.1, Labels := z4.2.2 } : VRef)] : List VRef)).bind fun z5 =>
      some (.ok (y1_0, z5, y1_2, z4.1))
/-! ### (*gleaner/record.reader).many -/
def record_reader_many_i1_L4 (N : Nat) : Nat → Int → Int → Vreader → Int → (List VRef) → (List VPoint) → Option (PR (Vreader × Int × (List VRef) × (List VPoint)))
  | 0, _, _, _, _, _, _ => none
  | n + 1, x16, x17, b100000, b100002_0, b100002_1, b100002_2 =>
    bif decide (x17 < x16) then
      (record_reader_record_1_i0 N b100002_0 b100002_1 b100002_2 b100000).bind fun z3 =>
      match z3 with
      | .pan vz3 =>
        some (.pan vz3)
      | .ok z4 =>
        record_reader_many_i1_L4 N n x16 (w64 (x17 + 1)) z4.2.2.2 z4.1 z4.2.1 z4.2.2.1
    else
      some (.ok (b100000, b100002_0, b100002_1, b100002_2))
def record_reader_many_i1 (N : Nat) (y0 : Vreader) (y2_0 : Int) (y2_1 : List VRef) (y2_2 : List VPoint) : Option (PR (Vreader × Int × (List VRef) × (List VPoint))) :=
  (record_reader_number_i0 N y0).bind fun z1 =>
  match z1 with
  | .pan vz1 =>
    some (.pan vz1)
  | .ok z2 =>
    bif decide (z2.1 > (z2.2.s.length : Int)) then
      some (.pan (Value.iface 54 (.agg #[])))
    else
      record_reader_many_i1_L4 N N z2.1 0 z2.2 y2_0 y2_1 y2_2
/-! ### (*gleaner/record.reader).record$2 -/
def record_reader_record_2_i0_L5 (N : Nat) : Nat → (List UInt8) → Int → Int → VPoint → Int → (List VRef) → (List VPoint) → Vreader → Option (PR (Int × (List VRef) × (List VPoint) × Vreader))
  | 0, _, _, _, _, _, _, _, _ => none
  | n + 1, x26, x27, x28, b2, b100001_0, b100001_1, b100001_2, b100002 =>
    bif decide (x28 < x27) then
      (idxC x26 x28).bind fun z58 =>
      (shlC .u64 (IntKind.wrap .u64 (b2i z58)) (w64 (8 * x28))).bind fun z59 =>
      record_reader_record_2_i0_L5 N n x26 x27 (w64 (x28 + 1)) ({ Ref := b2.Ref, Time := b2.Time, Bits := bits .or .u64 b2.Bits z59 } : VPoint) b100001_0 b100001_1 b100001_2 b100002
    else
      (appC 24 b100001_2 ([b2] : List VPoint)).bind fun z60 =>
      some (.ok (b100001_0, b100001_1, z60, b100002))
def record_reader_record_2_i0_R4 (N : Nat) (n : Nat) (b2 : VPoint) (b100001_0 : Int) (b100001_1 : List VRef) (b100001_2 : List VPoint) (b100002 : Vreader) : Option (PR (Int × (List VRef) × (List VPoint) × Vreader)) :=
  (record_reader_take_i0 N 8 b100002).bind fun z56 =>
  match z56 with
  | .pan vz56 =>
    some (.pan vz56)
  | .ok z57 =>
    record_reader_record_2_i0_L5 N n z57.1 (z57.1.length : Int) 0 b2 b100001_0 b100001_1 b100001_2 z57.2
def record_reader_record_2_i0_R1 (N : Nat) (n : Nat) (b2 : VPoint) (b100001_0 : Int) (b100001_1 : List VRef) (b100001_2 : List VPoint) (b100002 : Vreader) : Option (PR (Int × (List VRef) × (List VPoint) × Vreader)) :=
  (remC b2.Time 2).bind fun z53 =>
  bif z53 == 0 then
    (quoC .i64 b2.Time 2).bind fun z54 =>
    record_reader_record_2_i0_R4 N n ({ Ref := b2.Ref, Time := z54, Bits := b2.Bits } : VPoint) b100001_0 b100001_1 b100001_2 b100002
  else
    (quoC .i64 (w64 (0 - (w64 (b2.Time + 1)))) 2).bind fun z55 =>
    record_reader_record_2_i0_R4 N n ({ Ref := b2.Ref, Time := z55, Bits := b2.Bits } : VPoint) b100001_0 b100001_1 b100001_2 b100002
def record_reader_record_2_i0 (N : Nat) (y1_0 : Int) (y1_1 : List VRef) (y1_2 : List VPoint) (y2 : Vreader) : Option (PR (Int × (List VRef) × (List VPoint) × Vreader)) :=
  (record_reader_number_i0 N y2).bind fun z49 =>
  match z49 with
  | .pan vz49 =>
    some (.pan vz49)
  | .ok z50 =>
    (record_reader_number_i0 N z50.2).bind fun z51 =>
    match z51 with
    | .pan vz51 =>
      some (.pan vz51)
    | .ok z52 =>
      record_reader_record_2_i0_R1 N N ({ Ref := z50.1, Time := z52.1, Bits := 0 } : VPoint) y1_0 y1_1 y1_2 z52.2
/-! ### (*gleaner/record.reader).many -/
def record_reader_many_i2_L4 (N : Nat) : Nat → Int → Int → Vreader → Int → (List VRef) → (List VPoint) → Option (PR (Vreader × Int × (List VRef) × (List VPoint)))
  | 0, _, _, _, _, _, _ => none
  | n + 1, x16, x17, b100000, b100002_0, b100002_1, b100002_2 =>
    bif decide (x17 < x16) then
      (record_reader_record_2_i0 N b100002_0 b100002_1 b100002_2 b100000).bind fun z3 =>
      match z3 with
      | .pan vz3 =>
        some (.pan vz3)
      | .ok z4 =>
        record_reader_many_i2_L4 N n x16 (w64 (x17 + 1)) z4.2.2.2 z4.1 z4.2.1 z4.2.2.1
    else
      some (.ok (b100000, b100002_0, b100002_1, b100002_2))
def record_reader_many_i2 (N : Nat) (y0 : Vreader) (y2_0 : Int) (y2_1 : List VRef) (y2_2 : List VPoint) : Option (PR (Vreader × Int × (List VRef) × (List VPoint))) :=
  (record_reader_number_i0 N y0).bind fun z1 =>
  match z1 with
  | .pan vz1 =>
    some (.pan vz1)
  | .ok z2 =>
    bif decide (z2.1 > (z2.2.s.length : Int)) then
      some (.pan (Value.iface 54 (.agg #[])))
    else
      record_reader_many_i2_L4 N N z2.1 0 z2.2 y2_0 y2_1 y2_2
/-! ### (*gleaner/record.reader).record -/
def record_reader_record_i0 (N : Nat) (y0 : Vreader) : Option (PR (VRecord × Vreader)) :=
  (record_reader_take_i0 N 1 y0).bind fun z1 =>
  match z1 with
  | .pan vz1 =>
    some (.pan vz1)
  | .ok z2 =>
    (idxC z2.1 0).bind fun z3 =>
    bif (w64 (b2i z3)) == 1 then
      (record_reader_many_i1 N z2.2 (w64 (b2i z3)) ([] : List VRef) ([] : List VPoint)).bind fun z4 =>
      match z4 with
      | .pan vz4 =>
        some (.pan vz4)
      | .ok z5 =>
        some (.ok (({ Kind := z5.2.1, Refs := z5.2.2.1, Points := z5.2.2.2 } : VRecord), z5.1))
    else
      bif (w64 (b2i z3)) == 2 then
        (record_reader_many_i2 N z2.2 (w64 (b2i z3)) ([] : List VRef) ([] : List VPoint)).bind fun z6 =>
        match z6 with
        | .pan vz6 =>
          some (.pan vz6)
        | .ok z7 =>
          some (.ok (({ Kind := z7.2.1, Refs := z7.2.2.1, Points := z7.2.2.2 } : VRecord), z7.1))
      else
        some (.ok (({ Kind := w64 (b2i z3), Refs := ([] : List VRef), Points := ([] : List VPoint) } : VRecord), z2.2))
/-! ### gleaner/gleanerref.IsRef -/
/-! ### gleaner/gleanerref.IsLetter -/
/-! ### gleaner/gleanerref.IsNumeral -/
/-! ### gleaner/gleanerref.IsName -/
/-! ### gleaner/gleanerref.EachLabel -/
/-! ### gleaner/gleanerref.CheckLabels -/
/-! ### gleaner/gleanerref.CheckRef -/
/-! ### gleaner/gleanerref.IsTime -/
/-! ### gleaner/gleanerref.CheckRecord -/
/-! ### gleaner/gleanerref.small -/
/-! ### gleaner/gleanerref.Word -/
/-! ### gleaner/gleanerref.PackOf -/
/-! ### (*gleaner/gleanerref.Cursor).bytes -/
/-! ### (*gleaner/gleanerref.Cursor).number -/
end Go.Proofs.Ytgmbgbalcndohaa
