/- Plain functions, written by gen/tgl.py out of the program. -/
import Derived.Test.YtgmbgbalcndohaaHT
import Derived.Test.YtgmbgbalcndohaaFR01p
namespace Go.Proofs.Ytgmbgbalcndohaa
open Go.RowKit P
set_option linter.unusedVariables false
set_option linter.unusedSimpArgs false
set_option maxRecDepth 100000
/-! ### gleaner/gleanerref.UnpackRecord -/
def ref_UnpackRecord_R19 (N : Nat) (k8 : Int → Int → Int → (List VRef) → (List VPoint) → Int → (List VRef) → (List VPoint) → VCursor → Option (VRecord × Int)) (n : Nat) (x7 : Int) (x8 : Int) (b2_0 : Int) (b2_1 : List VRef) (b2_2 : List VPoint) (b6_0 : Int) (b6_1 : List VRef) (b6_2 : List VPoint) (b9_0 : Int) (b9_1 : List VLabel) (b20 : VCursor) : Option (VRecord × Int) :=
  (appC 32 b6_1 ([({ Ref := b9_0, Labels := b9_1 } : VRef)] : List VRef)).bind fun z18 =>
  k8 x7 (w64 (x8 + 1)) b2_0 b2_1 b2_2 b6_0 z18 b6_2 b20
def ref_UnpackRecord_L14 (N : Nat) (k8 : Int → Int → Int → (List VRef) → (List VPoint) → Int → (List VRef) → (List VPoint) → VCursor → Option (VRecord × Int)) : Nat → Int → Int → Int → Int → Int → (List VRef) → (List VPoint) → Int → (List VRef) → (List VPoint) → Int → (List VLabel) → VCursor → Option (VRecord × Int)
  | 0, _, _, _, _, _, _, _, _, _, _, _, _, _ => none
  | n + 1, x7, x8, x10, x11, b2_0, b2_1, b2_2, b6_0, b6_1, b6_2, b9_0, b9_1, b20 =>
    bif decide (x11 < x10) then
      bif !b20.Bad then
        (ref_Cursor_number_i0 N b20).bind fun z12 =>
        (ref_Cursor_bytes_i0 N z12.1 z12.2).bind fun z13 =>
        (ref_Cursor_number_i0 N z13.2).bind fun z14 =>
        (ref_Cursor_bytes_i0 N z14.1 z14.2).bind fun z15 =>
        (appC 32 b9_1 ([({ Name := z13.1, Value := z15.1 } : VLabel)] : List VLabel)).bind fun z16 =>
        ref_UnpackRecord_L14 N k8 n x7 x8 x10 (w64 (x11 + 1)) b2_0 b2_1 b2_2 b6_0 b6_1 b6_2 b9_0 z16 z15.2
      else
        ref_UnpackRecord_R19 N k8 n x7 x8 b2_0 b2_1 b2_2 b6_0 b6_1 b6_2 b9_0 b9_1 b20
    else
      ref_UnpackRecord_R19 N k8 n x7 x8 b2_0 b2_1 b2_2 b6_0 b6_1 b6_2 b9_0 b9_1 b20
def ref_UnpackRecord_L27 (N : Nat) (k8 : Int → Int → Int → (List VRef) → (List VPoint) → Int → (List VRef) → (List VPoint) → VCursor → Option (VRecord × Int)) : Nat → Int → Int → (List UInt8) → Int → Int → (List VRef) → (List VPoint) → Int → (List VRef) → (List VPoint) → VPoint → VCursor → Option (VRecord × Int)
  | 0, _, _, _, _, _, _, _, _, _, _, _, _ => none
  | n + 1, x7, x8, x16, x17, b2_0, b2_1, b2_2, b6_0, b6_1, b6_2, b14, b20 =>
    bif decide (x17 ≥ 0) then
      (idxC x16 x17).bind fun z19 =>
      ref_UnpackRecord_L27 N k8 n x7 x8 x16 (w64 (x17 - 1)) b2_0 b2_1 b2_2 b6_0 b6_1 b6_2 ({ Ref := b14.Ref, Time := b14.Time, Bits := IntKind.wrap .u64 ((IntKind.wrap .u64 (b14.Bits * 256)) + (IntKind.wrap .u64 (b2i z19))) } : VPoint) b20
    else
      (appC 24 b6_2 ([b14] : List VPoint)).bind fun z20 =>
      k8 x7 (w64 (x8 + 1)) b2_0 b2_1 b2_2 b6_0 b6_1 z20 b20
def ref_UnpackRecord_R25 (N : Nat) (k8 : Int → Int → Int → (List VRef) → (List VPoint) → Int → (List VRef) → (List VPoint) → VCursor → Option (VRecord × Int)) (n : Nat) (x7 : Int) (x8 : Int) (b2_0 : Int) (b2_1 : List VRef) (b2_2 : List VPoint) (b6_0 : Int) (b6_1 : List VRef) (b6_2 : List VPoint) (b14 : VPoint) (b20 : VCursor) : Option (VRecord × Int) :=
  (ref_Cursor_bytes_i0 N 8 b20).bind fun z17 =>
  ref_UnpackRecord_L27 N k8 n x7 x8 z17.1 (w64 ((z17.1.length : Int) - 1)) b2_0 b2_1 b2_2 b6_0 b6_1 b6_2 b14 z17.2
def ref_UnpackRecord_R10 (N : Nat) (k8 : Int → Int → Int → (List VRef) → (List VPoint) → Int → (List VRef) → (List VPoint) → VCursor → Option (VRecord × Int)) (n : Nat) (x7 : Int) (x8 : Int) (b2_0 : Int) (b2_1 : List VRef) (b2_2 : List VPoint) (b6_0 : Int) (b6_1 : List VRef) (b6_2 : List VPoint) (b20 : VCursor) : Option (VRecord × Int) :=
  bif b6_0 == 1 then
    (ref_Cursor_number_i0 N b20).bind fun z4 =>
    (ref_Cursor_number_i0 N z4.2).bind fun z5 =>
    ref_UnpackRecord_L14 N k8 n x7 x8 z5.1 0 b2_0 b2_1 b2_2 b6_0 b6_1 b6_2 z4.1 ([] : List VLabel) z5.2
  else
    (ref_Cursor_number_i0 N b20).bind fun z6 =>
    (ref_Cursor_number_i0 N z6.2).bind fun z7 =>
    (quoC .i64 z7.1 2).bind fun z8 =>
    (remC z7.1 2).bind fun z9 =>
    bif z9 == 1 then
      (quoC .i64 z7.1 2).bind fun z10 =>
      ref_UnpackRecord_R25 N k8 n x7 x8 b2_0 b2_1 b2_2 b6_0 b6_1 b6_2 ({ Ref := z6.1, Time := w64 ((w64 (0 - z10)) - 1), Bits := 0 } : VPoint) z7.2
    else
      ref_UnpackRecord_R25 N k8 n x7 x8 b2_0 b2_1 b2_2 b6_0 b6_1 b6_2 ({ Ref := z6.1, Time := z8, Bits := 0 } : VPoint) z7.2
def ref_UnpackRecord_R31 (N : Nat) (n : Nat) (b2_0 : Int) (b2_1 : List VRef) (b2_2 : List VPoint) (b6_0 : Int) (b6_1 : List VRef) (b6_2 : List VPoint) (b20 : VCursor) : Option (VRecord × Int) :=
  bif b20.Bad then
    some (({ Kind := 0, Refs := ([] : List VRef), Points := ([] : List VPoint) } : VRecord), 1)
  else
    bif !decide (b20.S = ([] : List UInt8)) then
      some (({ Kind := 0, Refs := ([] : List VRef), Points := ([] : List VPoint) } : VRecord), 1)
    else
      (ref_CheckRecord N ({ Kind := b6_0, Refs := b6_1, Points := b6_2 } : VRecord)).bind fun z11 =>
      bif z11 != 0 then
        some (({ Kind := 0, Refs := ([] : List VRef), Points := ([] : List VPoint) } : VRecord), 1)
      else
        some (({ Kind := b6_0, Refs := b6_1, Points := b6_2 } : VRecord), 0)
def ref_UnpackRecord_L8 (N : Nat) : Nat → Int → Int → Int → (List VRef) → (List VPoint) → Int → (List VRef) → (List VPoint) → VCursor → Option (VRecord × Int)
  | 0, _, _, _, _, _, _, _, _, _ => none
  | n + 1, x7, x8, b2_0, b2_1, b2_2, b6_0, b6_1, b6_2, b20 =>
    bif decide (x8 < x7) then
      bif !b20.Bad then
        bif b6_0 == 1 then
          ref_UnpackRecord_R10 N (ref_UnpackRecord_L8 N n) n x7 x8 b2_0 b2_1 b2_2 b6_0 b6_1 b6_2 b20
        else
          bif b6_0 == 2 then
            ref_UnpackRecord_R10 N (ref_UnpackRecord_L8 N n) n x7 x8 b2_0 b2_1 b2_2 b6_0 b6_1 b6_2 b20
          else
            ref_UnpackRecord_R31 N n b2_0 b2_1 b2_2 b6_0 b6_1 b6_2 b20
      else
        ref_UnpackRecord_R31 N n b2_0 b2_1 b2_2 b6_0 b6_1 b6_2 b20
    else
      ref_UnpackRecord_R31 N n b2_0 b2_1 b2_2 b6_0 b6_1 b6_2 b20
def ref_UnpackRecord (N : Nat) (x0 : List UInt8) : Option (VRecord × Int) :=
  (ref_Cursor_bytes_i0 N 1 ({ S := x0, Bad := false } : VCursor)).bind fun z1 =>
  bif z1.2.Bad then
    some (({ Kind := 0, Refs := ([] : List VRef), Points := ([] : List VPoint) } : VRecord), 1)
  else
    (idxC z1.1 0).bind fun z2 =>
    (ref_Cursor_number_i0 N z1.2).bind fun z3 =>
    ref_UnpackRecord_L8 N N z3.1 0 0 ([] : List VRef) ([] : List VPoint) (w64 (b2i z2)) ([] : List VRef) ([] : List VPoint) z3.2
/-! ### gleaner/gleanerref.SameLabels -/
def ref_SameLabels_L4 (N : Nat) : Nat → (List VLabel) → (List VLabel) → Int → Option Bool
  | 0, _, _, _ => none
  | n + 1, x0, x1, x5 =>
    bif decide (x5 < (x0.length : Int)) then
      (idxC x0 x5).bind fun z1 =>
      (idxC x1 x5).bind fun z2 =>
      bif !(beqS z1.Name z2.Name && (beqS z1.Value z2.Value && true)) then
        some false
      else
        ref_SameLabels_L4 N n x0 x1 (w64 (x5 + 1))
    else
      some true
def ref_SameLabels (N : Nat) (x0 : List VLabel) (x1 : List VLabel) : Option Bool :=
  bif (x0.length : Int) != (x1.length : Int) then
    some false
  else
    ref_SameLabels_L4 N N x0 x1 0
/-! ### gleaner/gleanerref.SameRefs -/
def ref_SameRefs_L4 (N : Nat) : Nat → (List VRef) → (List VRef) → Int → Option Bool
  | 0, _, _, _ => none
  | n + 1, x0, x1, x5 =>
    bif decide (x5 < (x0.length : Int)) then
      (idxC x0 x5).bind fun z1 =>
      (idxC x1 x5).bind fun z2 =>
      bif z1.Ref != z2.Ref then
        some false
      else
        (idxC x0 x5).bind fun z3 =>
        (idxC x1 x5).bind fun z4 =>
        (ref_SameLabels N z3.Labels z4.Labels).bind fun z5 =>
        bif !z5 then
          some false
        else
          ref_SameRefs_L4 N n x0 x1 (w64 (x5 + 1))
    else
      some true
def ref_SameRefs (N : Nat) (x0 : List VRef) (x1 : List VRef) : Option Bool :=
  bif (x0.length : Int) != (x1.length : Int) then
    some false
  else
    ref_SameRefs_L4 N N x0 x1 0
/-! ### gleaner/gleanerref.SameRecord -/
def ref_SameRecord_L4 (N : Nat) : Nat → Int → VRecord → VRecord → Option Bool
  | 0, _, _, _ => none
  | n + 1, x5, b2, b3 =>
    bif decide (x5 < (b2.Points.length : Int)) then
      (idxC b2.Points x5).bind fun z2 =>
      (idxC b3.Points x5).bind fun z3 =>
      bif !(beqI z2.Ref z3.Ref && (beqI z2.Time z3.Time && (beqI z2.Bits z3.Bits && true))) then
        some false
      else
        ref_SameRecord_L4 N n (w64 (x5 + 1)) b2 b3
    else
      some true
def ref_SameRecord (N : Nat) (x0 : VRecord) (x1 : VRecord) : Option Bool :=
  bif x0.Kind != x1.Kind then
    some false
  else
    bif (x0.Points.length : Int) != (x1.Points.length : Int) then
      some false
    else
      (ref_SameRefs N x0.Refs x1.Refs).bind fun z1 =>
      bif !z1 then
        some false
      else
        ref_SameRecord_L4 N N 0 x0 x1
end Go.Proofs.Ytgmbgbalcndohaa
