/- The walks that prove plain functions right, written by gen/tgl.py. -/
import Derived.Test.YtgmbgbalcndohaaFR02p
import Derived.Test.YtgmbgbalcndohaaFR01
namespace Go.Proofs.Ytgmbgbalcndohaa
open Go.RowKit P
set_option linter.unusedVariables false
set_option linter.unusedSimpArgs false
set_option maxRecDepth 100000
/-! ### gleaner/gleanerref.UnpackRecord -/
def ref_UnpackRecord_u (r : VRecord × Int) : TV EE.T := .tu [.ag (unpT EE (.nam 5) r.1), .a (.d (.int .i64) r.2)]
def w12enc (r : VRecord × Int) : RL EE.T := .ret (ref_UnpackRecord_u r) []
def w12lv : Lvs := ⟨[(10, ⟨[(2, false), (4, false), (6, false), (7, false), (8, false)], [], [(2, (none, [])), (6, (none, [])), (20, (some 7, []))]⟩), (19, ⟨[(2, false), (4, false), (6, false), (7, false), (8, false), (9, false)], [], [(2, (none, [])), (6, (none, [])), (9, (none, [])), (20, (some 7, []))]⟩), (25, ⟨[(2, false), (4, false), (6, false), (7, false), (8, false), (14, false)], [], [(2, (none, [])), (6, (none, [])), (14, (some 4, [])), (20, (some 7, []))]⟩), (29, ⟨[(2, false), (4, false), (6, false), (7, false), (8, false), (14, false), (16, false), (17, false)], [], [(2, (none, [])), (6, (none, [])), (14, (some 4, [])), (20, (some 7, []))]⟩), (31, ⟨[(2, false), (4, false), (6, false)], [], [(2, (none, [])), (6, (none, [])), (20, (some 7, []))]⟩)], [(8, ⟨[(2, false), (4, false), (6, false), (7, false), (8, false)], [], [(2, (none, [])), (6, (none, [])), (20, (some 7, []))]⟩), (14, ⟨[(2, false), (4, false), (6, false), (7, false), (8, false), (9, false), (10, false), (11, false)], [], [(2, (none, [])), (6, (none, [])), (9, (none, [])), (20, (some 7, []))]⟩), (27, ⟨[(2, false), (4, false), (6, false), (7, false), (8, false), (14, false), (16, false), (17, false)], [], [(2, (none, [])), (6, (none, [])), (14, (some 4, [])), (20, (some 7, []))]⟩)], [10, 19, 25, 31], [], false, [(2, (some 5, []))], []⟩
def w12rs : List ResultVar := [.cell 2 25, .tmp 3]
def w12G (N : Nat) : Gam EE := ⟨[⟨7, ref_CheckRecord_h N⟩], EQT, [⟨27, ref_Cursor_number_i0_h N⟩, ⟨26, ref_Cursor_bytes_i0_h N⟩], []⟩
theorem w12Gok (N : Nat) : GOk Try.prog TT EE (w12G N) := GOk.cons (ref_CheckRecord_hok N) (GOk.consx (ref_Cursor_number_i0_hok N) (GOk.consx (ref_Cursor_bytes_i0_hok N) (GOk.nil EQT_ok)))
def w12kR19 (c : Code) : List It2 := atR 19 c
def w12sR19 (x7 : Int) (x8 : Int) (b2_0 : Int) (b2_1 : List VRef) (b2_2 : List VPoint) (b6_0 : Int) (b6_1 : List VRef) (b6_2 : List VPoint) (b9_0 : Int) (b9_1 : List VLabel) (b20 : VCursor) : TS EE.T := ⟨156, [(2, .a (.box 2 0)), (4, .a (.box 20 0)), (6, .a (.box 6 0)), (7, .a (.d (.int .i64) x7)), (8, .a (.d (.int .i64) x8)), (9, .a (.box 9 0))], [(2, .cs [.d (.int .i64) b2_0, .own (.nam 3) b2_1, .own (.nam 4) b2_2]), (6, .cs [.d (.int .i64) b6_0, .own (.nam 3) b6_1, .own (.nam 4) b6_2]), (9, .cs [.d (.int .i64) b9_0, .own (.nam 2) b9_1]), (20, .cs (unpT EE (.nam 7) b20))], []⟩
def w12kL14 (c : Code) : List It2 := atL 14 c
def w12sL14 (x7 : Int) (x8 : Int) (x10 : Int) (x11 : Int) (b2_0 : Int) (b2_1 : List VRef) (b2_2 : List VPoint) (b6_0 : Int) (b6_1 : List VRef) (b6_2 : List VPoint) (b9_0 : Int) (b9_1 : List VLabel) (b20 : VCursor) : TS EE.T := ⟨156, [(2, .a (.box 2 0)), (4, .a (.box 20 0)), (6, .a (.box 6 0)), (7, .a (.d (.int .i64) x7)), (8, .a (.d (.int .i64) x8)), (9, .a (.box 9 0)), (10, .a (.d (.int .i64) x10)), (11, .a (.d (.int .i64) x11))], [(2, .cs [.d (.int .i64) b2_0, .own (.nam 3) b2_1, .own (.nam 4) b2_2]), (6, .cs [.d (.int .i64) b6_0, .own (.nam 3) b6_1, .own (.nam 4) b6_2]), (9, .cs [.d (.int .i64) b9_0, .own (.nam 2) b9_1]), (20, .cs (unpT EE (.nam 7) b20))], []⟩
def w12kL27 (c : Code) : List It2 := atL 27 c
def w12sL27 (x7 : Int) (x8 : Int) (x16 : List UInt8) (x17 : Int) (b2_0 : Int) (b2_1 : List VRef) (b2_2 : List VPoint) (b6_0 : Int) (b6_1 : List VRef) (b6_2 : List VPoint) (b14 : VPoint) (b20 : VCursor) : TS EE.T := ⟨156, [(2, .a (.box 2 0)), (4, .a (.box 20 0)), (6, .a (.box 6 0)), (7, .a (.d (.int .i64) x7)), (8, .a (.d (.int .i64) x8)), (14, .a (.box 14 0)), (16, .a (.d .str x16)), (17, .a (.d (.int .i64) x17))], [(2, .cs [.d (.int .i64) b2_0, .own (.nam 3) b2_1, .own (.nam 4) b2_2]), (6, .cs [.d (.int .i64) b6_0, .own (.nam 3) b6_1, .own (.nam 4) b6_2]), (14, .cs (unpT EE (.nam 4) b14)), (20, .cs (unpT EE (.nam 7) b20))], []⟩
def w12kR25 (c : Code) : List It2 := atR 25 c
def w12sR25 (x7 : Int) (x8 : Int) (b2_0 : Int) (b2_1 : List VRef) (b2_2 : List VPoint) (b6_0 : Int) (b6_1 : List VRef) (b6_2 : List VPoint) (b14 : VPoint) (b20 : VCursor) : TS EE.T := ⟨156, [(2, .a (.box 2 0)), (4, .a (.box 20 0)), (6, .a (.box 6 0)), (7, .a (.d (.int .i64) x7)), (8, .a (.d (.int .i64) x8)), (14, .a (.box 14 0))], [(2, .cs [.d (.int .i64) b2_0, .own (.nam 3) b2_1, .own (.nam 4) b2_2]), (6, .cs [.d (.int .i64) b6_0, .own (.nam 3) b6_1, .own (.nam 4) b6_2]), (14, .cs (unpT EE (.nam 4) b14)), (20, .cs (unpT EE (.nam 7) b20))], []⟩
def w12kR10 (c : Code) : List It2 := atR 10 c
def w12sR10 (x7 : Int) (x8 : Int) (b2_0 : Int) (b2_1 : List VRef) (b2_2 : List VPoint) (b6_0 : Int) (b6_1 : List VRef) (b6_2 : List VPoint) (b20 : VCursor) : TS EE.T := ⟨156, [(2, .a (.box 2 0)), (4, .a (.box 20 0)), (6, .a (.box 6 0)), (7, .a (.d (.int .i64) x7)), (8, .a (.d (.int .i64) x8))], [(2, .cs [.d (.int .i64) b2_0, .own (.nam 3) b2_1, .own (.nam 4) b2_2]), (6, .cs [.d (.int .i64) b6_0, .own (.nam 3) b6_1, .own (.nam 4) b6_2]), (20, .cs (unpT EE (.nam 7) b20))], []⟩
def w12kR31 (c : Code) : List It2 := atR 31 c
def w12sR31 (b2_0 : Int) (b2_1 : List VRef) (b2_2 : List VPoint) (b6_0 : Int) (b6_1 : List VRef) (b6_2 : List VPoint) (b20 : VCursor) : TS EE.T := ⟨156, [(2, .a (.box 2 0)), (4, .a (.box 20 0)), (6, .a (.box 6 0))], [(2, .cs [.d (.int .i64) b2_0, .own (.nam 3) b2_1, .own (.nam 4) b2_2]), (6, .cs [.d (.int .i64) b6_0, .own (.nam 3) b6_1, .own (.nam 4) b6_2]), (20, .cs (unpT EE (.nam 7) b20))], []⟩
def w12kL8 (c : Code) : List It2 := atL 8 c
def w12sL8 (x7 : Int) (x8 : Int) (b2_0 : Int) (b2_1 : List VRef) (b2_2 : List VPoint) (b6_0 : Int) (b6_1 : List VRef) (b6_2 : List VPoint) (b20 : VCursor) : TS EE.T := ⟨156, [(2, .a (.box 2 0)), (4, .a (.box 20 0)), (6, .a (.box 6 0)), (7, .a (.d (.int .i64) x7)), (8, .a (.d (.int .i64) x8))], [(2, .cs [.d (.int .i64) b2_0, .own (.nam 3) b2_1, .own (.nam 4) b2_2]), (6, .cs [.d (.int .i64) b6_0, .own (.nam 3) b6_1, .own (.nam 4) b6_2]), (20, .cs (unpT EE (.nam 7) b20))], []⟩
def w12kE0 (c : Code) : List It2 := [.c c]
def w12sE0 (x0 : List UInt8) : TS EE.T := ⟨156, [(0, .a (.d .str x0))], [], []⟩
def w12TR19 (c : Code) (N : Nat) (k8 : Int → Int → Int → (List VRef) → (List VPoint) → Int → (List VRef) → (List VPoint) → VCursor → Option (VRecord × Int)) (n : Nat) (x7 : Int) (x8 : Int) (b2_0 : Int) (b2_1 : List VRef) (b2_2 : List VPoint) (b6_0 : Int) (b6_1 : List VRef) (b6_2 : List VPoint) (b9_0 : Int) (b9_1 : List VLabel) (b20 : VCursor) : Tree (Lf EE.T × Option (VRecord × Int)) :=
  .bnd (appC 32 b6_1 ([({ Ref := b9_0, Labels := b9_1 } : VRef)] : List VRef)) fun z18 =>
  .leaf (.go (w12kL8 c) (w12sL8 x7 (w64 (x8 + 1)) b2_0 b2_1 b2_2 b6_0 z18 b6_2 b20), k8 x7 (w64 (x8 + 1)) b2_0 b2_1 b2_2 b6_0 z18 b6_2 b20)
theorem w12vR19 (N : Nat) (k8 : Int → Int → Int → (List VRef) → (List VPoint) → Int → (List VRef) → (List VPoint) → VCursor → Option (VRecord × Int)) (n : Nat) (x7 : Int) (x8 : Int) (b2_0 : Int) (b2_1 : List VRef) (b2_2 : List VPoint) (b6_0 : Int) (b6_1 : List VRef) (b6_2 : List VPoint) (b9_0 : Int) (b9_1 : List VLabel) (b20 : VCursor) : evM TT EE (w12G N) w12lv w12rs 4000 true (w12kR19 (bodyOf 0 Try.f12)) (w12sR19 x7 x8 b2_0 b2_1 b2_2 b6_0 b6_1 b6_2 b9_0 b9_1 b20) = (w12TR19 (bodyOf 0 Try.f12) N k8 n x7 x8 b2_0 b2_1 b2_2 b6_0 b6_1 b6_2 b9_0 b9_1 b20).map1 := by kernel_rfl
theorem w12nR19 (N : Nat) (k8 : Int → Int → Int → (List VRef) → (List VPoint) → Int → (List VRef) → (List VPoint) → VCursor → Option (VRecord × Int)) (n : Nat) (x7 : Int) (x8 : Int) (b2_0 : Int) (b2_1 : List VRef) (b2_2 : List VPoint) (b6_0 : Int) (b6_1 : List VRef) (b6_2 : List VPoint) (b9_0 : Int) (b9_1 : List VLabel) (b20 : VCursor) : ref_UnpackRecord_R19 N k8 n x7 x8 b2_0 b2_1 b2_2 b6_0 b6_1 b6_2 b9_0 b9_1 b20 = (w12TR19 (bodyOf 0 Try.f12) N k8 n x7 x8 b2_0 b2_1 b2_2 b6_0 b6_1 b6_2 b9_0 b9_1 b20).run := by kernel_rfl
theorem w12oR19 {N : Nat} {r : VRecord × Int} {k8 : Int → Int → Int → (List VRef) → (List VPoint) → Int → (List VRef) → (List VPoint) → VCursor → Option (VRecord × Int)} (hk8 : ∀ x7 x8 b2_0 b2_1 b2_2 b6_0 b6_1 b6_2 b20, k8 x7 x8 b2_0 b2_1 b2_2 b6_0 b6_1 b6_2 b20 = some r → Ends (Y := TT) EE (w12G N) w12lv w12rs (fun u => u = w12enc r) (w12kL8 (bodyOf 0 Try.f12)) (w12sL8 x7 x8 b2_0 b2_1 b2_2 b6_0 b6_1 b6_2 b20)) (n : Nat) (x7 : Int) (x8 : Int) (b2_0 : Int) (b2_1 : List VRef) (b2_2 : List VPoint) (b6_0 : Int) (b6_1 : List VRef) (b6_2 : List VPoint) (b9_0 : Int) (b9_1 : List VLabel) (b20 : VCursor) (h : ref_UnpackRecord_R19 N k8 n x7 x8 b2_0 b2_1 b2_2 b6_0 b6_1 b6_2 b9_0 b9_1 b20 = some r) : Ends (Y := TT) EE (w12G N) w12lv w12rs (fun u => u = w12enc r) (w12kR19 (bodyOf 0 Try.f12)) (w12sR19 x7 x8 b2_0 b2_1 b2_2 b6_0 b6_1 b6_2 b9_0 b9_1 b20) :=
  tree_use (w12vR19 N k8 n x7 x8 b2_0 b2_1 b2_2 b6_0 b6_1 b6_2 b9_0 b9_1 b20) (w12nR19 N k8 n x7 x8 b2_0 b2_1 b2_2 b6_0 b6_1 b6_2 b9_0 b9_1 b20) h (show (w12TR19 (bodyOf 0 Try.f12) N k8 n x7 x8 b2_0 b2_1 b2_2 b6_0 b6_1 b6_2 b9_0 b9_1 b20).all _ from fun _ => fun h => hk8 _ _ _ _ _ _ _ _ _ h)
def w12TL14 (c : Code) (N : Nat) (k8 : Int → Int → Int → (List VRef) → (List VPoint) → Int → (List VRef) → (List VPoint) → VCursor → Option (VRecord × Int)) (n : Nat) (x7 : Int) (x8 : Int) (x10 : Int) (x11 : Int) (b2_0 : Int) (b2_1 : List VRef) (b2_2 : List VPoint) (b6_0 : Int) (b6_1 : List VRef) (b6_2 : List VPoint) (b9_0 : Int) (b9_1 : List VLabel) (b20 : VCursor) : Tree (Lf EE.T × Option (VRecord × Int)) :=
  .cond (decide (x11 < x10))
  (
    .cond (!b20.Bad)
    (
      .bnd (ref_Cursor_number_i0 N b20) fun z12 =>
      .bnd (ref_Cursor_bytes_i0 N z12.1 z12.2) fun z13 =>
      .bnd (ref_Cursor_number_i0 N z13.2) fun z14 =>
      .bnd (ref_Cursor_bytes_i0 N z14.1 z14.2) fun z15 =>
      .bnd (appC 32 b9_1 ([({ Name := z13.1, Value := z15.1 } : VLabel)] : List VLabel)) fun z16 =>
      .leaf (.go (w12kL14 c) (w12sL14 x7 x8 x10 (w64 (x11 + 1)) b2_0 b2_1 b2_2 b6_0 b6_1 b6_2 b9_0 z16 z15.2), ref_UnpackRecord_L14 N k8 n x7 x8 x10 (w64 (x11 + 1)) b2_0 b2_1 b2_2 b6_0 b6_1 b6_2 b9_0 z16 z15.2))
    (
      .leaf (.go (w12kR19 c) (w12sR19 x7 x8 b2_0 b2_1 b2_2 b6_0 b6_1 b6_2 b9_0 b9_1 b20), ref_UnpackRecord_R19 N k8 n x7 x8 b2_0 b2_1 b2_2 b6_0 b6_1 b6_2 b9_0 b9_1 b20)))
  (
    .leaf (.go (w12kR19 c) (w12sR19 x7 x8 b2_0 b2_1 b2_2 b6_0 b6_1 b6_2 b9_0 b9_1 b20), ref_UnpackRecord_R19 N k8 n x7 x8 b2_0 b2_1 b2_2 b6_0 b6_1 b6_2 b9_0 b9_1 b20))
theorem w12vL14 (N : Nat) (k8 : Int → Int → Int → (List VRef) → (List VPoint) → Int → (List VRef) → (List VPoint) → VCursor → Option (VRecord × Int)) (n : Nat) (x7 : Int) (x8 : Int) (x10 : Int) (x11 : Int) (b2_0 : Int) (b2_1 : List VRef) (b2_2 : List VPoint) (b6_0 : Int) (b6_1 : List VRef) (b6_2 : List VPoint) (b9_0 : Int) (b9_1 : List VLabel) (b20 : VCursor) : evM TT EE (w12G N) w12lv w12rs 4000 true (w12kL14 (bodyOf 0 Try.f12)) (w12sL14 x7 x8 x10 x11 b2_0 b2_1 b2_2 b6_0 b6_1 b6_2 b9_0 b9_1 b20) = (w12TL14 (bodyOf 0 Try.f12) N k8 n x7 x8 x10 x11 b2_0 b2_1 b2_2 b6_0 b6_1 b6_2 b9_0 b9_1 b20).map1 := by kernel_rfl
theorem w12nL14 (N : Nat) (k8 : Int → Int → Int → (List VRef) → (List VPoint) → Int → (List VRef) → (List VPoint) → VCursor → Option (VRecord × Int)) (n : Nat) (x7 : Int) (x8 : Int) (x10 : Int) (x11 : Int) (b2_0 : Int) (b2_1 : List VRef) (b2_2 : List VPoint) (b6_0 : Int) (b6_1 : List VRef) (b6_2 : List VPoint) (b9_0 : Int) (b9_1 : List VLabel) (b20 : VCursor) : ref_UnpackRecord_L14 N k8 (n + 1) x7 x8 x10 x11 b2_0 b2_1 b2_2 b6_0 b6_1 b6_2 b9_0 b9_1 b20 = (w12TL14 (bodyOf 0 Try.f12) N k8 n x7 x8 x10 x11 b2_0 b2_1 b2_2 b6_0 b6_1 b6_2 b9_0 b9_1 b20).run := by kernel_rfl
theorem w12oL14 {N : Nat} {r : VRecord × Int} {k8 : Int → Int → Int → (List VRef) → (List VPoint) → Int → (List VRef) → (List VPoint) → VCursor → Option (VRecord × Int)} (hk8 : ∀ x7 x8 b2_0 b2_1 b2_2 b6_0 b6_1 b6_2 b20, k8 x7 x8 b2_0 b2_1 b2_2 b6_0 b6_1 b6_2 b20 = some r → Ends (Y := TT) EE (w12G N) w12lv w12rs (fun u => u = w12enc r) (w12kL8 (bodyOf 0 Try.f12)) (w12sL8 x7 x8 b2_0 b2_1 b2_2 b6_0 b6_1 b6_2 b20)) : ∀ (n : Nat) (x7 : Int) (x8 : Int) (x10 : Int) (x11 : Int) (b2_0 : Int) (b2_1 : List VRef) (b2_2 : List VPoint) (b6_0 : Int) (b6_1 : List VRef) (b6_2 : List VPoint) (b9_0 : Int) (b9_1 : List VLabel) (b20 : VCursor), ref_UnpackRecord_L14 N k8 n x7 x8 x10 x11 b2_0 b2_1 b2_2 b6_0 b6_1 b6_2 b9_0 b9_1 b20 = some r → Ends (Y := TT) EE (w12G N) w12lv w12rs (fun u => u = w12enc r) (w12kL14 (bodyOf 0 Try.f12)) (w12sL14 x7 x8 x10 x11 b2_0 b2_1 b2_2 b6_0 b6_1 b6_2 b9_0 b9_1 b20)
  | 0, _, _, _, _, _, _, _, _, _, _, _, _, _, h => by cases h
  | n + 1, x7, x8, x10, x11, b2_0, b2_1, b2_2, b6_0, b6_1, b6_2, b9_0, b9_1, b20, h => tree_use (w12vL14 N k8 n x7 x8 x10 x11 b2_0 b2_1 b2_2 b6_0 b6_1 b6_2 b9_0 b9_1 b20) (w12nL14 N k8 n x7 x8 x10 x11 b2_0 b2_1 b2_2 b6_0 b6_1 b6_2 b9_0 b9_1 b20) h (show (w12TL14 (bodyOf 0 Try.f12) N k8 n x7 x8 x10 x11 b2_0 b2_1 b2_2 b6_0 b6_1 b6_2 b9_0 b9_1 b20).all _ from ⟨⟨fun _ => fun _ => fun _ => fun _ => fun _ => fun h => (w12oL14 hk8 n) _ _ _ _ _ _ _ _ _ _ _ _ _ h, fun h => w12oR19 hk8 n _ _ _ _ _ _ _ _ _ _ _ h⟩, fun h => w12oR19 hk8 n _ _ _ _ _ _ _ _ _ _ _ h⟩)
def w12TL27 (c : Code) (N : Nat) (k8 : Int → Int → Int → (List VRef) → (List VPoint) → Int → (List VRef) → (List VPoint) → VCursor → Option (VRecord × Int)) (n : Nat) (x7 : Int) (x8 : Int) (x16 : List UInt8) (x17 : Int) (b2_0 : Int) (b2_1 : List VRef) (b2_2 : List VPoint) (b6_0 : Int) (b6_1 : List VRef) (b6_2 : List VPoint) (b14 : VPoint) (b20 : VCursor) : Tree (Lf EE.T × Option (VRecord × Int)) :=
  .cond (decide (x17 ≥ 0))
  (
    .bnd (idxC x16 x17) fun z19 =>
    .leaf (.go (w12kL27 c) (w12sL27 x7 x8 x16 (w64 (x17 - 1)) b2_0 b2_1 b2_2 b6_0 b6_1 b6_2 ({ Ref := b14.Ref, Time := b14.Time, Bits := IntKind.wrap .u64 ((IntKind.wrap .u64 (b14.Bits * 256)) + (IntKind.wrap .u64 (b2i z19))) } : VPoint) b20), ref_UnpackRecord_L27 N k8 n x7 x8 x16 (w64 (x17 - 1)) b2_0 b2_1 b2_2 b6_0 b6_1 b6_2 ({ Ref := b14.Ref, Time := b14.Time, Bits := IntKind.wrap .u64 ((IntKind.wrap .u64 (b14.Bits * 256)) + (IntKind.wrap .u64 (b2i z19))) } : VPoint) b20))
  (
    .bnd (appC 24 b6_2 ([b14] : List VPoint)) fun z20 =>
    .leaf (.go (w12kL8 c) (w12sL8 x7 (w64 (x8 + 1)) b2_0 b2_1 b2_2 b6_0 b6_1 z20 b20), k8 x7 (w64 (x8 + 1)) b2_0 b2_1 b2_2 b6_0 b6_1 z20 b20))
theorem w12vL27 (N : Nat) (k8 : Int → Int → Int → (List VRef) → (List VPoint) → Int → (List VRef) → (List VPoint) → VCursor → Option (VRecord × Int)) (n : Nat) (x7 : Int) (x8 : Int) (x16 : List UInt8) (x17 : Int) (b2_0 : Int) (b2_1 : List VRef) (b2_2 : List VPoint) (b6_0 : Int) (b6_1 : List VRef) (b6_2 : List VPoint) (b14 : VPoint) (b20 : VCursor) : evM TT EE (w12G N) w12lv w12rs 4000 true (w12kL27 (bodyOf 0 Try.f12)) (w12sL27 x7 x8 x16 x17 b2_0 b2_1 b2_2 b6_0 b6_1 b6_2 b14 b20) = (w12TL27 (bodyOf 0 Try.f12) N k8 n x7 x8 x16 x17 b2_0 b2_1 b2_2 b6_0 b6_1 b6_2 b14 b20).map1 := by kernel_rfl
theorem w12nL27 (N : Nat) (k8 : Int → Int → Int → (List VRef) → (List VPoint) → Int → (List VRef) → (List VPoint) → VCursor → Option (VRecord × Int)) (n : Nat) (x7 : Int) (x8 : Int) (x16 : List UInt8) (x17 : Int) (b2_0 : Int) (b2_1 : List VRef) (b2_2 : List VPoint) (b6_0 : Int) (b6_1 : List VRef) (b6_2 : List VPoint) (b14 : VPoint) (b20 : VCursor) : ref_UnpackRecord_L27 N k8 (n + 1) x7 x8 x16 x17 b2_0 b2_1 b2_2 b6_0 b6_1 b6_2 b14 b20 = (w12TL27 (bodyOf 0 Try.f12) N k8 n x7 x8 x16 x17 b2_0 b2_1 b2_2 b6_0 b6_1 b6_2 b14 b20).run := by kernel_rfl
theorem w12oL27 {N : Nat} {r : VRecord × Int} {k8 : Int → Int → Int → (List VRef) → (List VPoint) → Int → (List VRef) → (List VPoint) → VCursor → Option (VRecord × Int)} (hk8 : ∀ x7 x8 b2_0 b2_1 b2_2 b6_0 b6_1 b6_2 b20, k8 x7 x8 b2_0 b2_1 b2_2 b6_0 b6_1 b6_2 b20 = some r → Ends (Y := TT) EE (w12G N) w12lv w12rs (fun u => u = w12enc r) (w12kL8 (bodyOf 0 Try.f12)) (w12sL8 x7 x8 b2_0 b2_1 b2_2 b6_0 b6_1 b6_2 b20)) : ∀ (n : Nat) (x7 : Int) (x8 : Int) (x16 : List UInt8) (x17 : Int) (b2_0 : Int) (b2_1 : List VRef) (b2_2 : List VPoint) (b6_0 : Int) (b6_1 : List VRef) (b6_2 : List VPoint) (b14 : VPoint) (b20 : VCursor), ref_UnpackRecord_L27 N k8 n x7 x8 x16 x17 b2_0 b2_1 b2_2 b6_0 b6_1 b6_2 b14 b20 = some r → Ends (Y := TT) EE (w12G N) w12lv w12rs (fun u => u = w12enc r) (w12kL27 (bodyOf 0 Try.f12)) (w12sL27 x7 x8 x16 x17 b2_0 b2_1 b2_2 b6_0 b6_1 b6_2 b14 b20)
  | 0, _, _, _, _, _, _, _, _, _, _, _, _, h => by cases h
  | n + 1, x7, x8, x16, x17, b2_0, b2_1, b2_2, b6_0, b6_1, b6_2, b14, b20, h => tree_use (w12vL27 N k8 n x7 x8 x16 x17 b2_0 b2_1 b2_2 b6_0 b6_1 b6_2 b14 b20) (w12nL27 N k8 n x7 x8 x16 x17 b2_0 b2_1 b2_2 b6_0 b6_1 b6_2 b14 b20) h (show (w12TL27 (bodyOf 0 Try.f12) N k8 n x7 x8 x16 x17 b2_0 b2_1 b2_2 b6_0 b6_1 b6_2 b14 b20).all _ from ⟨fun _ => fun h => (w12oL27 hk8 n) _ _ _ _ _ _ _ _ _ _ _ _ h, fun _ => fun h => hk8 _ _ _ _ _ _ _ _ _ h⟩)
def w12TR25 (c : Code) (N : Nat) (k8 : Int → Int → Int → (List VRef) → (List VPoint) → Int → (List VRef) → (List VPoint) → VCursor → Option (VRecord × Int)) (n : Nat) (x7 : Int) (x8 : Int) (b2_0 : Int) (b2_1 : List VRef) (b2_2 : List VPoint) (b6_0 : Int) (b6_1 : List VRef) (b6_2 : List VPoint) (b14 : VPoint) (b20 : VCursor) : Tree (Lf EE.T × Option (VRecord × Int)) :=
  .bnd (ref_Cursor_bytes_i0 N 8 b20) fun z17 =>
  .leaf (.go (w12kL27 c) (w12sL27 x7 x8 z17.1 (w64 ((z17.1.length : Int) - 1)) b2_0 b2_1 b2_2 b6_0 b6_1 b6_2 b14 z17.2), ref_UnpackRecord_L27 N k8 n x7 x8 z17.1 (w64 ((z17.1.length : Int) - 1)) b2_0 b2_1 b2_2 b6_0 b6_1 b6_2 b14 z17.2)
theorem w12vR25 (N : Nat) (k8 : Int → Int → Int → (List VRef) → (List VPoint) → Int → (List VRef) → (List VPoint) → VCursor → Option (VRecord × Int)) (n : Nat) (x7 : Int) (x8 : Int) (b2_0 : Int) (b2_1 : List VRef) (b2_2 : List VPoint) (b6_0 : Int) (b6_1 : List VRef) (b6_2 : List VPoint) (b14 : VPoint) (b20 : VCursor) : evM TT EE (w12G N) w12lv w12rs 4000 true (w12kR25 (bodyOf 0 Try.f12)) (w12sR25 x7 x8 b2_0 b2_1 b2_2 b6_0 b6_1 b6_2 b14 b20) = (w12TR25 (bodyOf 0 Try.f12) N k8 n x7 x8 b2_0 b2_1 b2_2 b6_0 b6_1 b6_2 b14 b20).map1 := by kernel_rfl
theorem w12nR25 (N : Nat) (k8 : Int → Int → Int → (List VRef) → (List VPoint) → Int → (List VRef) → (List VPoint) → VCursor → Option (VRecord × Int)) (n : Nat) (x7 : Int) (x8 : Int) (b2_0 : Int) (b2_1 : List VRef) (b2_2 : List VPoint) (b6_0 : Int) (b6_1 : List VRef) (b6_2 : List VPoint) (b14 : VPoint) (b20 : VCursor) : ref_UnpackRecord_R25 N k8 n x7 x8 b2_0 b2_1 b2_2 b6_0 b6_1 b6_2 b14 b20 = (w12TR25 (bodyOf 0 Try.f12) N k8 n x7 x8 b2_0 b2_1 b2_2 b6_0 b6_1 b6_2 b14 b20).run := by kernel_rfl
theorem w12oR25 {N : Nat} {r : VRecord × Int} {k8 : Int → Int → Int → (List VRef) → (List VPoint) → Int → (List VRef) → (List VPoint) → VCursor → Option (VRecord × Int)} (hk8 : ∀ x7 x8 b2_0 b2_1 b2_2 b6_0 b6_1 b6_2 b20, k8 x7 x8 b2_0 b2_1 b2_2 b6_0 b6_1 b6_2 b20 = some r → Ends (Y := TT) EE (w12G N) w12lv w12rs (fun u => u = w12enc r) (w12kL8 (bodyOf 0 Try.f12)) (w12sL8 x7 x8 b2_0 b2_1 b2_2 b6_0 b6_1 b6_2 b20)) (n : Nat) (x7 : Int) (x8 : Int) (b2_0 : Int) (b2_1 : List VRef) (b2_2 : List VPoint) (b6_0 : Int) (b6_1 : List VRef) (b6_2 : List VPoint) (b14 : VPoint) (b20 : VCursor) (h : ref_UnpackRecord_R25 N k8 n x7 x8 b2_0 b2_1 b2_2 b6_0 b6_1 b6_2 b14 b20 = some r) : Ends (Y := TT) EE (w12G N) w12lv w12rs (fun u => u = w12enc r) (w12kR25 (bodyOf 0 Try.f12)) (w12sR25 x7 x8 b2_0 b2_1 b2_2 b6_0 b6_1 b6_2 b14 b20) :=
  tree_use (w12vR25 N k8 n x7 x8 b2_0 b2_1 b2_2 b6_0 b6_1 b6_2 b14 b20) (w12nR25 N k8 n x7 x8 b2_0 b2_1 b2_2 b6_0 b6_1 b6_2 b14 b20) h (show (w12TR25 (bodyOf 0 Try.f12) N k8 n x7 x8 b2_0 b2_1 b2_2 b6_0 b6_1 b6_2 b14 b20).all _ from fun _ => fun h => w12oL27 hk8 n _ _ _ _ _ _ _ _ _ _ _ _ h)
def w12TR10 (c : Code) (N : Nat) (k8 : Int → Int → Int → (List VRef) → (List VPoint) → Int → (List VRef) → (List VPoint) → VCursor → Option (VRecord × Int)) (n : Nat) (x7 : Int) (x8 : Int) (b2_0 : Int) (b2_1 : List VRef) (b2_2 : List VPoint) (b6_0 : Int) (b6_1 : List VRef) (b6_2 : List VPoint) (b20 : VCursor) : Tree (Lf EE.T × Option (VRecord × Int)) :=
  .cond (b6_0 == 1)
  (
    .bnd (ref_Cursor_number_i0 N b20) fun z4 =>
    .bnd (ref_Cursor_number_i0 N z4.2) fun z5 =>
    .leaf (.go (w12kL14 c) (w12sL14 x7 x8 z5.1 0 b2_0 b2_1 b2_2 b6_0 b6_1 b6_2 z4.1 ([] : List VLabel) z5.2), ref_UnpackRecord_L14 N k8 n x7 x8 z5.1 0 b2_0 b2_1 b2_2 b6_0 b6_1 b6_2 z4.1 ([] : List VLabel) z5.2))
  (
    .bnd (ref_Cursor_number_i0 N b20) fun z6 =>
    .bnd (ref_Cursor_number_i0 N z6.2) fun z7 =>
    .bnd (quoC .i64 z7.1 2) fun z8 =>
    .bnd (remC z7.1 2) fun z9 =>
    .cond (z9 == 1)
    (
      .bnd (quoC .i64 z7.1 2) fun z10 =>
      .leaf (.go (w12kR25 c) (w12sR25 x7 x8 b2_0 b2_1 b2_2 b6_0 b6_1 b6_2 ({ Ref := z6.1, Time := w64 ((w64 (0 - z10)) - 1), Bits := 0 } : VPoint) z7.2), ref_UnpackRecord_R25 N k8 n x7 x8 b2_0 b2_1 b2_2 b6_0 b6_1 b6_2 ({ Ref := z6.1, Time := w64 ((w64 (0 - z10)) - 1), Bits := 0 } : VPoint) z7.2))
    (
      .leaf (.go (w12kR25 c) (w12sR25 x7 x8 b2_0 b2_1 b2_2 b6_0 b6_1 b6_2 ({ Ref := z6.1, Time := z8, Bits := 0 } : VPoint) z7.2), ref_UnpackRecord_R25 N k8 n x7 x8 b2_0 b2_1 b2_2 b6_0 b6_1 b6_2 ({ Ref := z6.1, Time := z8, Bits := 0 } : VPoint) z7.2)))
theorem w12vR10 (N : Nat) (k8 : Int → Int → Int → (List VRef) → (List VPoint) → Int → (List VRef) → (List VPoint) → VCursor → Option (VRecord × Int)) (n : Nat) (x7 : Int) (x8 : Int) (b2_0 : Int) (b2_1 : List VRef) (b2_2 : List VPoint) (b6_0 : Int) (b6_1 : List VRef) (b6_2 : List VPoint) (b20 : VCursor) : evM TT EE (w12G N) w12lv w12rs 4000 true (w12kR10 (bodyOf 0 Try.f12)) (w12sR10 x7 x8 b2_0 b2_1 b2_2 b6_0 b6_1 b6_2 b20) = (w12TR10 (bodyOf 0 Try.f12) N k8 n x7 x8 b2_0 b2_1 b2_2 b6_0 b6_1 b6_2 b20).map1 := by kernel_rfl
theorem w12nR10 (N : Nat) (k8 : Int → Int → Int → (List VRef) → (List VPoint) → Int → (List VRef) → (List VPoint) → VCursor → Option (VRecord × Int)) (n : Nat) (x7 : Int) (x8 : Int) (b2_0 : Int) (b2_1 : List VRef) (b2_2 : List VPoint) (b6_0 : Int) (b6_1 : List VRef) (b6_2 : List VPoint) (b20 : VCursor) : ref_UnpackRecord_R10 N k8 n x7 x8 b2_0 b2_1 b2_2 b6_0 b6_1 b6_2 b20 = (w12TR10 (bodyOf 0 Try.f12) N k8 n x7 x8 b2_0 b2_1 b2_2 b6_0 b6_1 b6_2 b20).run := by kernel_rfl
theorem w12oR10 {N : Nat} {r : VRecord × Int} {k8 : Int → Int → Int → (List VRef) → (List VPoint) → Int → (List VRef) → (List VPoint) → VCursor → Option (VRecord × Int)} (hk8 : ∀ x7 x8 b2_0 b2_1 b2_2 b6_0 b6_1 b6_2 b20, k8 x7 x8 b2_0 b2_1 b2_2 b6_0 b6_1 b6_2 b20 = some r → Ends (Y := TT) EE (w12G N) w12lv w12rs (fun u => u = w12enc r) (w12kL8 (bodyOf 0 Try.f12)) (w12sL8 x7 x8 b2_0 b2_1 b2_2 b6_0 b6_1 b6_2 b20)) (n : Nat) (x7 : Int) (x8 : Int) (b2_0 : Int) (b2_1 : List VRef) (b2_2 : List VPoint) (b6_0 : Int) (b6_1 : List VRef) (b6_2 : List VPoint) (b20 : VCursor) (h : ref_UnpackRecord_R10 N k8 n x7 x8 b2_0 b2_1 b2_2 b6_0 b6_1 b6_2 b20 = some r) : Ends (Y := TT) EE (w12G N) w12lv w12rs (fun u => u = w12enc r) (w12kR10 (bodyOf 0 Try.f12)) (w12sR10 x7 x8 b2_0 b2_1 b2_2 b6_0 b6_1 b6_2 b20) :=
  tree_use (w12vR10 N k8 n x7 x8 b2_0 b2_1 b2_2 b6_0 b6_1 b6_2 b20) (w12nR10 N k8 n x7 x8 b2_0 b2_1 b2_2 b6_0 b6_1 b6_2 b20) h (show (w12TR10 (bodyOf 0 Try.f12) N k8 n x7 x8 b2_0 b2_1 b2_2 b6_0 b6_1 b6_2 b20).all _ from ⟨fun _ => fun _ => fun h => w12oL14 hk8 n _ _ _ _ _ _ _ _ _ _ _ _ _ h, fun _ => fun _ => fun _ => fun _ => ⟨fun _ => fun h => w12oR25 hk8 n _ _ _ _ _ _ _ _ _ _ h, fun h => w12oR25 hk8 n _ _ _ _ _ _ _ _ _ _ h⟩⟩)
def w12TR31 (c : Code) (N : Nat) (n : Nat) (b2_0 : Int) (b2_1 : List VRef) (b2_2 : List VPoint) (b6_0 : Int) (b6_1 : List VRef) (b6_2 : List VPoint) (b20 : VCursor) : Tree (Lf EE.T × Option (VRecord × Int)) :=
  .cond (b20.Bad)
  (
    .leaf (.done (w12enc (({ Kind := 0, Refs := ([] : List VRef), Points := ([] : List VPoint) } : VRecord), 1)), some (({ Kind := 0, Refs := ([] : List VRef), Points := ([] : List VPoint) } : VRecord), 1)))
  (
    .cond (!decide (b20.S = ([] : List UInt8)))
    (
      .leaf (.done (w12enc (({ Kind := 0, Refs := ([] : List VRef), Points := ([] : List VPoint) } : VRecord), 1)), some (({ Kind := 0, Refs := ([] : List VRef), Points := ([] : List VPoint) } : VRecord), 1)))
    (
      .bnd (ref_CheckRecord N ({ Kind := b6_0, Refs := b6_1, Points := b6_2 } : VRecord)) fun z11 =>
      .cond (z11 != 0)
      (
        .leaf (.done (w12enc (({ Kind := 0, Refs := ([] : List VRef), Points := ([] : List VPoint) } : VRecord), 1)), some (({ Kind := 0, Refs := ([] : List VRef), Points := ([] : List VPoint) } : VRecord), 1)))
      (
        .leaf (.done (w12enc (({ Kind := b6_0, Refs := b6_1, Points := b6_2 } : VRecord), 0)), some (({ Kind := b6_0, Refs := b6_1, Points := b6_2 } : VRecord), 0)))))
theorem w12vR31 (N : Nat) (n : Nat) (b2_0 : Int) (b2_1 : List VRef) (b2_2 : List VPoint) (b6_0 : Int) (b6_1 : List VRef) (b6_2 : List VPoint) (b20 : VCursor) : evM TT EE (w12G N) w12lv w12rs 4000 true (w12kR31 (bodyOf 0 Try.f12)) (w12sR31 b2_0 b2_1 b2_2 b6_0 b6_1 b6_2 b20) = (w12TR31 (bodyOf 0 Try.f12) N n b2_0 b2_1 b2_2 b6_0 b6_1 b6_2 b20).map1 := by kernel_rfl
theorem w12nR31 (N : Nat) (n : Nat) (b2_0 : Int) (b2_1 : List VRef) (b2_2 : List VPoint) (b6_0 : Int) (b6_1 : List VRef) (b6_2 : List VPoint) (b20 : VCursor) : ref_UnpackRecord_R31 N n b2_0 b2_1 b2_2 b6_0 b6_1 b6_2 b20 = (w12TR31 (bodyOf 0 Try.f12) N n b2_0 b2_1 b2_2 b6_0 b6_1 b6_2 b20).run := by kernel_rfl
theorem w12oR31 {N : Nat} {r : VRecord × Int} (n : Nat) (b2_0 : Int) (b2_1 : List VRef) (b2_2 : List VPoint) (b6_0 : Int) (b6_1 : List VRef) (b6_2 : List VPoint) (b20 : VCursor) (h : ref_UnpackRecord_R31 N n b2_0 b2_1 b2_2 b6_0 b6_1 b6_2 b20 = some r) : Ends (Y := TT) EE (w12G N) w12lv w12rs (fun u => u = w12enc r) (w12kR31 (bodyOf 0 Try.f12)) (w12sR31 b2_0 b2_1 b2_2 b6_0 b6_1 b6_2 b20) :=
  tree_use (w12vR31 N n b2_0 b2_1 b2_2 b6_0 b6_1 b6_2 b20) (w12nR31 N n b2_0 b2_1 b2_2 b6_0 b6_1 b6_2 b20) h (show (w12TR31 (bodyOf 0 Try.f12) N n b2_0 b2_1 b2_2 b6_0 b6_1 b6_2 b20).all _ from ⟨retp (enc := w12enc) rfl, ⟨retp (enc := w12enc) rfl, fun _ => ⟨retp (enc := w12enc) rfl, retp (enc := w12enc) rfl⟩⟩⟩)
def w12TL8 (c : Code) (N : Nat) (n : Nat) (x7 : Int) (x8 : Int) (b2_0 : Int) (b2_1 : List VRef) (b2_2 : List VPoint) (b6_0 : Int) (b6_1 : List VRef) (b6_2 : List VPoint) (b20 : VCursor) : Tree (Lf EE.T × Option (VRecord × Int)) :=
  .cond (decide (x8 < x7))
  (
    .cond (!b20.Bad)
    (
      .cond (b6_0 == 1)
      (
        .leaf (.go (w12kR10 c) (w12sR10 x7 x8 b2_0 b2_1 b2_2 b6_0 b6_1 b6_2 b20), ref_UnpackRecord_R10 N (ref_UnpackRecord_L8 N n) n x7 x8 b2_0 b2_1 b2_2 b6_0 b6_1 b6_2 b20))
      (
        .cond (b6_0 == 2)
        (
          .leaf (.go (w12kR10 c) (w12sR10 x7 x8 b2_0 b2_1 b2_2 b6_0 b6_1 b6_2 b20), ref_UnpackRecord_R10 N (ref_UnpackRecord_L8 N n) n x7 x8 b2_0 b2_1 b2_2 b6_0 b6_1 b6_2 b20))
        (
          .leaf (.go (w12kR31 c) (w12sR31 b2_0 b2_1 b2_2 b6_0 b6_1 b6_2 b20), ref_UnpackRecord_R31 N n b2_0 b2_1 b2_2 b6_0 b6_1 b6_2 b20))))
    (
      .leaf (.go (w12kR31 c) (w12sR31 b2_0 b2_1 b2_2 b6_0 b6_1 b6_2 b20), ref_UnpackRecord_R31 N n b2_0 b2_1 b2_2 b6_0 b6_1 b6_2 b20)))
  (
    .leaf (.go (w12kR31 c) (w12sR31 b2_0 b2_1 b2_2 b6_0 b6_1 b6_2 b20), ref_UnpackRecord_R31 N n b2_0 b2_1 b2_2 b6_0 b6_1 b6_2 b20))
theorem w12vL8 (N : Nat) (n : Nat) (x7 : Int) (x8 : Int) (b2_0 : Int) (b2_1 : List VRef) (b2_2 : List VPoint) (b6_0 : Int) (b6_1 : List VRef) (b6_2 : List VPoint) (b20 : VCursor) : evM TT EE (w12G N) w12lv w12rs 4000 true (w12kL8 (bodyOf 0 Try.f12)) (w12sL8 x7 x8 b2_0 b2_1 b2_2 b6_0 b6_1 b6_2 b20) = (w12TL8 (bodyOf 0 Try.f12) N n x7 x8 b2_0 b2_1 b2_2 b6_0 b6_1 b6_2 b20).map1 := by kernel_rfl
theorem w12nL8 (N : Nat) (n : Nat) (x7 : Int) (x8 : Int) (b2_0 : Int) (b2_1 : List VRef) (b2_2 : List VPoint) (b6_0 : Int) (b6_1 : List VRef) (b6_2 : List VPoint) (b20 : VCursor) : ref_UnpackRecord_L8 N (n + 1) x7 x8 b2_0 b2_1 b2_2 b6_0 b6_1 b6_2 b20 = (w12TL8 (bodyOf 0 Try.f12) N n x7 x8 b2_0 b2_1 b2_2 b6_0 b6_1 b6_2 b20).run := by kernel_rfl
theorem w12oL8 {N : Nat} {r : VRecord × Int} : ∀ (n : Nat) (x7 : Int) (x8 : Int) (b2_0 : Int) (b2_1 : List VRef) (b2_2 : List VPoint) (b6_0 : Int) (b6_1 : List VRef) (b6_2 : List VPoint) (b20 : VCursor), ref_UnpackRecord_L8 N n x7 x8 b2_0 b2_1 b2_2 b6_0 b6_1 b6_2 b20 = some r → Ends (Y := TT) EE (w12G N) w12lv w12rs (fun u => u = w12enc r) (w12kL8 (bodyOf 0 Try.f12)) (w12sL8 x7 x8 b2_0 b2_1 b2_2 b6_0 b6_1 b6_2 b20)
  | 0, _, _, _, _, _, _, _, _, _, h => by cases h
  | n + 1, x7, x8, b2_0, b2_1, b2_2, b6_0, b6_1, b6_2, b20, h => tree_use (w12vL8 N n x7 x8 b2_0 b2_1 b2_2 b6_0 b6_1 b6_2 b20) (w12nL8 N n x7 x8 b2_0 b2_1 b2_2 b6_0 b6_1 b6_2 b20) h (show (w12TL8 (bodyOf 0 Try.f12) N n x7 x8 b2_0 b2_1 b2_2 b6_0 b6_1 b6_2 b20).all _ from ⟨⟨⟨fun h => w12oR10 (w12oL8 n) n _ _ _ _ _ _ _ _ _ h, ⟨fun h => w12oR10 (w12oL8 n) n _ _ _ _ _ _ _ _ _ h, fun h => w12oR31 n _ _ _ _ _ _ _ h⟩⟩, fun h => w12oR31 n _ _ _ _ _ _ _ h⟩, fun h => w12oR31 n _ _ _ _ _ _ _ h⟩)
def w12TE0 (c : Code) (N : Nat) (x0 : List UInt8) : Tree (Lf EE.T × Option (VRecord × Int)) :=
  .bnd (ref_Cursor_bytes_i0 N 1 ({ S := x0, Bad := false } : VCursor)) fun z1 =>
  .cond (z1.2.Bad)
  (
    .leaf (.done (w12enc (({ Kind := 0, Refs := ([] : List VRef), Points := ([] : List VPoint) } : VRecord), 1)), some (({ Kind := 0, Refs := ([] : List VRef), Points := ([] : List VPoint) } : VRecord), 1)))
  (
    .bnd (idxC z1.1 0) fun z2 =>
    .bnd (ref_Cursor_number_i0 N z1.2) fun z3 =>
    .leaf (.go (w12kL8 c) (w12sL8 z3.1 0 0 ([] : List VRef) ([] : List VPoint) (w64 (b2i z2)) ([] : List VRef) ([] : List VPoint) z3.2), ref_UnpackRecord_L8 N N z3.1 0 0 ([] : List VRef) ([] : List VPoint) (w64 (b2i z2)) ([] : List VRef) ([] : List VPoint) z3.2))
theorem w12vE0 (N : Nat) (x0 : List UInt8) : evM TT EE (w12G N) w12lv w12rs 4000 true (w12kE0 (bodyOf 0 Try.f12)) (w12sE0 x0) = (w12TE0 (bodyOf 0 Try.f12) N x0).map1 := by kernel_rfl
theorem w12nE0 (N : Nat) (x0 : List UInt8) : ref_UnpackRecord N x0 = (w12TE0 (bodyOf 0 Try.f12) N x0).run := by kernel_rfl
theorem w12oE0 {N : Nat} {r : VRecord × Int} (x0 : List UInt8) (h : ref_UnpackRecord N x0 = some r) : Ends (Y := TT) EE (w12G N) w12lv w12rs (fun u => u = w12enc r) (w12kE0 (bodyOf 0 Try.f12)) (w12sE0 x0) :=
  tree_use (w12vE0 N x0) (w12nE0 N x0) h (show (w12TE0 (bodyOf 0 Try.f12) N x0).all _ from fun _ => ⟨retp (enc := w12enc) rfl, fun _ => fun _ => fun h => w12oL8 N _ _ _ _ _ _ _ _ _ h⟩)
theorem ref_UnpackRecord_ok {N : Nat} (x0 : List UInt8) {r : VRecord × Int} (h : ref_UnpackRecord N x0 = some r) (ρ : Nat → Nat) : ACalls Try.prog 12 (([.a (.d .str x0)] : List (TV EE.T)).map (TV.to EE.toEnc ρ)) [] (fun out H => out = .ret ((ref_UnpackRecord_u r).to EE.toEnc ρ) ∧ H = []) :=
  (fn_ok (bodyOf 0 Try.f12) 156 mixed (w12Gok N) Try.func12 (by kernel_rfl) rfl rfl rfl rfl (w12oE0 x0 h) ρ).mono fun out H h => KPost.ret rfl h
def ref_UnpackRecord_h (N : Nat) : List (TV EE.T) → PV EE.T
  | [u0] => match argD .str u0 with
    | some x0 => .opt (ref_UnpackRecord N x0) ref_UnpackRecord_u
    | _ => .bad
  | _ => .bad
theorem ref_UnpackRecord_hok (N : Nat) (us : List (TV EE.T)) : (ref_UnpackRecord_h N us).ok fun u => ∀ ρ, ACalls Try.prog 12 (us.map (TV.to EE.toEnc ρ)) [] (fun out H => out = .ret (u.to EE.toEnc ρ) ∧ H = []) := by
  unfold ref_UnpackRecord_h
  split
  · split
    · rename_i h0
      intro z hz ρ; refine acalls_le ?_ (ref_UnpackRecord_ok _ hz ρ); exact ⟨argD_le h0 ρ, trivial⟩
    · trivial
  · trivial
/-! ### gleaner/gleanerref.SameLabels -/
def ref_SameLabels_u (r : Bool) : TV EE.T := .a (.d .bool r)
def w43enc (r : Bool) : RL EE.T := .ret (ref_SameLabels_u r) []
def w43lv : Lvs := ⟨[(6, ⟨[(0, false), (1, false), (5, false)], [], []⟩)], [(4, ⟨[(0, false), (1, false), (5, false)], [], []⟩)], [], [], false, [], []⟩
def w43rs : List ResultVar := [.tmp 4]
def w43G (N : Nat) : Gam EE := ⟨[], EQT, [], []⟩
theorem w43Gok (N : Nat) : GOk Try.prog TT EE (w43G N) := GOk.nil EQT_ok
def w43kL4 (c : Code) : List It2 := atL 4 c
def w43sL4 (x0 : List VLabel) (x1 : List VLabel) (x5 : Int) : TS EE.T := ⟨26, [(0, .a (.d (.sl (.nam 2)) x0)), (1, .a (.d (.sl (.nam 2)) x1)), (5, .a (.d (.int .i64) x5))], [], []⟩
def w43kE0 (c : Code) : List It2 := [.c c]
def w43sE0 (x0 : List VLabel) (x1 : List VLabel) : TS EE.T := ⟨26, [(0, .a (.d (.sl (.nam 2)) x0)), (1, .a (.d (.sl (.nam 2)) x1))], [], []⟩
def w43TL4 (c : Code) (N : Nat) (n : Nat) (x0 : List VLabel) (x1 : List VLabel) (x5 : Int) : Tree (Lf EE.T × Option Bool) :=
  .cond (decide (x5 < (x0.length : Int)))
  (
    .bnd (idxC x0 x5) fun z1 =>
    .bnd (idxC x1 x5) fun z2 =>
    .cond (!(beqS z1.Name z2.Name && (beqS z1.Value z2.Value && true)))
    (
      .leaf (.done (w43enc false), some false))
    (
      .leaf (.go (w43kL4 c) (w43sL4 x0 x1 (w64 (x5 + 1))), ref_SameLabels_L4 N n x0 x1 (w64 (x5 + 1)))))
  (
    .leaf (.done (w43enc true), some true))
theorem w43vL4 (N : Nat) (n : Nat) (x0 : List VLabel) (x1 : List VLabel) (x5 : Int) : evM TT EE (w43G N) w43lv w43rs 4000 true (w43kL4 (bodyOf 0 Try.f43)) (w43sL4 x0 x1 x5) = (w43TL4 (bodyOf 0 Try.f43) N n x0 x1 x5).map1 := by kernel_rfl
theorem w43nL4 (N : Nat) (n : Nat) (x0 : List VLabel) (x1 : List VLabel) (x5 : Int) : ref_SameLabels_L4 N (n + 1) x0 x1 x5 = (w43TL4 (bodyOf 0 Try.f43) N n x0 x1 x5).run := by kernel_rfl
theorem w43oL4 {N : Nat} {r : Bool} : ∀ (n : Nat) (x0 : List VLabel) (x1 : List VLabel) (x5 : Int), ref_SameLabels_L4 N n x0 x1 x5 = some r → Ends (Y := TT) EE (w43G N) w43lv w43rs (fun u => u = w43enc r) (w43kL4 (bodyOf 0 Try.f43)) (w43sL4 x0 x1 x5)
  | 0, _, _, _, h => by cases h
  | n + 1, x0, x1, x5, h => tree_use (w43vL4 N n x0 x1 x5) (w43nL4 N n x0 x1 x5) h (show (w43TL4 (bodyOf 0 Try.f43) N n x0 x1 x5).all _ from ⟨fun _ => fun _ => ⟨retp (enc := w43enc) rfl, fun h => (w43oL4 n) _ _ _ h⟩, retp (enc := w43enc) rfl⟩)
def w43TE0 (c : Code) (N : Nat) (x0 : List VLabel) (x1 : List VLabel) : Tree (Lf EE.T × Option Bool) :=
  .cond ((x0.length : Int) != (x1.length : Int))
  (
    .leaf (.done (w43enc false), some false))
  (
    .leaf (.go (w43kL4 c) (w43sL4 x0 x1 0), ref_SameLabels_L4 N N x0 x1 0))
theorem w43vE0 (N : Nat) (x0 : List VLabel) (x1 : List VLabel) : evM TT EE (w43G N) w43lv w43rs 4000 true (w43kE0 (bodyOf 0 Try.f43)) (w43sE0 x0 x1) = (w43TE0 (bodyOf 0 Try.f43) N x0 x1).map1 := by kernel_rfl
theorem w43nE0 (N : Nat) (x0 : List VLabel) (x1 : List VLabel) : ref_SameLabels N x0 x1 = (w43TE0 (bodyOf 0 Try.f43) N x0 x1).run := by kernel_rfl
theorem w43oE0 {N : Nat} {r : Bool} (x0 : List VLabel) (x1 : List VLabel) (h : ref_SameLabels N x0 x1 = some r) : Ends (Y := TT) EE (w43G N) w43lv w43rs (fun u => u = w43enc r) (w43kE0 (bodyOf 0 Try.f43)) (w43sE0 x0 x1) :=
  tree_use (w43vE0 N x0 x1) (w43nE0 N x0 x1) h (show (w43TE0 (bodyOf 0 Try.f43) N x0 x1).all _ from ⟨retp (enc := w43enc) rfl, fun h => w43oL4 N _ _ _ h⟩)
theorem ref_SameLabels_ok {N : Nat} (x0 : List VLabel) (x1 : List VLabel) {r : Bool} (h : ref_SameLabels N x0 x1 = some r) (ρ : Nat → Nat) : ACalls Try.prog 43 (([.a (.d (.sl (.nam 2)) x0), .a (.d (.sl (.nam 2)) x1)] : List (TV EE.T)).map (TV.to EE.toEnc ρ)) [] (fun out H => out = .ret ((ref_SameLabels_u r).to EE.toEnc ρ) ∧ H = []) :=
  (fn_ok (bodyOf 0 Try.f43) 26 mixed (w43Gok N) Try.func43 (by kernel_rfl) rfl rfl rfl rfl (w43oE0 x0 x1 h) ρ).mono fun out H h => KPost.ret rfl h
def ref_SameLabels_h (N : Nat) : List (TV EE.T) → PV EE.T
  | [u0, u1] => match argD (.sl (.nam 2)) u0, argD (.sl (.nam 2)) u1 with
    | some x0, some x1 => .opt (ref_SameLabels N x0 x1) ref_SameLabels_u
    | _, _ => .bad
  | _ => .bad
theorem ref_SameLabels_hok (N : Nat) (us : List (TV EE.T)) : (ref_SameLabels_h N us).ok fun u => ∀ ρ, ACalls Try.prog 43 (us.map (TV.to EE.toEnc ρ)) [] (fun out H => out = .ret (u.to EE.toEnc ρ) ∧ H = []) := by
  unfold ref_SameLabels_h
  split
  · split
    · rename_i h0 h1
      intro z hz ρ; refine acalls_le ?_ (ref_SameLabels_ok _ _ hz ρ); exact ⟨argD_le h0 ρ, argD_le h1 ρ, trivial⟩
    · trivial
  · trivial
/-! ### gleaner/gleanerref.SameRefs -/
def ref_SameRefs_u (r : Bool) : TV EE.T := .a (.d .bool r)
def w28enc (r : Bool) : RL EE.T := .ret (ref_SameRefs_u r) []
def w28lv : Lvs := ⟨[(6, ⟨[(0, false), (1, false), (5, false)], [], []⟩)], [(4, ⟨[(0, false), (1, false), (5, false)], [], []⟩)], [], [], false, [], []⟩
def w28rs : List ResultVar := [.tmp 4]
def w28G (N : Nat) : Gam EE := ⟨[⟨43, ref_SameLabels_h N⟩], EQT, [], []⟩
theorem w28Gok (N : Nat) : GOk Try.prog TT EE (w28G N) := GOk.cons (ref_SameLabels_hok N) (GOk.nil EQT_ok)
def w28kL4 (c : Code) : List It2 := atL 4 c
def w28sL4 (x0 : List VRef) (x1 : List VRef) (x5 : Int) : TS EE.T := ⟨42, [(0, .a (.d (.sl (.nam 3)) x0)), (1, .a (.d (.sl (.nam 3)) x1)), (5, .a (.d (.int .i64) x5))], [], []⟩
def w28kE0 (c : Code) : List It2 := [.c c]
def w28sE0 (x0 : List VRef) (x1 : List VRef) : TS EE.T := ⟨42, [(0, .a (.d (.sl (.nam 3)) x0)), (1, .a (.d (.sl (.nam 3)) x1))], [], []⟩
def w28TL4 (c : Code) (N : Nat) (n : Nat) (x0 : List VRef) (x1 : List VRef) (x5 : Int) : Tree (Lf EE.T × Option Bool) :=
  .cond (decide (x5 < (x0.length : Int)))
  (
    .bnd (idxC x0 x5) fun z1 =>
    .bnd (idxC x1 x5) fun z2 =>
    .cond (z1.Ref != z2.Ref)
    (
      .leaf (.done (w28enc false), some false))
    (
      .bnd (idxC x0 x5) fun z3 =>
      .bnd (idxC x1 x5) fun z4 =>
      .bnd (ref_SameLabels N z3.Labels z4.Labels) fun z5 =>
      .cond (!z5)
      (
        .leaf (.done (w28enc false), some false))
      (
        .leaf (.go (w28kL4 c) (w28sL4 x0 x1 (w64 (x5 + 1))), ref_SameRefs_L4 N n x0 x1 (w64 (x5 + 1))))))
  (
    .leaf (.done (w28enc true), some true))
theorem w28vL4 (N : Nat) (n : Nat) (x0 : List VRef) (x1 : List VRef) (x5 : Int) : evM TT EE (w28G N) w28lv w28rs 4000 true (w28kL4 (bodyOf 0 Try.f28)) (w28sL4 x0 x1 x5) = (w28TL4 (bodyOf 0 Try.f28) N n x0 x1 x5).map1 := by kernel_rfl
theorem w28nL4 (N : Nat) (n : Nat) (x0 : List VRef) (x1 : List VRef) (x5 : Int) : ref_SameRefs_L4 N (n + 1) x0 x1 x5 = (w28TL4 (bodyOf 0 Try.f28) N n x0 x1 x5).run := by kernel_rfl
theorem w28oL4 {N : Nat} {r : Bool} : ∀ (n : Nat) (x0 : List VRef) (x1 : List VRef) (x5 : Int), ref_SameRefs_L4 N n x0 x1 x5 = some r → Ends (Y := TT) EE (w28G N) w28lv w28rs (fun u => u = w28enc r) (w28kL4 (bodyOf 0 Try.f28)) (w28sL4 x0 x1 x5)
  | 0, _, _, _, h => by cases h
  | n + 1, x0, x1, x5, h => tree_use (w28vL4 N n x0 x1 x5) (w28nL4 N n x0 x1 x5) h (show (w28TL4 (bodyOf 0 Try.f28) N n x0 x1 x5).all _ from ⟨fun _ => fun _ => ⟨retp (enc := w28enc) rfl, fun _ => fun _ => fun _ => ⟨retp (enc := w28enc) rfl, fun h => (w28oL4 n) _ _ _ h⟩⟩, retp (enc := w28enc) rfl⟩)
def w28TE0 (c : Code) (N : Nat) (x0 : List VRef) (x1 : List VRef) : Tree (Lf EE.T × Option Bool) :=
  .cond ((x0.length : Int) != (x1.length : Int))
  (
    .leaf (.done (w28enc false), some false))
  (
    .leaf (.go (w28kL4 c) (w28sL4 x0 x1 0), ref_SameRefs_L4 N N x0 x1 0))
theorem w28vE0 (N : Nat) (x0 : List VRef) (x1 : List VRef) : evM TT EE (w28G N) w28lv w28rs 4000 true (w28kE0 (bodyOf 0 Try.f28)) (w28sE0 x0 x1) = (w28TE0 (bodyOf 0 Try.f28) N x0 x1).map1 := by kernel_rfl
theorem w28nE0 (N : Nat) (x0 : List VRef) (x1 : List VRef) : ref_SameRefs N x0 x1 = (w28TE0 (bodyOf 0 Try.f28) N x0 x1).run := by kernel_rfl
theorem w28oE0 {N : Nat} {r : Bool} (x0 : List VRef) (x1 : List VRef) (h : ref_SameRefs N x0 x1 = some r) : Ends (Y := TT) EE (w28G N) w28lv w28rs (fun u => u = w28enc r) (w28kE0 (bodyOf 0 Try.f28)) (w28sE0 x0 x1) :=
  tree_use (w28vE0 N x0 x1) (w28nE0 N x0 x1) h (show (w28TE0 (bodyOf 0 Try.f28) N x0 x1).all _ from ⟨retp (enc := w28enc) rfl, fun h => w28oL4 N _ _ _ h⟩)
theorem ref_SameRefs_ok {N : Nat} (x0 : List VRef) (x1 : List VRef) {r : Bool} (h : ref_SameRefs N x0 x1 = some r) (ρ : Nat → Nat) : ACalls Try.prog 28 (([.a (.d (.sl (.nam 3)) x0), .a (.d (.sl (.nam 3)) x1)] : List (TV EE.T)).map (TV.to EE.toEnc ρ)) [] (fun out H => out = .ret ((ref_SameRefs_u r).to EE.toEnc ρ) ∧ H = []) :=
  (fn_ok (bodyOf 0 Try.f28) 42 mixed (w28Gok N) Try.func28 (by kernel_rfl) rfl rfl rfl rfl (w28oE0 x0 x1 h) ρ).mono fun out H h => KPost.ret rfl h
def ref_SameRefs_h (N : Nat) : List (TV EE.T) → PV EE.T
  | [u0, u1] => match argD (.sl (.nam 3)) u0, argD (.sl (.nam 3)) u1 with
    | some x0, some x1 => .opt (ref_SameRefs N x0 x1) ref_SameRefs_u
    | _, _ => .bad
  | _ => .bad
theorem ref_SameRefs_hok (N : Nat) (us : List (TV EE.T)) : (ref_SameRefs_h N us).ok fun u => ∀ ρ, ACalls Try.prog 28 (us.map (TV.to EE.toEnc ρ)) [] (fun out H => out = .ret (u.to EE.toEnc ρ) ∧ H = []) := by
  unfold ref_SameRefs_h
  split
  · split
    · rename_i h0 h1
      intro z hz ρ; refine acalls_le ?_ (ref_SameRefs_ok _ _ hz ρ); exact ⟨argD_le h0 ρ, argD_le h1 ρ, trivial⟩
    · trivial
  · trivial
/-! ### gleaner/gleanerref.SameRecord -/
def ref_SameRecord_u (r : Bool) : TV EE.T := .a (.d .bool r)
def w13enc (r : Bool) : RL EE.T := .ret (ref_SameRecord_u r) []
def w13lv : Lvs := ⟨[(6, ⟨[(2, false), (3, false), (5, false)], [], [(2, (some 5, [])), (3, (some 5, []))]⟩)], [(4, ⟨[(2, false), (3, false), (5, false)], [], [(2, (some 5, [])), (3, (some 5, []))]⟩)], [], [], false, [], []⟩
def w13rs : List ResultVar := [.tmp 4]
def w13G (N : Nat) : Gam EE := ⟨[⟨28, ref_SameRefs_h N⟩], EQT, [], []⟩
theorem w13Gok (N : Nat) : GOk Try.prog TT EE (w13G N) := GOk.cons (ref_SameRefs_hok N) (GOk.nil EQT_ok)
def w13kL4 (c : Code) : List It2 := atL 4 c
def w13sL4 (x5 : Int) (b2 : VRecord) (b3 : VRecord) : TS EE.T := ⟨46, [(2, .a (.box 2 0)), (3, .a (.box 3 0)), (5, .a (.d (.int .i64) x5))], [(2, .cs (unpT EE (.nam 5) b2)), (3, .cs (unpT EE (.nam 5) b3))], []⟩
def w13kE0 (c : Code) : List It2 := [.c c]
def w13sE0 (x0 : VRecord) (x1 : VRecord) : TS EE.T := ⟨46, [(0, .ag (unpT EE (.nam 5) x0)), (1, .ag (unpT EE (.nam 5) x1))], [], []⟩
def w13TL4 (c : Code) (N : Nat) (n : Nat) (x5 : Int) (b2 : VRecord) (b3 : VRecord) : Tree (Lf EE.T × Option Bool) :=
  .cond (decide (x5 < (b2.Points.length : Int)))
  (
    .bnd (idxC b2.Points x5) fun z2 =>
    .bnd (idxC b3.Points x5) fun z3 =>
    .cond (!(beqI z2.Ref z3.Ref && (beqI z2.Time z3.Time && (beqI z2.Bits z3.Bits && true))))
    (
      .leaf (.done (w13enc false), some false))
    (
      .leaf (.go (w13kL4 c) (w13sL4 (w64 (x5 + 1)) b2 b3), ref_SameRecord_L4 N n (w64 (x5 + 1)) b2 b3)))
  (
    .leaf (.done (w13enc true), some true))
theorem w13vL4 (N : Nat) (n : Nat) (x5 : Int) (b2 : VRecord) (b3 : VRecord) : evM TT EE (w13G N) w13lv w13rs 4000 true (w13kL4 (bodyOf 0 Try.f13)) (w13sL4 x5 b2 b3) = (w13TL4 (bodyOf 0 Try.f13) N n x5 b2 b3).map1 := by kernel_rfl
theorem w13nL4 (N : Nat) (n : Nat) (x5 : Int) (b2 : VRecord) (b3 : VRecord) : ref_SameRecord_L4 N (n + 1) x5 b2 b3 = (w13TL4 (bodyOf 0 Try.f13) N n x5 b2 b3).run := by kernel_rfl
theorem w13oL4 {N : Nat} {r : Bool} : ∀ (n : Nat) (x5 : Int) (b2 : VRecord) (b3 : VRecord), ref_SameRecord_L4 N n x5 b2 b3 = some r → Ends (Y := TT) EE (w13G N) w13lv w13rs (fun u => u = w13enc r) (w13kL4 (bodyOf 0 Try.f13)) (w13sL4 x5 b2 b3)
  | 0, _, _, _, h => by cases h
  | n + 1, x5, b2, b3, h => tree_use (w13vL4 N n x5 b2 b3) (w13nL4 N n x5 b2 b3) h (show (w13TL4 (bodyOf 0 Try.f13) N n x5 b2 b3).all _ from ⟨fun _ => fun _ => ⟨retp (enc := w13enc) rfl, fun h => (w13oL4 n) _ _ _ h⟩, retp (enc := w13enc) rfl⟩)
def w13TE0 (c : Code) (N : Nat) (x0 : VRecord) (x1 : VRecord) : Tree (Lf EE.T × Option Bool) :=
  .cond (x0.Kind != x1.Kind)
  (
    .leaf (.done (w13enc false), some false))
  (
    .cond ((x0.Points.length : Int) != (x1.Points.length : Int))
    (
      .leaf (.done (w13enc false), some false))
    (
      .bnd (ref_SameRefs N x0.Refs x1.Refs) fun z1 =>
      .cond (!z1)
      (
        .leaf (.done (w13enc false), some false))
      (
        .leaf (.go (w13kL4 c) (w13sL4 0 x0 x1), ref_SameRecord_L4 N N 0 x0 x1))))
theorem w13vE0 (N : Nat) (x0 : VRecord) (x1 : VRecord) : evM TT EE (w13G N) w13lv w13rs 4000 true (w13kE0 (bodyOf 0 Try.f13)) (w13sE0 x0 x1) = (w13TE0 (bodyOf 0 Try.f13) N x0 x1).map1 := by kernel_rfl
theorem w13nE0 (N : Nat) (x0 : VRecord) (x1 : VRecord) : ref_SameRecord N x0 x1 = (w13TE0 (bodyOf 0 Try.f13) N x0 x1).run := by kernel_rfl
theorem w13oE0 {N : Nat} {r : Bool} (x0 : VRecord) (x1 : VRecord) (h : ref_SameRecord N x0 x1 = some r) : Ends (Y := TT) EE (w13G N) w13lv w13rs (fun u => u = w13enc r) (w13kE0 (bodyOf 0 Try.f13)) (w13sE0 x0 x1) :=
  tree_use (w13vE0 N x0 x1) (w13nE0 N x0 x1) h (show (w13TE0 (bodyOf 0 Try.f13) N x0 x1).all _ from ⟨retp (enc := w13enc) rfl, ⟨retp (enc := w13enc) rfl, fun _ => ⟨retp (enc := w13enc) rfl, fun h => w13oL4 N _ _ _ h⟩⟩⟩)
theorem ref_SameRecord_ok {N : Nat} (x0 : VRecord) (x1 : VRecord) {r : Bool} (h : ref_SameRecord N x0 x1 = some r) (ρ : Nat → Nat) : ACalls Try.prog 13 (([.ag (unpT EE (.nam 5) x0), .ag (unpT EE (.nam 5) x1)] : List (TV EE.T)).map (TV.to EE.toEnc ρ)) [] (fun out H => out = .ret ((ref_SameRecord_u r).to EE.toEnc ρ) ∧ H = []) :=
  (fn_ok (bodyOf 0 Try.f13) 46 mixed (w13Gok N) Try.func13 (by kernel_rfl) rfl rfl rfl rfl (w13oE0 x0 x1 h) ρ).mono fun out H h => KPost.ret rfl h
def ref_SameRecord_h (N : Nat) : List (TV EE.T) → PV EE.T
  | [u0, u1] => match argS EE 5 u0, argS EE 5 u1 with
    | some x0, some x1 => .opt (ref_SameRecord N x0 x1) ref_SameRecord_u
    | _, _ => .bad
  | _ => .bad
theorem ref_SameRecord_hok (N : Nat) (us : List (TV EE.T)) : (ref_SameRecord_h N us).ok fun u => ∀ ρ, ACalls Try.prog 13 (us.map (TV.to EE.toEnc ρ)) [] (fun out H => out = .ret (u.to EE.toEnc ρ) ∧ H = []) := by
  unfold ref_SameRecord_h
  split
  · split
    · rename_i h0 h1
      intro z hz ρ; refine acalls_le ?_ (ref_SameRecord_ok _ _ hz ρ); exact ⟨argS_le h0 ρ, argS_le h1 ρ, trivial⟩
    · trivial
  · trivial
end Go.Proofs.Ytgmbgbalcndohaa
