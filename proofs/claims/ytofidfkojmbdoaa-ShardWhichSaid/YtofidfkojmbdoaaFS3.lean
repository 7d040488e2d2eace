/- The walks that prove plain functions right, written by gen/tgl.py. -/
import Derived.Test.YtofidfkojmbdoaaFS3p
import Derived.Test.YtofidfkojmbdoaaFS2
namespace Go.Proofs.Ytofidfkojmbdoaa
open Go.RowKit P
set_option linter.unusedVariables false
set_option linter.unusedSimpArgs false
set_option maxRecDepth 100000
/-! ### gleaner/wire.Write -/
def wire_Write_u (r : (List UInt8) × Int) : TV EE.T := .tu [.a (.d .str r.1), .a (.d (.int .i64) r.2)]
def w86enc (r : (List UInt8) × Int) : RL EE.T := .ret (wire_Write_u r) []
def w86lv : Lvs := ⟨[(12, ⟨[(5, false), (7, false), (8, false), (10, false), (18, false), (19, false), (20, false), (25, false), (26, false), (27, false)], [], [(7, (some 9, [])), (10, (some 2, []))]⟩)], [(6, ⟨[(5, false), (18, false), (19, false), (20, false)], [], []⟩), (10, ⟨[(5, false), (7, false), (8, false), (18, false), (19, false), (20, false), (25, false), (26, false), (27, false)], [], [(7, (some 9, []))]⟩), (15, ⟨[(5, false), (8, false), (18, false), (19, false), (20, false), (43, false), (44, false), (45, false)], [], []⟩)], [], [], false, [], []⟩
def w86rs : List ResultVar := [.tmp 2, .tmp 3]
def w86G (N : Nat) : Gam EE := ⟨[⟨96, wire_check_h N⟩, ⟨97, wire_field_h N⟩, ⟨98, wire_sample_h N⟩], EQT, [], []⟩
theorem w86Gok (N : Nat) : GOk Try.prog TT EE (w86G N) := GOk.cons (wire_check_hok N) (GOk.cons (wire_field_hok N) (GOk.cons (wire_sample_hok N) (GOk.nil EQT_ok)))
def w86kL15 (c : Code) : List It2 := atL 15 c
def w86sL15 (x5 : List UInt8) (x8 : List UInt8) (x18 : List VSeries) (x19 : Int) (x20 : Int) (x43 : List VSample) (x44 : Int) (x45 : Int) : TS EE.T := ⟨64, [(5, .a (.d .str x5)), (8, .a (.d .str x8)), (18, .a (.d (.sl (.nam 9)) x18)), (19, .a (.d (.int .i64) x19)), (20, .a (.d (.int .i64) x20)), (43, .a (.d (.sl (.nam 6)) x43)), (44, .a (.d (.int .i64) x44)), (45, .a (.d (.int .i64) x45))], [], []⟩
def w86kL10 (c : Code) : List It2 := atL 10 c
def w86sL10 (x5 : List UInt8) (x8 : List UInt8) (x18 : List VSeries) (x19 : Int) (x20 : Int) (x25 : List VLabel) (x26 : Int) (x27 : Int) (b7 : VSeries) : TS EE.T := ⟨64, [(5, .a (.d .str x5)), (7, .a (.box 7 0)), (8, .a (.d .str x8)), (18, .a (.d (.sl (.nam 9)) x18)), (19, .a (.d (.int .i64) x19)), (20, .a (.d (.int .i64) x20)), (25, .a (.d (.sl (.nam 2)) x25)), (26, .a (.d (.int .i64) x26)), (27, .a (.d (.int .i64) x27))], [(7, .cs (unpT EE (.nam 9) b7))], []⟩
def w86kL6 (c : Code) : List It2 := atL 6 c
def w86sL6 (x5 : List UInt8) (x18 : List VSeries) (x19 : Int) (x20 : Int) : TS EE.T := ⟨64, [(5, .a (.d .str x5)), (18, .a (.d (.sl (.nam 9)) x18)), (19, .a (.d (.int .i64) x19)), (20, .a (.d (.int .i64) x20))], [], []⟩
def w86kE0 (c : Code) : List It2 := [.c c]
def w86sE0 (x0 : List VSeries) : TS EE.T := ⟨64, [(0, .a (.d (.sl (.nam 9)) x0))], [], []⟩
def w86TL15 (c : Code) (N : Nat) (k6 : (List UInt8) → (List VSeries) → Int → Int → Option ((List UInt8) × Int)) (n : Nat) (x5 : List UInt8) (x8 : List UInt8) (x18 : List VSeries) (x19 : Int) (x20 : Int) (x43 : List VSample) (x44 : Int) (x45 : Int) : Tree (Lf EE.T × Option ((List UInt8) × Int)) :=
  .cond (decide (x45 < x44))
  (
    .bnd (idxC x43 x45) fun z9 =>
    .bnd (wire_sample N z9) fun z10 =>
    .bnd (wire_field N 2 z10) fun z11 =>
    .bnd (catC x8 z11) fun z12 =>
    .leaf (.go (w86kL15 c) (w86sL15 x5 z12 x18 x19 x20 x43 x44 (w64 (x45 + 1))), wire_Write_L15 N k6 n x5 z12 x18 x19 x20 x43 x44 (w64 (x45 + 1))))
  (
    .bnd (wire_field N 1 x8) fun z13 =>
    .bnd (catC x5 z13) fun z14 =>
    .cond (decide ((z14.length : Int) > 20000))
    (
      .leaf (.done (w86enc (([] : List UInt8), 2)), some (([] : List UInt8), 2)))
    (
      .leaf (.go (w86kL6 c) (w86sL6 z14 x18 x19 (w64 (x20 + 1))), k6 z14 x18 x19 (w64 (x20 + 1)))))
theorem w86vL15 (N : Nat) (k6 : (List UInt8) → (List VSeries) → Int → Int → Option ((List UInt8) × Int)) (n : Nat) (x5 : List UInt8) (x8 : List UInt8) (x18 : List VSeries) (x19 : Int) (x20 : Int) (x43 : List VSample) (x44 : Int) (x45 : Int) : evM TT EE (w86G N) w86lv w86rs 4000 true (w86kL15 (bodyOf 0 Try.f86)) (w86sL15 x5 x8 x18 x19 x20 x43 x44 x45) = (w86TL15 (bodyOf 0 Try.f86) N k6 n x5 x8 x18 x19 x20 x43 x44 x45).map1 := by kernel_rfl
theorem w86nL15 (N : Nat) (k6 : (List UInt8) → (List VSeries) → Int → Int → Option ((List UInt8) × Int)) (n : Nat) (x5 : List UInt8) (x8 : List UInt8) (x18 : List VSeries) (x19 : Int) (x20 : Int) (x43 : List VSample) (x44 : Int) (x45 : Int) : wire_Write_L15 N k6 (n + 1) x5 x8 x18 x19 x20 x43 x44 x45 = (w86TL15 (bodyOf 0 Try.f86) N k6 n x5 x8 x18 x19 x20 x43 x44 x45).run := by kernel_rfl
theorem w86oL15 {N : Nat} {r : (List UInt8) × Int} {k6 : (List UInt8) → (List VSeries) → Int → Int → Option ((List UInt8) × Int)} (hk6 : ∀ x5 x18 x19 x20, k6 x5 x18 x19 x20 = some r → Ends (Y := TT) EE (w86G N) w86lv w86rs (fun u => u = w86enc r) (w86kL6 (bodyOf 0 Try.f86)) (w86sL6 x5 x18 x19 x20)) : ∀ (n : Nat) (x5 : List UInt8) (x8 : List UInt8) (x18 : List VSeries) (x19 : Int) (x20 : Int) (x43 : List VSample) (x44 : Int) (x45 : Int), wire_Write_L15 N k6 n x5 x8 x18 x19 x20 x43 x44 x45 = some r → Ends (Y := TT) EE (w86G N) w86lv w86rs (fun u => u = w86enc r) (w86kL15 (bodyOf 0 Try.f86)) (w86sL15 x5 x8 x18 x19 x20 x43 x44 x45)
  | 0, _, _, _, _, _, _, _, _, h => by cases h
  | n + 1, x5, x8, x18, x19, x20, x43, x44, x45, h => tree_use (w86vL15 N k6 n x5 x8 x18 x19 x20 x43 x44 x45) (w86nL15 N k6 n x5 x8 x18 x19 x20 x43 x44 x45) h (show (w86TL15 (bodyOf 0 Try.f86) N k6 n x5 x8 x18 x19 x20 x43 x44 x45).all _ from ⟨fun _ => fun _ => fun _ => fun _ => fun h => (w86oL15 hk6 n) _ _ _ _ _ _ _ _ h, fun _ => fun _ => ⟨retp (enc := w86enc) rfl, fun h => hk6 _ _ _ _ h⟩⟩)
def w86TL10 (c : Code) (N : Nat) (k6 : (List UInt8) → (List VSeries) → Int → Int → Option ((List UInt8) × Int)) (n : Nat) (x5 : List UInt8) (x8 : List UInt8) (x18 : List VSeries) (x19 : Int) (x20 : Int) (x25 : List VLabel) (x26 : Int) (x27 : Int) (b7 : VSeries) : Tree (Lf EE.T × Option ((List UInt8) × Int)) :=
  .cond (decide (x27 < x26))
  (
    .bnd (idxC x25 x27) fun z3 =>
    .bnd (wire_field N 1 z3.Name) fun z4 =>
    .bnd (wire_field N 2 z3.Value) fun z5 =>
    .bnd (catC z4 z5) fun z6 =>
    .bnd (wire_field N 1 z6) fun z7 =>
    .bnd (catC x8 z7) fun z8 =>
    .leaf (.go (w86kL10 c) (w86sL10 x5 z8 x18 x19 x20 x25 x26 (w64 (x27 + 1)) b7), wire_Write_L10 N k6 n x5 z8 x18 x19 x20 x25 x26 (w64 (x27 + 1)) b7))
  (
    .leaf (.go (w86kL15 c) (w86sL15 x5 x8 x18 x19 x20 b7.Samples (b7.Samples.length : Int) 0), wire_Write_L15 N k6 n x5 x8 x18 x19 x20 b7.Samples (b7.Samples.length : Int) 0))
theorem w86vL10 (N : Nat) (k6 : (List UInt8) → (List VSeries) → Int → Int → Option ((List UInt8) × Int)) (n : Nat) (x5 : List UInt8) (x8 : List UInt8) (x18 : List VSeries) (x19 : Int) (x20 : Int) (x25 : List VLabel) (x26 : Int) (x27 : Int) (b7 : VSeries) : evM TT EE (w86G N) w86lv w86rs 4000 true (w86kL10 (bodyOf 0 Try.f86)) (w86sL10 x5 x8 x18 x19 x20 x25 x26 x27 b7) = (w86TL10 (bodyOf 0 Try.f86) N k6 n x5 x8 x18 x19 x20 x25 x26 x27 b7).map1 := by kernel_rfl
theorem w86nL10 (N : Nat) (k6 : (List UInt8) → (List VSeries) → Int → Int → Option ((List UInt8) × Int)) (n : Nat) (x5 : List UInt8) (x8 : List UInt8) (x18 : List VSeries) (x19 : Int) (x20 : Int) (x25 : List VLabel) (x26 : Int) (x27 : Int) (b7 : VSeries) : wire_Write_L10 N k6 (n + 1) x5 x8 x18 x19 x20 x25 x26 x27 b7 = (w86TL10 (bodyOf 0 Try.f86) N k6 n x5 x8 x18 x19 x20 x25 x26 x27 b7).run := by kernel_rfl
theorem w86oL10 {N : Nat} {r : (List UInt8) × Int} {k6 : (List UInt8) → (List VSeries) → Int → Int → Option ((List UInt8) × Int)} (hk6 : ∀ x5 x18 x19 x20, k6 x5 x18 x19 x20 = some r → Ends (Y := TT) EE (w86G N) w86lv w86rs (fun u => u = w86enc r) (w86kL6 (bodyOf 0 Try.f86)) (w86sL6 x5 x18 x19 x20)) : ∀ (n : Nat) (x5 : List UInt8) (x8 : List UInt8) (x18 : List VSeries) (x19 : Int) (x20 : Int) (x25 : List VLabel) (x26 : Int) (x27 : Int) (b7 : VSeries), wire_Write_L10 N k6 n x5 x8 x18 x19 x20 x25 x26 x27 b7 = some r → Ends (Y := TT) EE (w86G N) w86lv w86rs (fun u => u = w86enc r) (w86kL10 (bodyOf 0 Try.f86)) (w86sL10 x5 x8 x18 x19 x20 x25 x26 x27 b7)
  | 0, _, _, _, _, _, _, _, _, _, h => by cases h
  | n + 1, x5, x8, x18, x19, x20, x25, x26, x27, b7, h => tree_use (w86vL10 N k6 n x5 x8 x18 x19 x20 x25 x26 x27 b7) (w86nL10 N k6 n x5 x8 x18 x19 x20 x25 x26 x27 b7) h (show (w86TL10 (bodyOf 0 Try.f86) N k6 n x5 x8 x18 x19 x20 x25 x26 x27 b7).all _ from ⟨fun _ => fun _ => fun _ => fun _ => fun _ => fun _ => fun h => (w86oL10 hk6 n) _ _ _ _ _ _ _ _ _ h, fun h => w86oL15 hk6 n _ _ _ _ _ _ _ _ h⟩)
def w86TL6 (c : Code) (N : Nat) (n : Nat) (x5 : List UInt8) (x18 : List VSeries) (x19 : Int) (x20 : Int) : Tree (Lf EE.T × Option ((List UInt8) × Int)) :=
  .cond (decide (x20 < x19))
  (
    .bnd (idxC x18 x20) fun z2 =>
    .leaf (.go (w86kL10 c) (w86sL10 x5 ([] : List UInt8) x18 x19 x20 z2.Labels (z2.Labels.length : Int) 0 z2), wire_Write_L10 N (wire_Write_L6 N n) n x5 ([] : List UInt8) x18 x19 x20 z2.Labels (z2.Labels.length : Int) 0 z2))
  (
    .leaf (.done (w86enc (x5, 0)), some (x5, 0)))
theorem w86vL6 (N : Nat) (n : Nat) (x5 : List UInt8) (x18 : List VSeries) (x19 : Int) (x20 : Int) : evM TT EE (w86G N) w86lv w86rs 4000 true (w86kL6 (bodyOf 0 Try.f86)) (w86sL6 x5 x18 x19 x20) = (w86TL6 (bodyOf 0 Try.f86) N n x5 x18 x19 x20).map1 := by kernel_rfl
theorem w86nL6 (N : Nat) (n : Nat) (x5 : List UInt8) (x18 : List VSeries) (x19 : Int) (x20 : Int) : wire_Write_L6 N (n + 1) x5 x18 x19 x20 = (w86TL6 (bodyOf 0 Try.f86) N n x5 x18 x19 x20).run := by kernel_rfl
theorem w86oL6 {N : Nat} {r : (List UInt8) × Int} : ∀ (n : Nat) (x5 : List UInt8) (x18 : List VSeries) (x19 : Int) (x20 : Int), wire_Write_L6 N n x5 x18 x19 x20 = some r → Ends (Y := TT) EE (w86G N) w86lv w86rs (fun u => u = w86enc r) (w86kL6 (bodyOf 0 Try.f86)) (w86sL6 x5 x18 x19 x20)
  | 0, _, _, _, _, h => by cases h
  | n + 1, x5, x18, x19, x20, h => tree_use (w86vL6 N n x5 x18 x19 x20) (w86nL6 N n x5 x18 x19 x20) h (show (w86TL6 (bodyOf 0 Try.f86) N n x5 x18 x19 x20).all _ from ⟨fun _ => fun h => w86oL10 (w86oL6 n) n _ _ _ _ _ _ _ _ _ h, retp (enc := w86enc) rfl⟩)
def w86TE0 (c : Code) (N : Nat) (x0 : List VSeries) : Tree (Lf EE.T × Option ((List UInt8) × Int)) :=
  .bnd (wire_check N x0) fun z1 =>
  .cond (z1 != 0)
  (
    .leaf (.done (w86enc (([] : List UInt8), z1)), some (([] : List UInt8), z1)))
  (
    .leaf (.go (w86kL6 c) (w86sL6 ([] : List UInt8) x0 (x0.length : Int) 0), wire_Write_L6 N N ([] : List UInt8) x0 (x0.length : Int) 0))
theorem w86vE0 (N : Nat) (x0 : List VSeries) : evM TT EE (w86G N) w86lv w86rs 4000 true (w86kE0 (bodyOf 0 Try.f86)) (w86sE0 x0) = (w86TE0 (bodyOf 0 Try.f86) N x0).map1 := by kernel_rfl
theorem w86nE0 (N : Nat) (x0 : List VSeries) : wire_Write N x0 = (w86TE0 (bodyOf 0 Try.f86) N x0).run := by kernel_rfl
theorem w86oE0 {N : Nat} {r : (List UInt8) × Int} (x0 : List VSeries) (h : wire_Write N x0 = some r) : Ends (Y := TT) EE (w86G N) w86lv w86rs (fun u => u = w86enc r) (w86kE0 (bodyOf 0 Try.f86)) (w86sE0 x0) :=
  tree_use (w86vE0 N x0) (w86nE0 N x0) h (show (w86TE0 (bodyOf 0 Try.f86) N x0).all _ from fun _ => ⟨retp (enc := w86enc) rfl, fun h => w86oL6 N _ _ _ _ h⟩)
theorem wire_Write_ok {N : Nat} (x0 : List VSeries) {r : (List UInt8) × Int} (h : wire_Write N x0 = some r) (ρ : Nat → Nat) : ACalls Try.prog 86 (([.a (.d (.sl (.nam 9)) x0)] : List (TV EE.T)).map (TV.to EE.toEnc ρ)) [] (fun out H => out = .ret ((wire_Write_u r).to EE.toEnc ρ) ∧ H = []) :=
  (fn_ok (bodyOf 0 Try.f86) 64 mixed (w86Gok N) Try.func86 (by kernel_rfl) rfl rfl rfl rfl (w86oE0 x0 h) ρ).mono fun out H h => KPost.ret rfl h
def wire_Write_h (N : Nat) : List (TV EE.T) → PV EE.T
  | [u0] => match argD (.sl (.nam 9)) u0 with
    | some x0 => .opt (wire_Write N x0) wire_Write_u
    | _ => .bad
  | _ => .bad
theorem wire_Write_hok (N : Nat) (us : List (TV EE.T)) : (wire_Write_h N us).ok fun u => ∀ ρ, ACalls Try.prog 86 (us.map (TV.to EE.toEnc ρ)) [] (fun out H => out = .ret (u.to EE.toEnc ρ) ∧ H = []) := by
  unfold wire_Write_h
  split
  · split
    · rename_i h0
      intro z hz ρ; refine acalls_le ?_ (wire_Write_ok _ hz ρ); exact ⟨argD_le h0 ρ, trivial⟩
    · trivial
  · trivial
/-! ### gleaner/shard.packed -/
def shard_packed_u (r : (List UInt8) × Bool) : TV EE.T := .tu [.a (.d .str r.1), .a (.d .bool r.2)]
def w60enc (r : (List UInt8) × Bool) : RL EE.T := .ret (shard_packed_u r) []
def w60lv : Lvs := ⟨[], [(3, ⟨[(4, false), (9, false), (10, false), (11, false)], [], []⟩)], [], [], false, [], []⟩
def w60rs : List ResultVar := [.tmp 2, .tmp 3]
def w60G (N : Nat) : Gam EE := ⟨[⟨87, press_Pack_h N⟩, ⟨86, wire_Write_h N⟩], EQT, [], []⟩
theorem w60Gok (N : Nat) : GOk Try.prog TT EE (w60G N) := GOk.cons (press_Pack_hok N) (GOk.cons (wire_Write_hok N) (GOk.nil EQT_ok))
def w60kL3 (c : Code) : List It2 := atL 3 c
def w60sL3 (x4 : List VSeries) (x9 : List VItem) (x10 : Int) (x11 : Int) : TS EE.T := ⟨40, [(4, .a (.own (.nam 9) x4)), (9, .a (.d (.sl (.nam 7)) x9)), (10, .a (.d (.int .i64) x10)), (11, .a (.d (.int .i64) x11))], [], []⟩
def w60kE0 (c : Code) : List It2 := [.c c]
def w60sE0 (x0 : List VItem) : TS EE.T := ⟨40, [(0, .a (.d (.sl (.nam 7)) x0))], [], []⟩
def w60TL3 (c : Code) (N : Nat) (n : Nat) (x4 : List VSeries) (x9 : List VItem) (x10 : Int) (x11 : Int) : Tree (Lf EE.T × Option ((List UInt8) × Bool)) :=
  .cond (decide (x11 < x10))
  (
    .bnd (idxC x9 x11) fun z1 =>
    .bnd (appC 48 x4 ([({ Labels := z1.Labels, Samples := ([z1.Sample] : List VSample) } : VSeries)] : List VSeries)) fun z2 =>
    .leaf (.go (w60kL3 c) (w60sL3 z2 x9 x10 (w64 (x11 + 1))), shard_packed_L3 N n z2 x9 x10 (w64 (x11 + 1))))
  (
    .bnd (wire_Write N x4) fun z3 =>
    .cond (z3.2 != 0)
    (
      .leaf (.done (w60enc (([] : List UInt8), false)), some (([] : List UInt8), false)))
    (
      .bnd (press_Pack N z3.1) fun z4 =>
      .leaf (.done (w60enc (z4.1, z4.2 == 0)), some (z4.1, z4.2 == 0))))
theorem w60vL3 (N : Nat) (n : Nat) (x4 : List VSeries) (x9 : List VItem) (x10 : Int) (x11 : Int) : evM TT EE (w60G N) w60lv w60rs 4000 true (w60kL3 (bodyOf 0 Try.f60)) (w60sL3 x4 x9 x10 x11) = (w60TL3 (bodyOf 0 Try.f60) N n x4 x9 x10 x11).map1 := by kernel_rfl
theorem w60nL3 (N : Nat) (n : Nat) (x4 : List VSeries) (x9 : List VItem) (x10 : Int) (x11 : Int) : shard_packed_L3 N (n + 1) x4 x9 x10 x11 = (w60TL3 (bodyOf 0 Try.f60) N n x4 x9 x10 x11).run := by kernel_rfl
theorem w60oL3 {N : Nat} {r : (List UInt8) × Bool} : ∀ (n : Nat) (x4 : List VSeries) (x9 : List VItem) (x10 : Int) (x11 : Int), shard_packed_L3 N n x4 x9 x10 x11 = some r → Ends (Y := TT) EE (w60G N) w60lv w60rs (fun u => u = w60enc r) (w60kL3 (bodyOf 0 Try.f60)) (w60sL3 x4 x9 x10 x11)
  | 0, _, _, _, _, h => by cases h
  | n + 1, x4, x9, x10, x11, h => tree_use (w60vL3 N n x4 x9 x10 x11) (w60nL3 N n x4 x9 x10 x11) h (show (w60TL3 (bodyOf 0 Try.f60) N n x4 x9 x10 x11).all _ from ⟨fun _ => fun _ => fun h => (w60oL3 n) _ _ _ _ h, fun _ => ⟨retp (enc := w60enc) rfl, fun _ => retp (enc := w60enc) rfl⟩⟩)
def w60TE0 (c : Code) (N : Nat) (x0 : List VItem) : Tree (Lf EE.T × Option ((List UInt8) × Bool)) :=
  .leaf (.go (w60kL3 c) (w60sL3 ([] : List VSeries) x0 (x0.length : Int) 0), shard_packed_L3 N N ([] : List VSeries) x0 (x0.length : Int) 0)
theorem w60vE0 (N : Nat) (x0 : List VItem) : evM TT EE (w60G N) w60lv w60rs 4000 true (w60kE0 (bodyOf 0 Try.f60)) (w60sE0 x0) = (w60TE0 (bodyOf 0 Try.f60) N x0).map1 := by kernel_rfl
theorem w60nE0 (N : Nat) (x0 : List VItem) : shard_packed N x0 = (w60TE0 (bodyOf 0 Try.f60) N x0).run := by kernel_rfl
theorem w60oE0 {N : Nat} {r : (List UInt8) × Bool} (x0 : List VItem) (h : shard_packed N x0 = some r) : Ends (Y := TT) EE (w60G N) w60lv w60rs (fun u => u = w60enc r) (w60kE0 (bodyOf 0 Try.f60)) (w60sE0 x0) :=
  tree_use (w60vE0 N x0) (w60nE0 N x0) h (show (w60TE0 (bodyOf 0 Try.f60) N x0).all _ from fun h => w60oL3 N _ _ _ _ h)
theorem shard_packed_ok {N : Nat} (x0 : List VItem) {r : (List UInt8) × Bool} (h : shard_packed N x0 = some r) (ρ : Nat → Nat) : ACalls Try.prog 60 (([.a (.d (.sl (.nam 7)) x0)] : List (TV EE.T)).map (TV.to EE.toEnc ρ)) [] (fun out H => out = .ret ((shard_packed_u r).to EE.toEnc ρ) ∧ H = []) :=
  (fn_ok (bodyOf 0 Try.f60) 40 mixed (w60Gok N) Try.func60 (by kernel_rfl) rfl rfl rfl rfl (w60oE0 x0 h) ρ).mono fun out H h => KPost.ret rfl h
def shard_packed_h (N : Nat) : List (TV EE.T) → PV EE.T
  | [u0] => match argD (.sl (.nam 7)) u0 with
    | some x0 => .opt (shard_packed N x0) shard_packed_u
    | _ => .bad
  | _ => .bad
theorem shard_packed_hok (N : Nat) (us : List (TV EE.T)) : (shard_packed_h N us).ok fun u => ∀ ρ, ACalls Try.prog 60 (us.map (TV.to EE.toEnc ρ)) [] (fun out H => out = .ret (u.to EE.toEnc ρ) ∧ H = []) := by
  unfold shard_packed_h
  split
  · split
    · rename_i h0
      intro z hz ρ; refine acalls_le ?_ (shard_packed_ok _ hz ρ); exact ⟨argD_le h0 ρ, trivial⟩
    · trivial
  · trivial
/-! ### gleaner/shard.Next -/
def shard_Next_u (r : (List VItem) × (List UInt8) × Int) : TV EE.T := .tu [.a (.d (.sl (.nam 7)) r.1), .a (.d .str r.2.1), .a (.d (.int .i64) r.2.2)]
def w27enc (r : (List VItem) × (List UInt8) × Int) : RL EE.T := .ret (shard_Next_u r) []
def w27lv : Lvs := ⟨[], [(9, ⟨[(2, false), (8, false)], [], [(2, (some 8, []))]⟩)], [], [], false, [], []⟩
def w27rs : List ResultVar := [.tmp 4, .tmp 5, .tmp 6]
def w27G (N : Nat) : Gam EE := ⟨[⟨22, shard_Check_h N⟩, ⟨55, shard_isTime_h N⟩, ⟨59, shard_own_h N⟩, ⟨60, shard_packed_h N⟩], EQT, [], []⟩
theorem w27Gok (N : Nat) : GOk Try.prog TT EE (w27G N) := GOk.cons (shard_Check_hok N) (GOk.cons (shard_isTime_hok N) (GOk.cons (shard_own_hok N) (GOk.cons (shard_packed_hok N) (GOk.nil EQT_ok))))
def w27kL9 (c : Code) : List It2 := atL 9 c
def w27sL9 (x8 : Int) (b2 : VShard) : TS EE.T := ⟨53, [(2, .a (.box 2 0)), (8, .a (.d (.int .i64) x8))], [(2, .cs (unpT EE (.nam 8) b2))], []⟩
def w27kE0 (c : Code) : List It2 := [.c c]
def w27sE0 (x0 : VShard) (x1 : Int) : TS EE.T := ⟨53, [(0, .ag (unpT EE (.nam 8) x0)), (1, .a (.d (.int .i64) x1))], [], []⟩
def w27TL9 (c : Code) (N : Nat) (n : Nat) (x8 : Int) (b2 : VShard) : Tree (Lf EE.T × Option ((List VItem) × (List UInt8) × Int)) :=
  .cond (decide (x8 > 0))
  (
    .bnd (subC b2.Items 0 x8) fun z3 =>
    .bnd (shard_packed N z3) fun z4 =>
    .cond (z4.2)
    (
      .bnd (subC b2.Items 0 x8) fun z5 =>
      .bnd (shard_own N ({ Items := z5, Batch := b2.Batch, Room := b2.Room, First := b2.First, Most := b2.Most, Waits := b2.Waits, Till := b2.Till } : VShard) 0) fun z6 =>
      .leaf (.done (w27enc (z6.Items, z4.1, 0)), some (z6.Items, z4.1, 0)))
    (
      .bnd (quoC .i64 x8 2) fun z7 =>
      .leaf (.go (w27kL9 c) (w27sL9 z7 b2), shard_Next_L9 N n z7 b2)))
  (
    .leaf (.done (w27enc (([] : List VItem), ([] : List UInt8), 0)), some (([] : List VItem), ([] : List UInt8), 0)))
theorem w27vL9 (N : Nat) (n : Nat) (x8 : Int) (b2 : VShard) : evM TT EE (w27G N) w27lv w27rs 4000 true (w27kL9 (bodyOf 0 Try.f27)) (w27sL9 x8 b2) = (w27TL9 (bodyOf 0 Try.f27) N n x8 b2).map1 := by kernel_rfl
theorem w27nL9 (N : Nat) (n : Nat) (x8 : Int) (b2 : VShard) : shard_Next_L9 N (n + 1) x8 b2 = (w27TL9 (bodyOf 0 Try.f27) N n x8 b2).run := by kernel_rfl
theorem w27oL9 {N : Nat} {r : (List VItem) × (List UInt8) × Int} : ∀ (n : Nat) (x8 : Int) (b2 : VShard), shard_Next_L9 N n x8 b2 = some r → Ends (Y := TT) EE (w27G N) w27lv w27rs (fun u => u = w27enc r) (w27kL9 (bodyOf 0 Try.f27)) (w27sL9 x8 b2)
  | 0, _, _, h => by cases h
  | n + 1, x8, b2, h => tree_use (w27vL9 N n x8 b2) (w27nL9 N n x8 b2) h (show (w27TL9 (bodyOf 0 Try.f27) N n x8 b2).all _ from ⟨fun _ => fun _ => ⟨fun _ => fun _ => retp (enc := w27enc) rfl, fun _ => fun h => (w27oL9 n) _ _ h⟩, retp (enc := w27enc) rfl⟩)
def w27TE0 (c : Code) (N : Nat) (x0 : VShard) (x1 : Int) : Tree (Lf EE.T × Option ((List VItem) × (List UInt8) × Int)) :=
  .bnd (shard_Check N x0) fun z1 =>
  .cond (z1 != 0)
  (
    .leaf (.done (w27enc (([] : List VItem), ([] : List UInt8), z1)), some (([] : List VItem), ([] : List UInt8), z1)))
  (
    .bnd (shard_isTime N x1) fun z2 =>
    .cond (!z2)
    (
      .leaf (.done (w27enc (([] : List VItem), ([] : List UInt8), 3)), some (([] : List VItem), ([] : List UInt8), 3)))
    (
      .cond (decide (x0.Till > x1))
      (
        .leaf (.done (w27enc (([] : List VItem), ([] : List UInt8), 4)), some (([] : List VItem), ([] : List UInt8), 4)))
      (
        .leaf (.go (w27kL9 c) (w27sL9 (if x0.Batch < (x0.Items.length : Int) then x0.Batch else (x0.Items.length : Int)) x0), shard_Next_L9 N N (if x0.Batch < (x0.Items.length : Int) then x0.Batch else (x0.Items.length : Int)) x0))))
theorem w27vE0 (N : Nat) (x0 : VShard) (x1 : Int) : evM TT EE (w27G N) w27lv w27rs 4000 true (w27kE0 (bodyOf 0 Try.f27)) (w27sE0 x0 x1) = (w27TE0 (bodyOf 0 Try.f27) N x0 x1).map1 := by kernel_rfl
theorem w27nE0 (N : Nat) (x0 : VShard) (x1 : Int) : shard_Next N x0 x1 = (w27TE0 (bodyOf 0 Try.f27) N x0 x1).run := by kernel_rfl
theorem w27oE0 {N : Nat} {r : (List VItem) × (List UInt8) × Int} (x0 : VShard) (x1 : Int) (h : shard_Next N x0 x1 = some r) : Ends (Y := TT) EE (w27G N) w27lv w27rs (fun u => u = w27enc r) (w27kE0 (bodyOf 0 Try.f27)) (w27sE0 x0 x1) :=
  tree_use (w27vE0 N x0 x1) (w27nE0 N x0 x1) h (show (w27TE0 (bodyOf 0 Try.f27) N x0 x1).all _ from fun _ => ⟨retp (enc := w27enc) rfl, fun _ => ⟨retp (enc := w27enc) rfl, ⟨retp (enc := w27enc) rfl, fun h => w27oL9 N _ _ h⟩⟩⟩)
theorem shard_Next_ok {N : Nat} (x0 : VShard) (x1 : Int) {r : (List VItem) × (List UInt8) × Int} (h : shard_Next N x0 x1 = some r) (ρ : Nat → Nat) : ACalls Try.prog 27 (([.ag (unpT EE (.nam 8) x0), .a (.d (.int .i64) x1)] : List (TV EE.T)).map (TV.to EE.toEnc ρ)) [] (fun out H => out = .ret ((shard_Next_u r).to EE.toEnc ρ) ∧ H = []) :=
  (fn_ok (bodyOf 0 Try.f27) 53 mixed (w27Gok N) Try.func27 (by kernel_rfl) rfl rfl rfl rfl (w27oE0 x0 x1 h) ρ).mono fun out H h => KPost.ret rfl h
def shard_Next_h (N : Nat) : List (TV EE.T) → PV EE.T
  | [u0, u1] => match argS EE 8 u0, argD (.int .i64) u1 with
    | some x0, some x1 => .opt (shard_Next N x0 x1) shard_Next_u
    | _, _ => .bad
  | _ => .bad
theorem shard_Next_hok (N : Nat) (us : List (TV EE.T)) : (shard_Next_h N us).ok fun u => ∀ ρ, ACalls Try.prog 27 (us.map (TV.to EE.toEnc ρ)) [] (fun out H => out = .ret (u.to EE.toEnc ρ) ∧ H = []) := by
  unfold shard_Next_h
  split
  · split
    · rename_i h0 h1
      intro z hz ρ; refine acalls_le ?_ (shard_Next_ok _ _ hz ρ); exact ⟨argS_le h0 ρ, argD_le h1 ρ, trivial⟩
    · trivial
  · trivial
/-! ### gleaner/gleanerlaw.shardBegun -/
def law_shardBegun_u (r : Bool) : TV EE.T := .a (.d .bool r)
def w21enc (r : Bool) : RL EE.T := .ret (law_shardBegun_u r) []
def w21lv : Lvs := ⟨[], [], [], [], false, [], []⟩
def w21rs : List ResultVar := [.tmp 0]
def w21G (N : Nat) : Gam EE := ⟨[⟨27, shard_Next_h N⟩, ⟨24, shard_Push_h N⟩], EQT, [], []⟩
theorem w21Gok (N : Nat) : GOk Try.prog TT EE (w21G N) := GOk.cons (shard_Next_hok N) (GOk.cons (shard_Push_hok N) (GOk.nil EQT_ok))
def w21kE0 (c : Code) : List It2 := [.c c]
def w21sE0 : TS EE.T := ⟨35, [], [], []⟩
def w21TE0 (c : Code) (N : Nat) : Tree (Lf EE.T × Option Bool) :=
  .bnd (shard_Push N ({ Items := ([] : List VItem), Batch := 1, Room := 1, First := 1, Most := 2, Waits := 0, Till := 0 } : VShard) ({ Number := 0, Labels := ([({ Name := ([97] : List UInt8), Value := ([98] : List UInt8) } : VLabel)] : List VLabel), Sample := ({ Time := 0, Bits := 0 } : VSample) } : VItem)) fun z1 =>
  .bnd (shard_Next N z1.1 0) fun z2 =>
  .cond (z1.2 == 0)
  (
    .cond (z2.2.2 == 0)
    (
      .cond ((z2.1.length : Int) == 1)
      (
        .leaf (.done (w21enc (!decide (z2.2.1 = ([] : List UInt8)))), some (!decide (z2.2.1 = ([] : List UInt8)))))
      (
        .leaf (.done (w21enc false), some false)))
    (
      .leaf (.done (w21enc false), some false)))
  (
    .leaf (.done (w21enc false), some false))
theorem w21vE0 (N : Nat) : evM TT EE (w21G N) w21lv w21rs 4000 true (w21kE0 (bodyOf 0 Try.f21)) (w21sE0) = (w21TE0 (bodyOf 0 Try.f21) N).map1 := by kernel_rfl
theorem w21nE0 (N : Nat) : law_shardBegun N = (w21TE0 (bodyOf 0 Try.f21) N).run := by kernel_rfl
theorem w21oE0 {N : Nat} {r : Bool} (h : law_shardBegun N = some r) : Ends (Y := TT) EE (w21G N) w21lv w21rs (fun u => u = w21enc r) (w21kE0 (bodyOf 0 Try.f21)) (w21sE0) :=
  tree_use (w21vE0 N) (w21nE0 N) h (show (w21TE0 (bodyOf 0 Try.f21) N).all _ from fun _ => fun _ => ⟨⟨⟨retp (enc := w21enc) rfl, retp (enc := w21enc) rfl⟩, retp (enc := w21enc) rfl⟩, retp (enc := w21enc) rfl⟩)
theorem law_shardBegun_ok {N : Nat} {r : Bool} (h : law_shardBegun N = some r) (ρ : Nat → Nat) : ACalls Try.prog 21 (([] : List (TV EE.T)).map (TV.to EE.toEnc ρ)) [] (fun out H => out = .ret ((law_shardBegun_u r).to EE.toEnc ρ) ∧ H = []) :=
  (fn_ok (bodyOf 0 Try.f21) 35 mixed (w21Gok N) Try.func21 (by kernel_rfl) rfl rfl rfl rfl (w21oE0 h) ρ).mono fun out H h => KPost.ret rfl h
def law_shardBegun_h (N : Nat) : List (TV EE.T) → PV EE.T
  | [] => .opt (law_shardBegun N) law_shardBegun_u
  | _ => .bad
theorem law_shardBegun_hok (N : Nat) (us : List (TV EE.T)) : (law_shardBegun_h N us).ok fun u => ∀ ρ, ACalls Try.prog 21 (us.map (TV.to EE.toEnc ρ)) [] (fun out H => out = .ret (u.to EE.toEnc ρ) ∧ H = []) := by
  unfold law_shardBegun_h
  split
  · intro z hz ρ; exact law_shardBegun_ok hz ρ
  · trivial
/-! ### gleaner/gleanerlaw.ShardWhich -/
def law_ShardWhich_u (r : Bool) : TV EE.T := .a (.d .bool r)
def w12enc (r : Bool) : RL EE.T := .ret (law_ShardWhich_u r) []
def w12lv : Lvs := ⟨[(4, ⟨[(0, false), (1, false), (5, false), (6, false), (8, false)], [], []⟩), (8, ⟨[(5, false), (6, false), (7, false), (8, false)], [], []⟩)], [], [4, 8], [], false, [], []⟩
def w12rs : List ResultVar := [.tmp 4]
def w12G (N : Nat) : Gam EE := ⟨[⟨21, law_shardBegun_h N⟩, ⟨37, ref_CheckLabels_h N⟩, ⟨38, ref_SumOf_h N⟩, ⟨36, shard_Which_h N⟩], EQT, [], []⟩
theorem w12Gok (N : Nat) : GOk Try.prog TT EE (w12G N) := GOk.cons (law_shardBegun_hok N) (GOk.cons (ref_CheckLabels_hok N) (GOk.cons (ref_SumOf_hok N) (GOk.cons (shard_Which_hok N) (GOk.nil EQT_ok))))
def w12kR8 (c : Code) : List It2 := atR 8 c
def w12sR8 (x5 : Int) (x6 : Int) (x7 : Int) (x8 : Int) : TS EE.T := ⟨42, [(5, .a (.d (.int .i64) x5)), (6, .a (.d (.int .i64) x6)), (7, .a (.d (.int .i64) x7)), (8, .a (.d (.int .i64) x8))], [], []⟩
def w12kR4 (c : Code) : List It2 := atR 4 c
def w12sR4 (x0 : List VLabel) (x1 : Int) (x5 : Int) (x6 : Int) (x8 : Int) : TS EE.T := ⟨42, [(0, .a (.d (.sl (.nam 2)) x0)), (1, .a (.d (.int .i64) x1)), (5, .a (.d (.int .i64) x5)), (6, .a (.d (.int .i64) x6)), (8, .a (.d (.int .i64) x8))], [], []⟩
def w12kE0 (c : Code) : List It2 := [.c c]
def w12sE0 (x0 : List VLabel) (x1 : Int) : TS EE.T := ⟨42, [(0, .a (.d (.sl (.nam 2)) x0)), (1, .a (.d (.int .i64) x1))], [], []⟩
def w12TR8 (c : Code) (N : Nat) (n : Nat) (x5 : Int) (x6 : Int) (x7 : Int) (x8 : Int) : Tree (Lf EE.T × Option Bool) :=
  .bnd (law_shardBegun N) fun z7 =>
  .cond (z7)
  (
    .cond (x6 == x7)
    (
      .leaf (.done (w12enc (x5 == x8)), some (x5 == x8)))
    (
      .leaf (.done (w12enc false), some false)))
  (
    .leaf (.done (w12enc false), some false))
theorem w12vR8 (N : Nat) (n : Nat) (x5 : Int) (x6 : Int) (x7 : Int) (x8 : Int) : evM TT EE (w12G N) w12lv w12rs 4000 true (w12kR8 (bodyOf 0 Try.f12)) (w12sR8 x5 x6 x7 x8) = (w12TR8 (bodyOf 0 Try.f12) N n x5 x6 x7 x8).map1 := by kernel_rfl
theorem w12nR8 (N : Nat) (n : Nat) (x5 : Int) (x6 : Int) (x7 : Int) (x8 : Int) : law_ShardWhich_R8 N n x5 x6 x7 x8 = (w12TR8 (bodyOf 0 Try.f12) N n x5 x6 x7 x8).run := by kernel_rfl
theorem w12oR8 {N : Nat} {r : Bool} (n : Nat) (x5 : Int) (x6 : Int) (x7 : Int) (x8 : Int) (h : law_ShardWhich_R8 N n x5 x6 x7 x8 = some r) : Ends (Y := TT) EE (w12G N) w12lv w12rs (fun u => u = w12enc r) (w12kR8 (bodyOf 0 Try.f12)) (w12sR8 x5 x6 x7 x8) :=
  tree_use (w12vR8 N n x5 x6 x7 x8) (w12nR8 N n x5 x6 x7 x8) h (show (w12TR8 (bodyOf 0 Try.f12) N n x5 x6 x7 x8).all _ from fun _ => ⟨⟨retp (enc := w12enc) rfl, retp (enc := w12enc) rfl⟩, retp (enc := w12enc) rfl⟩)
def w12TR4 (c : Code) (N : Nat) (n : Nat) (x0 : List VLabel) (x1 : Int) (x5 : Int) (x6 : Int) (x8 : Int) : Tree (Lf EE.T × Option Bool) :=
  .cond (3 == 0)
  (
    .bnd (ref_SumOf N x0) fun z5 =>
    .bnd (remC z5 (IntKind.wrap .u64 x1)) fun z6 =>
    .leaf (.go (w12kR8 c) (w12sR8 x5 x6 3 (w64 z6)), law_ShardWhich_R8 N n x5 x6 3 (w64 z6)))
  (
    .leaf (.go (w12kR8 c) (w12sR8 x5 x6 3 x8), law_ShardWhich_R8 N n x5 x6 3 x8))
theorem w12vR4 (N : Nat) (n : Nat) (x0 : List VLabel) (x1 : Int) (x5 : Int) (x6 : Int) (x8 : Int) : evM TT EE (w12G N) w12lv w12rs 4000 true (w12kR4 (bodyOf 0 Try.f12)) (w12sR4 x0 x1 x5 x6 x8) = (w12TR4 (bodyOf 0 Try.f12) N n x0 x1 x5 x6 x8).map1 := by kernel_rfl
theorem w12nR4 (N : Nat) (n : Nat) (x0 : List VLabel) (x1 : Int) (x5 : Int) (x6 : Int) (x8 : Int) : law_ShardWhich_R4 N n x0 x1 x5 x6 x8 = (w12TR4 (bodyOf 0 Try.f12) N n x0 x1 x5 x6 x8).run := by kernel_rfl
theorem w12oR4 {N : Nat} {r : Bool} (n : Nat) (x0 : List VLabel) (x1 : Int) (x5 : Int) (x6 : Int) (x8 : Int) (h : law_ShardWhich_R4 N n x0 x1 x5 x6 x8 = some r) : Ends (Y := TT) EE (w12G N) w12lv w12rs (fun u => u = w12enc r) (w12kR4 (bodyOf 0 Try.f12)) (w12sR4 x0 x1 x5 x6 x8) :=
  tree_use (w12vR4 N n x0 x1 x5 x6 x8) (w12nR4 N n x0 x1 x5 x6 x8) h (show (w12TR4 (bodyOf 0 Try.f12) N n x0 x1 x5 x6 x8).all _ from ⟨fun _ => fun _ => fun h => w12oR8 n _ _ _ _ h, fun h => w12oR8 n _ _ _ _ h⟩)
def w12TE0 (c : Code) (N : Nat) (x0 : List VLabel) (x1 : Int) : Tree (Lf EE.T × Option Bool) :=
  .bnd (shard_Which N x0 x1) fun z1 =>
  .cond (decide (x1 < 1))
  (
    .leaf (.go (w12kR4 c) (w12sR4 x0 x1 z1.1 z1.2 0), law_ShardWhich_R4 N N x0 x1 z1.1 z1.2 0))
  (
    .cond (decide (x1 > 8))
    (
      .leaf (.go (w12kR4 c) (w12sR4 x0 x1 z1.1 z1.2 0), law_ShardWhich_R4 N N x0 x1 z1.1 z1.2 0))
    (
      .bnd (ref_CheckLabels N x0) fun z2 =>
      .cond (z2 == 0)
      (
        .bnd (ref_SumOf N x0) fun z3 =>
        .bnd (remC z3 (IntKind.wrap .u64 x1)) fun z4 =>
        .leaf (.go (w12kR8 c) (w12sR8 z1.1 z1.2 z2 (w64 z4)), law_ShardWhich_R8 N N z1.1 z1.2 z2 (w64 z4)))
      (
        .leaf (.go (w12kR8 c) (w12sR8 z1.1 z1.2 z2 0), law_ShardWhich_R8 N N z1.1 z1.2 z2 0))))
theorem w12vE0 (N : Nat) (x0 : List VLabel) (x1 : Int) : evM TT EE (w12G N) w12lv w12rs 4000 true (w12kE0 (bodyOf 0 Try.f12)) (w12sE0 x0 x1) = (w12TE0 (bodyOf 0 Try.f12) N x0 x1).map1 := by kernel_rfl
theorem w12nE0 (N : Nat) (x0 : List VLabel) (x1 : Int) : law_ShardWhich N x0 x1 = (w12TE0 (bodyOf 0 Try.f12) N x0 x1).run := by kernel_rfl
theorem w12oE0 {N : Nat} {r : Bool} (x0 : List VLabel) (x1 : Int) (h : law_ShardWhich N x0 x1 = some r) : Ends (Y := TT) EE (w12G N) w12lv w12rs (fun u => u = w12enc r) (w12kE0 (bodyOf 0 Try.f12)) (w12sE0 x0 x1) :=
  tree_use (w12vE0 N x0 x1) (w12nE0 N x0 x1) h (show (w12TE0 (bodyOf 0 Try.f12) N x0 x1).all _ from fun _ => ⟨fun h => w12oR4 N _ _ _ _ _ h, ⟨fun h => w12oR4 N _ _ _ _ _ h, fun _ => ⟨fun _ => fun _ => fun h => w12oR8 N _ _ _ _ h, fun h => w12oR8 N _ _ _ _ h⟩⟩⟩)
theorem law_ShardWhich_ok {N : Nat} (x0 : List VLabel) (x1 : Int) {r : Bool} (h : law_ShardWhich N x0 x1 = some r) (ρ : Nat → Nat) : ACalls Try.prog 12 (([.a (.d (.sl (.nam 2)) x0), .a (.d (.int .i64) x1)] : List (TV EE.T)).map (TV.to EE.toEnc ρ)) [] (fun out H => out = .ret ((law_ShardWhich_u r).to EE.toEnc ρ) ∧ H = []) :=
  (fn_ok (bodyOf 0 Try.f12) 42 mixed (w12Gok N) Try.func12 (by kernel_rfl) rfl rfl rfl rfl (w12oE0 x0 x1 h) ρ).mono fun out H h => KPost.ret rfl h
def law_ShardWhich_h (N : Nat) : List (TV EE.T) → PV EE.T
  | [u0, u1] => match argD (.sl (.nam 2)) u0, argD (.int .i64) u1 with
    | some x0, some x1 => .opt (law_ShardWhich N x0 x1) law_ShardWhich_u
    | _, _ => .bad
  | _ => .bad
theorem law_ShardWhich_hok (N : Nat) (us : List (TV EE.T)) : (law_ShardWhich_h N us).ok fun u => ∀ ρ, ACalls Try.prog 12 (us.map (TV.to EE.toEnc ρ)) [] (fun out H => out = .ret (u.to EE.toEnc ρ) ∧ H = []) := by
  unfold law_ShardWhich_h
  split
  · split
    · rename_i h0 h1
      intro z hz ρ; refine acalls_le ?_ (law_ShardWhich_ok _ _ hz ρ); exact ⟨argD_le h0 ρ, argD_le h1 ρ, trivial⟩
    · trivial
  · trivial
end Go.Proofs.Ytofidfkojmbdoaa
