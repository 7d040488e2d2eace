/- The walks that prove plain functions right, written by gen/tgl.py. -/
import Derived.Test.YtmoehipmpchofaaFK01p
import Derived.Test.YtmoehipmpchofaaIN2
namespace Go.Proofs.Ytmoehipmpchofaa
open Go.RowKit P
set_option linter.unusedVariables false
set_option linter.unusedSimpArgs false
set_option maxRecDepth 100000
def wire_many_u (r : Bool) : TV EE.T := .a (.d .bool r)
def w71enc (r : Bool) : RL EE.T := .ret (wire_many_u r) []
def w71lv : Lvs := ⟨[], [(4, ⟨[(10, false), (11, false), (12, false)], [], []⟩), (9, ⟨[(10, false), (11, false), (12, false), (27, false), (28, false), (29, false)], [], []⟩)], [], [], false, [], []⟩
def w71rs : List ResultVar := [.tmp 2]
def w71G (N : Nat) : Gam EE := ⟨[], EQT, [], []⟩
theorem w71Gok (N : Nat) : GOk Try.prog TT EE (w71G N) := GOk.nil EQT_ok
def w71kL9 (c : Code) : List It2 := atL 9 c
def w71sL9 (x10 : List VSeries) (x11 : Int) (x12 : Int) (x27 : List VLabel) (x28 : Int) (x29 : Int) : TS EE.T := ⟨45, [(10, .a (.d (.sl (.nam 4)) x10)), (11, .a (.d (.int .i64) x11)), (12, .a (.d (.int .i64) x12)), (27, .a (.d (.sl (.nam 2)) x27)), (28, .a (.d (.int .i64) x28)), (29, .a (.d (.int .i64) x29))], [], []⟩
def w71kL4 (c : Code) : List It2 := atL 4 c
def w71sL4 (x10 : List VSeries) (x11 : Int) (x12 : Int) : TS EE.T := ⟨45, [(10, .a (.d (.sl (.nam 4)) x10)), (11, .a (.d (.int .i64) x11)), (12, .a (.d (.int .i64) x12))], [], []⟩
def w71kE0 (c : Code) : List It2 := [.c c]
def w71sE0 (x0 : List VSeries) : TS EE.T := ⟨45, [(0, .a (.d (.sl (.nam 4)) x0))], [], []⟩
def w71TL9 (c : Code) (N : Nat) (k4 : (List VSeries) → Int → Int → Option Bool) (n : Nat) (x10 : List VSeries) (x11 : Int) (x12 : Int) (x27 : List VLabel) (x28 : Int) (x29 : Int) : Tree (Lf EE.T × Option Bool) :=
  .cond (decide (x29 < x28))
  (
    .bnd (idxC x27 x29) fun z2 =>
    .cond (decide ((z2.Name.length : Int) > 20000))
    (
      .leaf (.done (w71enc true), some true))
    (
      .cond (decide ((z2.Value.length : Int) > 20000))
      (
        .leaf (.done (w71enc true), some true))
      (
        .leaf (.go (w71kL9 c) (w71sL9 x10 x11 x12 x27 x28 (w64 (x29 + 1))), wire_many_L9 N k4 n x10 x11 x12 x27 x28 (w64 (x29 + 1))))))
  (
    .leaf (.go (w71kL4 c) (w71sL4 x10 x11 (w64 (x12 + 1))), k4 x10 x11 (w64 (x12 + 1))))
theorem w71vL9 (N : Nat) (k4 : (List VSeries) → Int → Int → Option Bool) (n : Nat) (x10 : List VSeries) (x11 : Int) (x12 : Int) (x27 : List VLabel) (x28 : Int) (x29 : Int) : evM TT EE (w71G N) w71lv w71rs 4000 true (w71kL9 (bodyOf 0 Try.f71)) (w71sL9 x10 x11 x12 x27 x28 x29) = (w71TL9 (bodyOf 0 Try.f71) N k4 n x10 x11 x12 x27 x28 x29).map1 := by kernel_rfl
theorem w71nL9 (N : Nat) (k4 : (List VSeries) → Int → Int → Option Bool) (n : Nat) (x10 : List VSeries) (x11 : Int) (x12 : Int) (x27 : List VLabel) (x28 : Int) (x29 : Int) : wire_many_L9 N k4 (n + 1) x10 x11 x12 x27 x28 x29 = (w71TL9 (bodyOf 0 Try.f71) N k4 n x10 x11 x12 x27 x28 x29).run := by kernel_rfl
theorem w71oL9 {N : Nat} {r : Bool} {k4 : (List VSeries) → Int → Int → Option Bool} (hk4 : ∀ x10 x11 x12, k4 x10 x11 x12 = some r → Ends (Y := TT) EE (w71G N) w71lv w71rs (fun u => u = w71enc r) (w71kL4 (bodyOf 0 Try.f71)) (w71sL4 x10 x11 x12)) : ∀ (n : Nat) (x10 : List VSeries) (x11 : Int) (x12 : Int) (x27 : List VLabel) (x28 : Int) (x29 : Int), wire_many_L9 N k4 n x10 x11 x12 x27 x28 x29 = some r → Ends (Y := TT) EE (w71G N) w71lv w71rs (fun u => u = w71enc r) (w71kL9 (bodyOf 0 Try.f71)) (w71sL9 x10 x11 x12 x27 x28 x29)
  | 0, _, _, _, _, _, _, h => by cases h
  | n + 1, x10, x11, x12, x27, x28, x29, h => tree_use (w71vL9 N k4 n x10 x11 x12 x27 x28 x29) (w71nL9 N k4 n x10 x11 x12 x27 x28 x29) h (show (w71TL9 (bodyOf 0 Try.f71) N k4 n x10 x11 x12 x27 x28 x29).all _ from ⟨fun _ => ⟨retp (enc := w71enc) rfl, ⟨retp (enc := w71enc) rfl, fun h => (w71oL9 hk4 n) _ _ _ _ _ _ h⟩⟩, fun h => hk4 _ _ _ h⟩)
def w71TL4 (c : Code) (N : Nat) (n : Nat) (x10 : List VSeries) (x11 : Int) (x12 : Int) : Tree (Lf EE.T × Option Bool) :=
  .cond (decide (x12 < x11))
  (
    .bnd (idxC x10 x12) fun z1 =>
    .cond (decide ((z1.Labels.length : Int) > 20))
    (
      .leaf (.done (w71enc true), some true))
    (
      .cond (decide ((z1.Samples.length : Int) > 200))
      (
        .leaf (.done (w71enc true), some true))
      (
        .leaf (.go (w71kL9 c) (w71sL9 x10 x11 x12 z1.Labels (z1.Labels.length : Int) 0), wire_many_L9 N (wire_many_L4 N n) n x10 x11 x12 z1.Labels (z1.Labels.length : Int) 0))))
  (
    .leaf (.done (w71enc false), some false))
theorem w71vL4 (N : Nat) (n : Nat) (x10 : List VSeries) (x11 : Int) (x12 : Int) : evM TT EE (w71G N) w71lv w71rs 4000 true (w71kL4 (bodyOf 0 Try.f71)) (w71sL4 x10 x11 x12) = (w71TL4 (bodyOf 0 Try.f71) N n x10 x11 x12).map1 := by kernel_rfl
theorem w71nL4 (N : Nat) (n : Nat) (x10 : List VSeries) (x11 : Int) (x12 : Int) : wire_many_L4 N (n + 1) x10 x11 x12 = (w71TL4 (bodyOf 0 Try.f71) N n x10 x11 x12).run := by kernel_rfl
theorem w71oL4 {N : Nat} {r : Bool} : ∀ (n : Nat) (x10 : List VSeries) (x11 : Int) (x12 : Int), wire_many_L4 N n x10 x11 x12 = some r → Ends (Y := TT) EE (w71G N) w71lv w71rs (fun u => u = w71enc r) (w71kL4 (bodyOf 0 Try.f71)) (w71sL4 x10 x11 x12)
  | 0, _, _, _, h => by cases h
  | n + 1, x10, x11, x12, h => tree_use (w71vL4 N n x10 x11 x12) (w71nL4 N n x10 x11 x12) h (show (w71TL4 (bodyOf 0 Try.f71) N n x10 x11 x12).all _ from ⟨fun _ => ⟨retp (enc := w71enc) rfl, ⟨retp (enc := w71enc) rfl, fun h => w71oL9 (w71oL4 n) n _ _ _ _ _ _ h⟩⟩, retp (enc := w71enc) rfl⟩)
def w71TE0 (c : Code) (N : Nat) (x0 : List VSeries) : Tree (Lf EE.T × Option Bool) :=
  .cond (decide ((x0.length : Int) > 200))
  (
    .leaf (.done (w71enc true), some true))
  (
    .leaf (.go (w71kL4 c) (w71sL4 x0 (x0.length : Int) 0), wire_many_L4 N N x0 (x0.length : Int) 0))
theorem w71vE0 (N : Nat) (x0 : List VSeries) : evM TT EE (w71G N) w71lv w71rs 4000 true (w71kE0 (bodyOf 0 Try.f71)) (w71sE0 x0) = (w71TE0 (bodyOf 0 Try.f71) N x0).map1 := by kernel_rfl
theorem w71nE0 (N : Nat) (x0 : List VSeries) : wire_many N x0 = (w71TE0 (bodyOf 0 Try.f71) N x0).run := by kernel_rfl
theorem w71oE0 {N : Nat} {r : Bool} (x0 : List VSeries) (h : wire_many N x0 = some r) : Ends (Y := TT) EE (w71G N) w71lv w71rs (fun u => u = w71enc r) (w71kE0 (bodyOf 0 Try.f71)) (w71sE0 x0) :=
  tree_use (w71vE0 N x0) (w71nE0 N x0) h (show (w71TE0 (bodyOf 0 Try.f71) N x0).all _ from ⟨retp (enc := w71enc) rfl, fun h => w71oL4 N _ _ _ h⟩)
theorem wire_many_ok {N : Nat} (x0 : List VSeries) {r : Bool} (h : wire_many N x0 = some r) (ρ : Nat → Nat) : ACalls Try.prog 71 (([.a (.d (.sl (.nam 4)) x0)] : List (TV EE.T)).map (TV.to EE.toEnc ρ)) [] (fun out H => out = .ret ((wire_many_u r).to EE.toEnc ρ) ∧ H = []) :=
  (fn_ok (bodyOf 0 Try.f71) 45 mixed (w71Gok N) Try.func71 (by kernel_rfl) rfl rfl rfl rfl (w71oE0 x0 h) ρ).mono fun out H h => KPost.ret rfl h
def wire_many_h (N : Nat) : List (TV EE.T) → PV EE.T
  | [u0] => match argD (.sl (.nam 4)) u0 with
    | some x0 => .opt (wire_many N x0) wire_many_u
    | _ => .bad
  | _ => .bad
theorem wire_many_hok (N : Nat) (us : List (TV EE.T)) : (wire_many_h N us).ok fun u => ∀ ρ, ACalls Try.prog 71 (us.map (TV.to EE.toEnc ρ)) [] (fun out H => out = .ret (u.to EE.toEnc ρ) ∧ H = []) := by
  unfold wire_many_h
  split
  · split
    · rename_i h0
      intro z hz ρ; refine acalls_le ?_ (wire_many_ok _ hz ρ); exact ⟨argD_le h0 ρ, trivial⟩
    · trivial
  · trivial
def wire_isTime_u (r : Bool) : TV EE.T := .a (.d .bool r)
def w88enc (r : Bool) : RL EE.T := .ret (wire_isTime_u r) []
def w88lv : Lvs := ⟨[], [], [], [], false, [], []⟩
def w88rs : List ResultVar := [.tmp 2]
def w88G (N : Nat) : Gam EE := ⟨[], EQT, [], []⟩
theorem w88Gok (N : Nat) : GOk Try.prog TT EE (w88G N) := GOk.nil EQT_ok
def w88kE0 (c : Code) : List It2 := [.c c]
def w88sE0 (x0 : Int) : TS EE.T := ⟨9, [(0, .a (.d (.int .i64) x0))], [], []⟩
def w88TE0 (c : Code) (N : Nat) (x0 : Int) : Tree (Lf EE.T × Option Bool) :=
  .cond (decide (x0 ≥ (-9007199254740991)))
  (
    .leaf (.done (w88enc (decide (x0 ≤ 9007199254740991))), some (decide (x0 ≤ 9007199254740991))))
  (
    .leaf (.done (w88enc false), some false))
theorem w88vE0 (N : Nat) (x0 : Int) : evM TT EE (w88G N) w88lv w88rs 4000 true (w88kE0 (bodyOf 0 Try.f88)) (w88sE0 x0) = (w88TE0 (bodyOf 0 Try.f88) N x0).map1 := by kernel_rfl
theorem w88nE0 (N : Nat) (x0 : Int) : wire_isTime N x0 = (w88TE0 (bodyOf 0 Try.f88) N x0).run := by kernel_rfl
theorem w88oE0 {N : Nat} {r : Bool} (x0 : Int) (h : wire_isTime N x0 = some r) : Ends (Y := TT) EE (w88G N) w88lv w88rs (fun u => u = w88enc r) (w88kE0 (bodyOf 0 Try.f88)) (w88sE0 x0) :=
  tree_use (w88vE0 N x0) (w88nE0 N x0) h (show (w88TE0 (bodyOf 0 Try.f88) N x0).all _ from ⟨retp (enc := w88enc) rfl, retp (enc := w88enc) rfl⟩)
theorem wire_isTime_ok {N : Nat} (x0 : Int) {r : Bool} (h : wire_isTime N x0 = some r) (ρ : Nat → Nat) : ACalls Try.prog 88 (([.a (.d (.int .i64) x0)] : List (TV EE.T)).map (TV.to EE.toEnc ρ)) [] (fun out H => out = .ret ((wire_isTime_u r).to EE.toEnc ρ) ∧ H = []) :=
  (fn_ok (bodyOf 0 Try.f88) 9 mixed (w88Gok N) Try.func88 (by kernel_rfl) rfl rfl rfl rfl (w88oE0 x0 h) ρ).mono fun out H h => KPost.ret rfl h
def wire_isTime_h (N : Nat) : List (TV EE.T) → PV EE.T
  | [u0] => match argD (.int .i64) u0 with
    | some x0 => .opt (wire_isTime N x0) wire_isTime_u
    | _ => .bad
  | _ => .bad
theorem wire_isTime_hok (N : Nat) (us : List (TV EE.T)) : (wire_isTime_h N us).ok fun u => ∀ ρ, ACalls Try.prog 88 (us.map (TV.to EE.toEnc ρ)) [] (fun out H => out = .ret (u.to EE.toEnc ρ) ∧ H = []) := by
  unfold wire_isTime_h
  split
  · split
    · rename_i h0
      intro z hz ρ; refine acalls_le ?_ (wire_isTime_ok _ hz ρ); exact ⟨argD_le h0 ρ, trivial⟩
    · trivial
  · trivial
def wire_times_u (r : Bool) : TV EE.T := .a (.d .bool r)
def w72enc (r : Bool) : RL EE.T := .ret (wire_times_u r) []
def w72lv : Lvs := ⟨[], [(2, ⟨[(7, false), (8, false), (9, false)], [], []⟩), (5, ⟨[(7, false), (8, false), (9, false), (14, false), (15, false), (16, false)], [], []⟩)], [], [], false, [], []⟩
def w72rs : List ResultVar := [.tmp 2]
def w72G (N : Nat) : Gam EE := ⟨[⟨88, wire_isTime_h N⟩], EQT, [], []⟩
theorem w72Gok (N : Nat) : GOk Try.prog TT EE (w72G N) := GOk.cons (wire_isTime_hok N) (GOk.nil EQT_ok)
def w72kL5 (c : Code) : List It2 := atL 5 c
def w72sL5 (x7 : List VSeries) (x8 : Int) (x9 : Int) (x14 : List VSample) (x15 : Int) (x16 : Int) : TS EE.T := ⟨26, [(7, .a (.d (.sl (.nam 4)) x7)), (8, .a (.d (.int .i64) x8)), (9, .a (.d (.int .i64) x9)), (14, .a (.d (.sl (.nam 3)) x14)), (15, .a (.d (.int .i64) x15)), (16, .a (.d (.int .i64) x16))], [], []⟩
def w72kL2 (c : Code) : List It2 := atL 2 c
def w72sL2 (x7 : List VSeries) (x8 : Int) (x9 : Int) : TS EE.T := ⟨26, [(7, .a (.d (.sl (.nam 4)) x7)), (8, .a (.d (.int .i64) x8)), (9, .a (.d (.int .i64) x9))], [], []⟩
def w72kE0 (c : Code) : List It2 := [.c c]
def w72sE0 (x0 : List VSeries) : TS EE.T := ⟨26, [(0, .a (.d (.sl (.nam 4)) x0))], [], []⟩
def w72TL5 (c : Code) (N : Nat) (k2 : (List VSeries) → Int → Int → Option Bool) (n : Nat) (x7 : List VSeries) (x8 : Int) (x9 : Int) (x14 : List VSample) (x15 : Int) (x16 : Int) : Tree (Lf EE.T × Option Bool) :=
  .cond (decide (x16 < x15))
  (
    .bnd (idxC x14 x16) fun z2 =>
    .bnd (wire_isTime N z2.Time) fun z3 =>
    .cond (!z3)
    (
      .leaf (.done (w72enc false), some false))
    (
      .leaf (.go (w72kL5 c) (w72sL5 x7 x8 x9 x14 x15 (w64 (x16 + 1))), wire_times_L5 N k2 n x7 x8 x9 x14 x15 (w64 (x16 + 1)))))
  (
    .leaf (.go (w72kL2 c) (w72sL2 x7 x8 (w64 (x9 + 1))), k2 x7 x8 (w64 (x9 + 1))))
theorem w72vL5 (N : Nat) (k2 : (List VSeries) → Int → Int → Option Bool) (n : Nat) (x7 : List VSeries) (x8 : Int) (x9 : Int) (x14 : List VSample) (x15 : Int) (x16 : Int) : evM TT EE (w72G N) w72lv w72rs 4000 true (w72kL5 (bodyOf 0 Try.f72)) (w72sL5 x7 x8 x9 x14 x15 x16) = (w72TL5 (bodyOf 0 Try.f72) N k2 n x7 x8 x9 x14 x15 x16).map1 := by kernel_rfl
theorem w72nL5 (N : Nat) (k2 : (List VSeries) → Int → Int → Option Bool) (n : Nat) (x7 : List VSeries) (x8 : Int) (x9 : Int) (x14 : List VSample) (x15 : Int) (x16 : Int) : wire_times_L5 N k2 (n + 1) x7 x8 x9 x14 x15 x16 = (w72TL5 (bodyOf 0 Try.f72) N k2 n x7 x8 x9 x14 x15 x16).run := by kernel_rfl
theorem w72oL5 {N : Nat} {r : Bool} {k2 : (List VSeries) → Int → Int → Option Bool} (hk2 : ∀ x7 x8 x9, k2 x7 x8 x9 = some r → Ends (Y := TT) EE (w72G N) w72lv w72rs (fun u => u = w72enc r) (w72kL2 (bodyOf 0 Try.f72)) (w72sL2 x7 x8 x9)) : ∀ (n : Nat) (x7 : List VSeries) (x8 : Int) (x9 : Int) (x14 : List VSample) (x15 : Int) (x16 : Int), wire_times_L5 N k2 n x7 x8 x9 x14 x15 x16 = some r → Ends (Y := TT) EE (w72G N) w72lv w72rs (fun u => u = w72enc r) (w72kL5 (bodyOf 0 Try.f72)) (w72sL5 x7 x8 x9 x14 x15 x16)
  | 0, _, _, _, _, _, _, h => by cases h
  | n + 1, x7, x8, x9, x14, x15, x16, h => tree_use (w72vL5 N k2 n x7 x8 x9 x14 x15 x16) (w72nL5 N k2 n x7 x8 x9 x14 x15 x16) h (show (w72TL5 (bodyOf 0 Try.f72) N k2 n x7 x8 x9 x14 x15 x16).all _ from ⟨fun _ => fun _ => ⟨retp (enc := w72enc) rfl, fun h => (w72oL5 hk2 n) _ _ _ _ _ _ h⟩, fun h => hk2 _ _ _ h⟩)
def w72TL2 (c : Code) (N : Nat) (n : Nat) (x7 : List VSeries) (x8 : Int) (x9 : Int) : Tree (Lf EE.T × Option Bool) :=
  .cond (decide (x9 < x8))
  (
    .bnd (idxC x7 x9) fun z1 =>
    .leaf (.go (w72kL5 c) (w72sL5 x7 x8 x9 z1.Samples (z1.Samples.length : Int) 0), wire_times_L5 N (wire_times_L2 N n) n x7 x8 x9 z1.Samples (z1.Samples.length : Int) 0))
  (
    .leaf (.done (w72enc true), some true))
theorem w72vL2 (N : Nat) (n : Nat) (x7 : List VSeries) (x8 : Int) (x9 : Int) : evM TT EE (w72G N) w72lv w72rs 4000 true (w72kL2 (bodyOf 0 Try.f72)) (w72sL2 x7 x8 x9) = (w72TL2 (bodyOf 0 Try.f72) N n x7 x8 x9).map1 := by kernel_rfl
theorem w72nL2 (N : Nat) (n : Nat) (x7 : List VSeries) (x8 : Int) (x9 : Int) : wire_times_L2 N (n + 1) x7 x8 x9 = (w72TL2 (bodyOf 0 Try.f72) N n x7 x8 x9).run := by kernel_rfl
theorem w72oL2 {N : Nat} {r : Bool} : ∀ (n : Nat) (x7 : List VSeries) (x8 : Int) (x9 : Int), wire_times_L2 N n x7 x8 x9 = some r → Ends (Y := TT) EE (w72G N) w72lv w72rs (fun u => u = w72enc r) (w72kL2 (bodyOf 0 Try.f72)) (w72sL2 x7 x8 x9)
  | 0, _, _, _, h => by cases h
  | n + 1, x7, x8, x9, h => tree_use (w72vL2 N n x7 x8 x9) (w72nL2 N n x7 x8 x9) h (show (w72TL2 (bodyOf 0 Try.f72) N n x7 x8 x9).all _ from ⟨fun _ => fun h => w72oL5 (w72oL2 n) n _ _ _ _ _ _ h, retp (enc := w72enc) rfl⟩)
def w72TE0 (c : Code) (N : Nat) (x0 : List VSeries) : Tree (Lf EE.T × Option Bool) :=
  .leaf (.go (w72kL2 c) (w72sL2 x0 (x0.length : Int) 0), wire_times_L2 N N x0 (x0.length : Int) 0)
theorem w72vE0 (N : Nat) (x0 : List VSeries) : evM TT EE (w72G N) w72lv w72rs 4000 true (w72kE0 (bodyOf 0 Try.f72)) (w72sE0 x0) = (w72TE0 (bodyOf 0 Try.f72) N x0).map1 := by kernel_rfl
theorem w72nE0 (N : Nat) (x0 : List VSeries) : wire_times N x0 = (w72TE0 (bodyOf 0 Try.f72) N x0).run := by kernel_rfl
theorem w72oE0 {N : Nat} {r : Bool} (x0 : List VSeries) (h : wire_times N x0 = some r) : Ends (Y := TT) EE (w72G N) w72lv w72rs (fun u => u = w72enc r) (w72kE0 (bodyOf 0 Try.f72)) (w72sE0 x0) :=
  tree_use (w72vE0 N x0) (w72nE0 N x0) h (show (w72TE0 (bodyOf 0 Try.f72) N x0).all _ from fun h => w72oL2 N _ _ _ h)
theorem wire_times_ok {N : Nat} (x0 : List VSeries) {r : Bool} (h : wire_times N x0 = some r) (ρ : Nat → Nat) : ACalls Try.prog 72 (([.a (.d (.sl (.nam 4)) x0)] : List (TV EE.T)).map (TV.to EE.toEnc ρ)) [] (fun out H => out = .ret ((wire_times_u r).to EE.toEnc ρ) ∧ H = []) :=
  (fn_ok (bodyOf 0 Try.f72) 26 mixed (w72Gok N) Try.func72 (by kernel_rfl) rfl rfl rfl rfl (w72oE0 x0 h) ρ).mono fun out H h => KPost.ret rfl h
def wire_times_h (N : Nat) : List (TV EE.T) → PV EE.T
  | [u0] => match argD (.sl (.nam 4)) u0 with
    | some x0 => .opt (wire_times N x0) wire_times_u
    | _ => .bad
  | _ => .bad
theorem wire_times_hok (N : Nat) (us : List (TV EE.T)) : (wire_times_h N us).ok fun u => ∀ ρ, ACalls Try.prog 72 (us.map (TV.to EE.toEnc ρ)) [] (fun out H => out = .ret (u.to EE.toEnc ρ) ∧ H = []) := by
  unfold wire_times_h
  split
  · split
    · rename_i h0
      intro z hz ρ; refine acalls_le ?_ (wire_times_ok _ hz ρ); exact ⟨argD_le h0 ρ, trivial⟩
    · trivial
  · trivial
def wire_check_u (r : Int) : TV EE.T := .a (.d (.int .i64) r)
def w43enc (r : Int) : RL EE.T := .ret (wire_check_u r) []
def w43lv : Lvs := ⟨[], [], [], [], false, [], []⟩
def w43rs : List ResultVar := [.tmp 2]
def w43G (N : Nat) : Gam EE := ⟨[⟨71, wire_many_h N⟩, ⟨72, wire_times_h N⟩], EQT, [], []⟩
theorem w43Gok (N : Nat) : GOk Try.prog TT EE (w43G N) := GOk.cons (wire_many_hok N) (GOk.cons (wire_times_hok N) (GOk.nil EQT_ok))
def w43kE0 (c : Code) : List It2 := [.c c]
def w43sE0 (x0 : List VSeries) : TS EE.T := ⟨10, [(0, .a (.d (.sl (.nam 4)) x0))], [], []⟩
def w43TE0 (c : Code) (N : Nat) (x0 : List VSeries) : Tree (Lf EE.T × Option Int) :=
  .bnd (wire_many N x0) fun z1 =>
  .cond (z1)
  (
    .leaf (.done (w43enc 2), some 2))
  (
    .bnd (wire_times N x0) fun z2 =>
    .cond (!z2)
    (
      .leaf (.done (w43enc 3), some 3))
    (
      .leaf (.done (w43enc 0), some 0)))
theorem w43vE0 (N : Nat) (x0 : List VSeries) : evM TT EE (w43G N) w43lv w43rs 4000 true (w43kE0 (bodyOf 0 Try.f43)) (w43sE0 x0) = (w43TE0 (bodyOf 0 Try.f43) N x0).map1 := by kernel_rfl
theorem w43nE0 (N : Nat) (x0 : List VSeries) : wire_check N x0 = (w43TE0 (bodyOf 0 Try.f43) N x0).run := by kernel_rfl
theorem w43oE0 {N : Nat} {r : Int} (x0 : List VSeries) (h : wire_check N x0 = some r) : Ends (Y := TT) EE (w43G N) w43lv w43rs (fun u => u = w43enc r) (w43kE0 (bodyOf 0 Try.f43)) (w43sE0 x0) :=
  tree_use (w43vE0 N x0) (w43nE0 N x0) h (show (w43TE0 (bodyOf 0 Try.f43) N x0).all _ from fun _ => ⟨retp (enc := w43enc) rfl, fun _ => ⟨retp (enc := w43enc) rfl, retp (enc := w43enc) rfl⟩⟩)
theorem wire_check_ok {N : Nat} (x0 : List VSeries) {r : Int} (h : wire_check N x0 = some r) (ρ : Nat → Nat) : ACalls Try.prog 43 (([.a (.d (.sl (.nam 4)) x0)] : List (TV EE.T)).map (TV.to EE.toEnc ρ)) [] (fun out H => out = .ret ((wire_check_u r).to EE.toEnc ρ) ∧ H = []) :=
  (fn_ok (bodyOf 0 Try.f43) 10 mixed (w43Gok N) Try.func43 (by kernel_rfl) rfl rfl rfl rfl (w43oE0 x0 h) ρ).mono fun out H h => KPost.ret rfl h
def wire_check_h (N : Nat) : List (TV EE.T) → PV EE.T
  | [u0] => match argD (.sl (.nam 4)) u0 with
    | some x0 => .opt (wire_check N x0) wire_check_u
    | _ => .bad
  | _ => .bad
theorem wire_check_hok (N : Nat) (us : List (TV EE.T)) : (wire_check_h N us).ok fun u => ∀ ρ, ACalls Try.prog 43 (us.map (TV.to EE.toEnc ρ)) [] (fun out H => out = .ret (u.to EE.toEnc ρ) ∧ H = []) := by
  unfold wire_check_h
  split
  · split
    · rename_i h0
      intro z hz ρ; refine acalls_le ?_ (wire_check_ok _ hz ρ); exact ⟨argD_le h0 ρ, trivial⟩
    · trivial
  · trivial
def take_many_1_u (r : Bool) : TV EE.T := .a (.d .bool r)
def w49enc (r : Bool) : RL EE.T := .ret (take_many_1_u r) []
def w49lv : Lvs := ⟨[], [], [], [], false, [], []⟩
def w49rs : List ResultVar := [.tmp 2]
def w49G (N : Nat) : Gam EE := ⟨[], EQT, [], []⟩
theorem w49Gok (N : Nat) : GOk Try.prog TT EE (w49G N) := GOk.nil EQT_ok
def w49kE0 (c : Code) : List It2 := [.c c]
def w49sE0 (x0 : VSeries) : TS EE.T := ⟨7, [(0, .ag (unpT EE (.nam 4) x0))], [], []⟩
def w49TE0 (c : Code) (N : Nat) (x0 : VSeries) : Tree (Lf EE.T × Option Bool) :=
  .leaf (.done (w49enc (decide ((x0.Samples.length : Int) > 5000))), some (decide ((x0.Samples.length : Int) > 5000)))
theorem w49vE0 (N : Nat) (x0 : VSeries) : evM TT EE (w49G N) w49lv w49rs 4000 true (w49kE0 (bodyOf 0 Try.f49)) (w49sE0 x0) = (w49TE0 (bodyOf 0 Try.f49) N x0).map1 := by kernel_rfl
theorem w49nE0 (N : Nat) (x0 : VSeries) : take_many_1 N x0 = (w49TE0 (bodyOf 0 Try.f49) N x0).run := by kernel_rfl
theorem w49oE0 {N : Nat} {r : Bool} (x0 : VSeries) (h : take_many_1 N x0 = some r) : Ends (Y := TT) EE (w49G N) w49lv w49rs (fun u => u = w49enc r) (w49kE0 (bodyOf 0 Try.f49)) (w49sE0 x0) :=
  tree_use (w49vE0 N x0) (w49nE0 N x0) h (show (w49TE0 (bodyOf 0 Try.f49) N x0).all _ from retp (enc := w49enc) rfl)
theorem take_many_1_ok {N : Nat} (x0 : VSeries) {r : Bool} (h : take_many_1 N x0 = some r) (ρ : Nat → Nat) : ACalls Try.prog 49 (([.ag (unpT EE (.nam 4) x0)] : List (TV EE.T)).map (TV.to EE.toEnc ρ)) [] (fun out H => out = .ret ((take_many_1_u r).to EE.toEnc ρ) ∧ H = []) :=
  (fn_ok (bodyOf 0 Try.f49) 7 mixed (w49Gok N) Try.func49 (by kernel_rfl) rfl rfl rfl rfl (w49oE0 x0 h) ρ).mono fun out H h => KPost.ret rfl h
def take_many_1_h (N : Nat) : List (TV EE.T) → PV EE.T
  | [u0] => match argS EE 4 u0 with
    | some x0 => .opt (take_many_1 N x0) take_many_1_u
    | _ => .bad
  | _ => .bad
theorem take_many_1_hok (N : Nat) (us : List (TV EE.T)) : (take_many_1_h N us).ok fun u => ∀ ρ, ACalls Try.prog 49 (us.map (TV.to EE.toEnc ρ)) [] (fun out H => out = .ret (u.to EE.toEnc ρ) ∧ H = []) := by
  unfold take_many_1_h
  split
  · split
    · rename_i h0
      intro z hz ρ; refine acalls_le ?_ (take_many_1_ok _ hz ρ); exact ⟨argS_le h0 ρ, trivial⟩
    · trivial
  · trivial
def slices_IndexFunc_api_Series_api_Series__i0_u (r : Int) : TV EE.T := .a (.d (.int .i64) r)
def w73i0hh (r : Int) : List (Nat × TB EE.T) := []
def w73i0enc (r : Int) : RL EE.T := .ret (slices_IndexFunc_api_Series_api_Series__i0_u r) (w73i0hh r)
def w73i0lv : Lvs := ⟨[], [(2, ⟨[(0, false), (1, false), (7, false), (8, false)], [], []⟩)], [], [], false, [], []⟩
def w73i0rs : List ResultVar := [.tmp 4]
def w73i0G (N : Nat) : Gam EE := ⟨[], EQT, [⟨49, xOf (take_many_1_h N)⟩], []⟩
theorem w73i0Gok (N : Nat) : GOk Try.prog TT EE (w73i0G N) := GOk.consx (xOf_ok (take_many_1_hok N)) (GOk.nil EQT_ok)
def w73i0kL2 (c : Code) : List It2 := atL 2 c
def w73i0sL2 (x0 : List VSeries) (x7 : Int) (x8 : Int) : TS EE.T := ⟨19, [(0, .a (.d (.sl (.nam 4)) x0)), (1, .fn 49 []), (7, .a (.d (.int .i64) x7)), (8, .a (.d (.int .i64) x8))], [], []⟩
def w73i0kE0 (c : Code) : List It2 := [.c c]
def w73i0sE0 (x0 : List VSeries) : TS EE.T := ⟨19, [(0, .a (.d (.sl (.nam 4)) x0)), (1, .fn 49 [])], [], []⟩
def w73i0TL2 (c : Code) (N : Nat) (n : Nat) (x0 : List VSeries) (x7 : Int) (x8 : Int) : Tree (Lf EE.T × Option Int) :=
  .cond (decide (x8 < x7))
  (
    .bnd (idxC x0 x8) fun z1 =>
    .bnd (take_many_1 N z1) fun z2 =>
    .cond (z2)
    (
      .leaf (.done (w73i0enc x8), some x8))
    (
      .leaf (.go (w73i0kL2 c) (w73i0sL2 x0 x7 (w64 (x8 + 1))), slices_IndexFunc_api_Series_api_Series__i0_L2 N n x0 x7 (w64 (x8 + 1)))))
  (
    .leaf (.done (w73i0enc (-1)), some (-1)))
theorem w73i0vL2 (N : Nat) (n : Nat) (x0 : List VSeries) (x7 : Int) (x8 : Int) : evM TT EE (w73i0G N) w73i0lv w73i0rs 4000 true (w73i0kL2 (bodyOf 0 Try.f73)) (w73i0sL2 x0 x7 x8) = (w73i0TL2 (bodyOf 0 Try.f73) N n x0 x7 x8).map1 := by kernel_rfl
theorem w73i0nL2 (N : Nat) (n : Nat) (x0 : List VSeries) (x7 : Int) (x8 : Int) : slices_IndexFunc_api_Series_api_Series__i0_L2 N (n + 1) x0 x7 x8 = (w73i0TL2 (bodyOf 0 Try.f73) N n x0 x7 x8).run := by kernel_rfl
theorem w73i0oL2 {N : Nat} {r : Int} : ∀ (n : Nat) (x0 : List VSeries) (x7 : Int) (x8 : Int), slices_IndexFunc_api_Series_api_Series__i0_L2 N n x0 x7 x8 = some r → Ends (Y := TT) EE (w73i0G N) w73i0lv w73i0rs (fun u => u = w73i0enc r) (w73i0kL2 (bodyOf 0 Try.f73)) (w73i0sL2 x0 x7 x8)
  | 0, _, _, _, h => by cases h
  | n + 1, x0, x7, x8, h => tree_use (w73i0vL2 N n x0 x7 x8) (w73i0nL2 N n x0 x7 x8) h (show (w73i0TL2 (bodyOf 0 Try.f73) N n x0 x7 x8).all _ from ⟨fun _ => fun _ => ⟨retp (enc := w73i0enc) rfl, fun h => (w73i0oL2 n) _ _ _ h⟩, retp (enc := w73i0enc) rfl⟩)
def w73i0TE0 (c : Code) (N : Nat) (x0 : List VSeries) : Tree (Lf EE.T × Option Int) :=
  .leaf (.go (w73i0kL2 c) (w73i0sL2 x0 (x0.length : Int) 0), slices_IndexFunc_api_Series_api_Series__i0_L2 N N x0 (x0.length : Int) 0)
theorem w73i0vE0 (N : Nat) (x0 : List VSeries) : evM TT EE (w73i0G N) w73i0lv w73i0rs 4000 true (w73i0kE0 (bodyOf 0 Try.f73)) (w73i0sE0 x0) = (w73i0TE0 (bodyOf 0 Try.f73) N x0).map1 := by kernel_rfl
theorem w73i0nE0 (N : Nat) (x0 : List VSeries) : slices_IndexFunc_api_Series_api_Series__i0 N x0 = (w73i0TE0 (bodyOf 0 Try.f73) N x0).run := by kernel_rfl
theorem w73i0oE0 {N : Nat} {r : Int} (x0 : List VSeries) (h : slices_IndexFunc_api_Series_api_Series__i0 N x0 = some r) : Ends (Y := TT) EE (w73i0G N) w73i0lv w73i0rs (fun u => u = w73i0enc r) (w73i0kE0 (bodyOf 0 Try.f73)) (w73i0sE0 x0) :=
  tree_use (w73i0vE0 N x0) (w73i0nE0 N x0) h (show (w73i0TE0 (bodyOf 0 Try.f73) N x0).all _ from fun h => w73i0oL2 N _ _ _ h)
def w73i0us (x0 : List VSeries) : List (TV EE.T) := [.a (.d (.sl (.nam 4)) x0), .fn 49 []]
def w73i0h0 (x0 : List VSeries) : List (Nat × TB EE.T) := []
theorem slices_IndexFunc_api_Series_api_Series__i0_ok {N : Nat} (x0 : List VSeries) {r : Int} (h : slices_IndexFunc_api_Series_api_Series__i0 N x0 = some r) (ρ : Nat → Nat) (hi : Inj ρ (w73i0h0 x0)) : ACalls Try.prog 73 ((w73i0us x0).map (TV.to EE.toEnc ρ)) (hTo EE.toEnc ρ (w73i0h0 x0)) (fun out H => out = .ret ((slices_IndexFunc_api_Series_api_Series__i0_u r).to EE.toEnc ρ) ∧ H = hTo EE.toEnc ρ (w73i0hh r)) :=
  (fn_okH (bodyOf 0 Try.f73) 19 mixed (w73i0Gok N) Try.func73 (by kernel_rfl) rfl rfl rfl rfl (w73i0oE0 x0 h) ρ hi).mono fun out H h => KPost.retH rfl rfl h
def slices_IndexFunc_api_Series_api_Series__i0_h (N : Nat) (us : List (TV EE.T)) (hs : List (Nat × TB EE.T)) : XR EE.T :=
  gdX (lenX us 2) <|
  bnX (aD (.sl (.nam 4)) us 0) fun x0 =>
  bnX (aF 49 us 1) fun c1 =>
  bnX (cbs c1) fun s1 =>
  gdX (lenX s1 0) <|
  gdX (goodIds hs []) <|
  .ret (slices_IndexFunc_api_Series_api_Series__i0 N x0) [] slices_IndexFunc_api_Series_api_Series__i0_u (w73i0hh)
theorem slices_IndexFunc_api_Series_api_Series__i0_hok (N : Nat) : XOk Try.prog EE 73 (slices_IndexFunc_api_Series_api_Series__i0_h N) := fun us hs =>
  gdX_ok fun h1 => bnX_ok fun x0 h2 => bnX_ok fun c1 h3 => bnX_ok fun s1 h4 => gdX_ok fun h5 => gdX_ok fun h6 => fun z hz => ⟨rfl, fun ρ hi => xcall (us' := w73i0us x0) (h0 := w73i0h0 x0) (ρ' := rhoS ρ []) ⟨aD_le h2, aF_le (js := []) h3 h4 (by rw [lis0 (lenX_ok h5)];  kernel_rfl), lenX_ok h1⟩ trivial (slices_IndexFunc_api_Series_api_Series__i0_ok x0 hz _ (rhoS_inj hi h6 _ (by kernel_rfl))) (fun out H h => ⟨h.1.trans (by kernel_rfl), h.2.trans (by kernel_rfl)⟩)⟩
def slices_ContainsFunc_api_Series_api_Series__i0_u (r : Bool) : TV EE.T := .a (.d .bool r)
def w48i0hh (r : Bool) : List (Nat × TB EE.T) := []
def w48i0enc (r : Bool) : RL EE.T := .ret (slices_ContainsFunc_api_Series_api_Series__i0_u r) (w48i0hh r)
def w48i0lv : Lvs := ⟨[], [], [], [], false, [], []⟩
def w48i0rs : List ResultVar := [.tmp 4]
def w48i0G (N : Nat) : Gam EE := ⟨[], EQT, [⟨73, slices_IndexFunc_api_Series_api_Series__i0_h N⟩], []⟩
theorem w48i0Gok (N : Nat) : GOk Try.prog TT EE (w48i0G N) := GOk.consx (slices_IndexFunc_api_Series_api_Series__i0_hok N) (GOk.nil EQT_ok)
def w48i0kE0 (c : Code) : List It2 := [.c c]
def w48i0sE0 (x0 : List VSeries) : TS EE.T := ⟨9, [(0, .a (.d (.sl (.nam 4)) x0)), (1, .fn 49 [])], [], []⟩
def w48i0TE0 (c : Code) (N : Nat) (x0 : List VSeries) : Tree (Lf EE.T × Option Bool) :=
  .bnd (slices_IndexFunc_api_Series_api_Series__i0 N x0) fun z1 =>
  .leaf (.done (w48i0enc (decide (z1 ≥ 0))), some (decide (z1 ≥ 0)))
theorem w48i0vE0 (N : Nat) (x0 : List VSeries) : evM TT EE (w48i0G N) w48i0lv w48i0rs 4000 true (w48i0kE0 (bodyOf 0 Try.f48)) (w48i0sE0 x0) = (w48i0TE0 (bodyOf 0 Try.f48) N x0).map1 := by kernel_rfl
theorem w48i0nE0 (N : Nat) (x0 : List VSeries) : slices_ContainsFunc_api_Series_api_Series__i0 N x0 = (w48i0TE0 (bodyOf 0 Try.f48) N x0).run := by kernel_rfl
theorem w48i0oE0 {N : Nat} {r : Bool} (x0 : List VSeries) (h : slices_ContainsFunc_api_Series_api_Series__i0 N x0 = some r) : Ends (Y := TT) EE (w48i0G N) w48i0lv w48i0rs (fun u => u = w48i0enc r) (w48i0kE0 (bodyOf 0 Try.f48)) (w48i0sE0 x0) :=
  tree_use (w48i0vE0 N x0) (w48i0nE0 N x0) h (show (w48i0TE0 (bodyOf 0 Try.f48) N x0).all _ from fun _ => retp (enc := w48i0enc) rfl)
def w48i0us (x0 : List VSeries) : List (TV EE.T) := [.a (.d (.sl (.nam 4)) x0), .fn 49 []]
def w48i0h0 (x0 : List VSeries) : List (Nat × TB EE.T) := []
theorem slices_ContainsFunc_api_Series_api_Series__i0_ok {N : Nat} (x0 : List VSeries) {r : Bool} (h : slices_ContainsFunc_api_Series_api_Series__i0 N x0 = some r) (ρ : Nat → Nat) (hi : Inj ρ (w48i0h0 x0)) : ACalls Try.prog 48 ((w48i0us x0).map (TV.to EE.toEnc ρ)) (hTo EE.toEnc ρ (w48i0h0 x0)) (fun out H => out = .ret ((slices_ContainsFunc_api_Series_api_Series__i0_u r).to EE.toEnc ρ) ∧ H = hTo EE.toEnc ρ (w48i0hh r)) :=
  (fn_okH (bodyOf 0 Try.f48) 9 mixed (w48i0Gok N) Try.func48 (by kernel_rfl) rfl rfl rfl rfl (w48i0oE0 x0 h) ρ hi).mono fun out H h => KPost.retH rfl rfl h
def slices_ContainsFunc_api_Series_api_Series__i0_h (N : Nat) (us : List (TV EE.T)) (hs : List (Nat × TB EE.T)) : XR EE.T :=
  gdX (lenX us 2) <|
  bnX (aD (.sl (.nam 4)) us 0) fun x0 =>
  bnX (aF 49 us 1) fun c1 =>
  bnX (cbs c1) fun s1 =>
  gdX (lenX s1 0) <|
  gdX (goodIds hs []) <|
  .ret (slices_ContainsFunc_api_Series_api_Series__i0 N x0) [] slices_ContainsFunc_api_Series_api_Series__i0_u (w48i0hh)
theorem slices_ContainsFunc_api_Series_api_Series__i0_hok (N : Nat) : XOk Try.prog EE 48 (slices_ContainsFunc_api_Series_api_Series__i0_h N) := fun us hs =>
  gdX_ok fun h1 => bnX_ok fun x0 h2 => bnX_ok fun c1 h3 => bnX_ok fun s1 h4 => gdX_ok fun h5 => gdX_ok fun h6 => fun z hz => ⟨rfl, fun ρ hi => xcall (us' := w48i0us x0) (h0 := w48i0h0 x0) (ρ' := rhoS ρ []) ⟨aD_le h2, aF_le (js := []) h3 h4 (by rw [lis0 (lenX_ok h5)];  kernel_rfl), lenX_ok h1⟩ trivial (slices_ContainsFunc_api_Series_api_Series__i0_ok x0 hz _ (rhoS_inj hi h6 _ (by kernel_rfl))) (fun out H h => ⟨h.1.trans (by kernel_rfl), h.2.trans (by kernel_rfl)⟩)⟩
def take_many_u (r : Bool) : TV EE.T := .a (.d .bool r)
def w22enc (r : Bool) : RL EE.T := .ret (take_many_u r) []
def w22lv : Lvs := ⟨[], [], [], [], false, [], []⟩
def w22rs : List ResultVar := [.tmp 2]
def w22G (N : Nat) : Gam EE := ⟨[], EQT, [⟨48, slices_ContainsFunc_api_Series_api_Series__i0_h N⟩], []⟩
theorem w22Gok (N : Nat) : GOk Try.prog TT EE (w22G N) := GOk.consx (slices_ContainsFunc_api_Series_api_Series__i0_hok N) (GOk.nil EQT_ok)
def w22kE0 (c : Code) : List It2 := [.c c]
def w22sE0 (x0 : List VSeries) : TS EE.T := ⟨10, [(0, .a (.d (.sl (.nam 4)) x0))], [], []⟩
def w22TE0 (c : Code) (N : Nat) (x0 : List VSeries) : Tree (Lf EE.T × Option Bool) :=
  .cond (decide ((x0.length : Int) > 500))
  (
    .leaf (.done (w22enc true), some true))
  (
    .bnd (slices_ContainsFunc_api_Series_api_Series__i0 N x0) fun z1 =>
    .leaf (.done (w22enc z1), some z1))
theorem w22vE0 (N : Nat) (x0 : List VSeries) : evM TT EE (w22G N) w22lv w22rs 4000 true (w22kE0 (bodyOf 0 Try.f22)) (w22sE0 x0) = (w22TE0 (bodyOf 0 Try.f22) N x0).map1 := by kernel_rfl
theorem w22nE0 (N : Nat) (x0 : List VSeries) : take_many N x0 = (w22TE0 (bodyOf 0 Try.f22) N x0).run := by kernel_rfl
theorem w22oE0 {N : Nat} {r : Bool} (x0 : List VSeries) (h : take_many N x0 = some r) : Ends (Y := TT) EE (w22G N) w22lv w22rs (fun u => u = w22enc r) (w22kE0 (bodyOf 0 Try.f22)) (w22sE0 x0) :=
  tree_use (w22vE0 N x0) (w22nE0 N x0) h (show (w22TE0 (bodyOf 0 Try.f22) N x0).all _ from ⟨retp (enc := w22enc) rfl, fun _ => retp (enc := w22enc) rfl⟩)
theorem take_many_ok {N : Nat} (x0 : List VSeries) {r : Bool} (h : take_many N x0 = some r) (ρ : Nat → Nat) : ACalls Try.prog 22 (([.a (.d (.sl (.nam 4)) x0)] : List (TV EE.T)).map (TV.to EE.toEnc ρ)) [] (fun out H => out = .ret ((take_many_u r).to EE.toEnc ρ) ∧ H = []) :=
  (fn_ok (bodyOf 0 Try.f22) 10 mixed (w22Gok N) Try.func22 (by kernel_rfl) rfl rfl rfl rfl (w22oE0 x0 h) ρ).mono fun out H h => KPost.ret rfl h
def take_many_h (N : Nat) : List (TV EE.T) → PV EE.T
  | [u0] => match argD (.sl (.nam 4)) u0 with
    | some x0 => .opt (take_many N x0) take_many_u
    | _ => .bad
  | _ => .bad
theorem take_many_hok (N : Nat) (us : List (TV EE.T)) : (take_many_h N us).ok fun u => ∀ ρ, ACalls Try.prog 22 (us.map (TV.to EE.toEnc ρ)) [] (fun out H => out = .ret (u.to EE.toEnc ρ) ∧ H = []) := by
  unfold take_many_h
  split
  · split
    · rename_i h0
      intro z hz ρ; refine acalls_le ?_ (take_many_ok _ hz ρ); exact ⟨argD_le h0 ρ, trivial⟩
    · trivial
  · trivial
def labels_each_u (r : Int) : TV EE.T := .a (.d (.int .i64) r)
def w50enc (r : Int) : RL EE.T := .ret (labels_each_u r) []
def w50lv : Lvs := ⟨[(9, ⟨[(0, false), (1, false), (6, false), (13, false), (14, false), (15, false)], [], [(6, (some 2, []))]⟩)], [(4, ⟨[(0, false), (1, false), (13, false), (14, false), (15, false)], [], []⟩), (14, ⟨[(7, false), (38, false), (39, false), (40, false)], [], [(37, (none, []))]⟩)], [9], [], false, [], []⟩
def w50rs : List ResultVar := [.tmp 4]
def w50G (N : Nat) : Gam EE := ⟨[⟨74, labels_IsName_h N⟩], EQT, [], []⟩
theorem w50Gok (N : Nat) : GOk Try.prog TT EE (w50G N) := GOk.cons (labels_IsName_hok N) (GOk.nil EQT_ok)
def w50kR9 (c : Code) : List It2 := atR 9 c
def w50sR9 (x0 : List VLabel) (x1 : Bool) (x13 : List VLabel) (x14 : Int) (x15 : Int) (b6 : VLabel) : TS EE.T := ⟨52, [(0, .a (.d (.sl (.nam 2)) x0)), (1, .a (.d .bool x1)), (6, .a (.box 6 0)), (13, .a (.d (.sl (.nam 2)) x13)), (14, .a (.d (.int .i64) x14)), (15, .a (.d (.int .i64) x15))], [(6, .cs (unpT EE (.nam 2) b6))], []⟩
def w50kL14 (c : Code) : List It2 := atL 14 c
def w50sL14 (x38 : List VLabel) (x39 : Int) (x40 : Int) (b37 : List (List UInt8 × Bool)) : TS EE.T := ⟨52, [(7, .a (.mpr 37)), (38, .a (.d (.sl (.nam 2)) x38)), (39, .a (.d (.int .i64) x39)), (40, .a (.d (.int .i64) x40))], [(37, .smap .bool b37)], []⟩
def w50kL4 (c : Code) : List It2 := atL 4 c
def w50sL4 (x0 : List VLabel) (x1 : Bool) (x13 : List VLabel) (x14 : Int) (x15 : Int) : TS EE.T := ⟨52, [(0, .a (.d (.sl (.nam 2)) x0)), (1, .a (.d .bool x1)), (13, .a (.d (.sl (.nam 2)) x13)), (14, .a (.d (.int .i64) x14)), (15, .a (.d (.int .i64) x15))], [], []⟩
def w50kE0 (c : Code) : List It2 := [.c c]
def w50sE0 (x0 : List VLabel) (x1 : Bool) : TS EE.T := ⟨52, [(0, .a (.d (.sl (.nam 2)) x0)), (1, .a (.d .bool x1))], [], []⟩
def w50TR9 (c : Code) (N : Nat) (k4 : (List VLabel) → Bool → (List VLabel) → Int → Int → Option Int) (n : Nat) (x0 : List VLabel) (x1 : Bool) (x13 : List VLabel) (x14 : Int) (x15 : Int) (b6 : VLabel) : Tree (Lf EE.T × Option Int) :=
  .cond (decide ((b6.Value.length : Int) > 100))
  (
    .leaf (.done (w50enc 2), some 2))
  (
    .leaf (.go (w50kL4 c) (w50sL4 x0 x1 x13 x14 (w64 (x15 + 1))), k4 x0 x1 x13 x14 (w64 (x15 + 1))))
theorem w50vR9 (N : Nat) (k4 : (List VLabel) → Bool → (List VLabel) → Int → Int → Option Int) (n : Nat) (x0 : List VLabel) (x1 : Bool) (x13 : List VLabel) (x14 : Int) (x15 : Int) (b6 : VLabel) : evM TT EE (w50G N) w50lv w50rs 4000 true (w50kR9 (bodyOf 0 Try.f50)) (w50sR9 x0 x1 x13 x14 x15 b6) = (w50TR9 (bodyOf 0 Try.f50) N k4 n x0 x1 x13 x14 x15 b6).map1 := by kernel_rfl
theorem w50nR9 (N : Nat) (k4 : (List VLabel) → Bool → (List VLabel) → Int → Int → Option Int) (n : Nat) (x0 : List VLabel) (x1 : Bool) (x13 : List VLabel) (x14 : Int) (x15 : Int) (b6 : VLabel) : labels_each_R9 N k4 n x0 x1 x13 x14 x15 b6 = (w50TR9 (bodyOf 0 Try.f50) N k4 n x0 x1 x13 x14 x15 b6).run := by kernel_rfl
theorem w50oR9 {N : Nat} {r : Int} {k4 : (List VLabel) → Bool → (List VLabel) → Int → Int → Option Int} (hk4 : ∀ x0 x1 x13 x14 x15, k4 x0 x1 x13 x14 x15 = some r → Ends (Y := TT) EE (w50G N) w50lv w50rs (fun u => u = w50enc r) (w50kL4 (bodyOf 0 Try.f50)) (w50sL4 x0 x1 x13 x14 x15)) (n : Nat) (x0 : List VLabel) (x1 : Bool) (x13 : List VLabel) (x14 : Int) (x15 : Int) (b6 : VLabel) (h : labels_each_R9 N k4 n x0 x1 x13 x14 x15 b6 = some r) : Ends (Y := TT) EE (w50G N) w50lv w50rs (fun u => u = w50enc r) (w50kR9 (bodyOf 0 Try.f50)) (w50sR9 x0 x1 x13 x14 x15 b6) :=
  tree_use (w50vR9 N k4 n x0 x1 x13 x14 x15 b6) (w50nR9 N k4 n x0 x1 x13 x14 x15 b6) h (show (w50TR9 (bodyOf 0 Try.f50) N k4 n x0 x1 x13 x14 x15 b6).all _ from ⟨retp (enc := w50enc) rfl, fun h => hk4 _ _ _ _ _ h⟩)
def w50TL14 (c : Code) (N : Nat) (n : Nat) (x38 : List VLabel) (x39 : Int) (x40 : Int) (b37 : List (List UInt8 × Bool)) : Tree (Lf EE.T × Option Int) :=
  .cond (decide (x40 < x39))
  (
    .bnd (idxC x38 x40) fun z3 =>
    .cond ((mget b37 z3.Name).getD false)
    (
      .leaf (.done (w50enc 6), some 6))
    (
      .leaf (.go (w50kL14 c) (w50sL14 x38 x39 (w64 (x40 + 1)) (mset b37 z3.Name true)), labels_each_L14 N n x38 x39 (w64 (x40 + 1)) (mset b37 z3.Name true))))
  (
    .leaf (.done (w50enc 0), some 0))
theorem w50vL14 (N : Nat) (n : Nat) (x38 : List VLabel) (x39 : Int) (x40 : Int) (b37 : List (List UInt8 × Bool)) : evM TT EE (w50G N) w50lv w50rs 4000 true (w50kL14 (bodyOf 0 Try.f50)) (w50sL14 x38 x39 x40 b37) = (w50TL14 (bodyOf 0 Try.f50) N n x38 x39 x40 b37).map1 := by kernel_rfl
theorem w50nL14 (N : Nat) (n : Nat) (x38 : List VLabel) (x39 : Int) (x40 : Int) (b37 : List (List UInt8 × Bool)) : labels_each_L14 N (n + 1) x38 x39 x40 b37 = (w50TL14 (bodyOf 0 Try.f50) N n x38 x39 x40 b37).run := by kernel_rfl
theorem w50oL14 {N : Nat} {r : Int} : ∀ (n : Nat) (x38 : List VLabel) (x39 : Int) (x40 : Int) (b37 : List (List UInt8 × Bool)), labels_each_L14 N n x38 x39 x40 b37 = some r → Ends (Y := TT) EE (w50G N) w50lv w50rs (fun u => u = w50enc r) (w50kL14 (bodyOf 0 Try.f50)) (w50sL14 x38 x39 x40 b37)
  | 0, _, _, _, _, h => by cases h
  | n + 1, x38, x39, x40, b37, h => tree_use (w50vL14 N n x38 x39 x40 b37) (w50nL14 N n x38 x39 x40 b37) h (show (w50TL14 (bodyOf 0 Try.f50) N n x38 x39 x40 b37).all _ from ⟨fun _ => ⟨retp (enc := w50enc) rfl, fun h => (w50oL14 n) _ _ _ _ h⟩, retp (enc := w50enc) rfl⟩)
def w50TL4 (c : Code) (N : Nat) (n : Nat) (x0 : List VLabel) (x1 : Bool) (x13 : List VLabel) (x14 : Int) (x15 : Int) : Tree (Lf EE.T × Option Int) :=
  .cond (decide (x15 < x14))
  (
    .bnd (idxC x13 x15) fun z1 =>
    .bnd (labels_IsName N z1.Name) fun z2 =>
    .cond (!z2)
    (
      .leaf (.done (w50enc 1), some 1))
    (
      .cond (decide (z1.Value = ([] : List UInt8)))
      (
        .cond (!x1)
        (
          .leaf (.done (w50enc 1), some 1))
        (
          .leaf (.go (w50kR9 c) (w50sR9 x0 x1 x13 x14 x15 z1), labels_each_R9 N (labels_each_L4 N n) n x0 x1 x13 x14 x15 z1)))
      (
        .leaf (.go (w50kR9 c) (w50sR9 x0 x1 x13 x14 x15 z1), labels_each_R9 N (labels_each_L4 N n) n x0 x1 x13 x14 x15 z1))))
  (
    .leaf (.go (w50kL14 c) (w50sL14 x0 (x0.length : Int) 0 ([] : List (List UInt8 × Bool))), labels_each_L14 N n x0 (x0.length : Int) 0 ([] : List (List UInt8 × Bool))))
theorem w50vL4 (N : Nat) (n : Nat) (x0 : List VLabel) (x1 : Bool) (x13 : List VLabel) (x14 : Int) (x15 : Int) : evM TT EE (w50G N) w50lv w50rs 4000 true (w50kL4 (bodyOf 0 Try.f50)) (w50sL4 x0 x1 x13 x14 x15) = (w50TL4 (bodyOf 0 Try.f50) N n x0 x1 x13 x14 x15).map1 := by kernel_rfl
theorem w50nL4 (N : Nat) (n : Nat) (x0 : List VLabel) (x1 : Bool) (x13 : List VLabel) (x14 : Int) (x15 : Int) : labels_each_L4 N (n + 1) x0 x1 x13 x14 x15 = (w50TL4 (bodyOf 0 Try.f50) N n x0 x1 x13 x14 x15).run := by kernel_rfl
theorem w50oL4 {N : Nat} {r : Int} : ∀ (n : Nat) (x0 : List VLabel) (x1 : Bool) (x13 : List VLabel) (x14 : Int) (x15 : Int), labels_each_L4 N n x0 x1 x13 x14 x15 = some r → Ends (Y := TT) EE (w50G N) w50lv w50rs (fun u => u = w50enc r) (w50kL4 (bodyOf 0 Try.f50)) (w50sL4 x0 x1 x13 x14 x15)
  | 0, _, _, _, _, _, h => by cases h
  | n + 1, x0, x1, x13, x14, x15, h => tree_use (w50vL4 N n x0 x1 x13 x14 x15) (w50nL4 N n x0 x1 x13 x14 x15) h (show (w50TL4 (bodyOf 0 Try.f50) N n x0 x1 x13 x14 x15).all _ from ⟨fun _ => fun _ => ⟨retp (enc := w50enc) rfl, ⟨⟨retp (enc := w50enc) rfl, fun h => w50oR9 (w50oL4 n) n _ _ _ _ _ _ h⟩, fun h => w50oR9 (w50oL4 n) n _ _ _ _ _ _ h⟩⟩, fun h => w50oL14 n _ _ _ _ h⟩)
def w50TE0 (c : Code) (N : Nat) (x0 : List VLabel) (x1 : Bool) : Tree (Lf EE.T × Option Int) :=
  .cond (decide ((x0.length : Int) > 20))
  (
    .leaf (.done (w50enc 2), some 2))
  (
    .leaf (.go (w50kL4 c) (w50sL4 x0 x1 x0 (x0.length : Int) 0), labels_each_L4 N N x0 x1 x0 (x0.length : Int) 0))
theorem w50vE0 (N : Nat) (x0 : List VLabel) (x1 : Bool) : evM TT EE (w50G N) w50lv w50rs 4000 true (w50kE0 (bodyOf 0 Try.f50)) (w50sE0 x0 x1) = (w50TE0 (bodyOf 0 Try.f50) N x0 x1).map1 := by kernel_rfl
theorem w50nE0 (N : Nat) (x0 : List VLabel) (x1 : Bool) : labels_each N x0 x1 = (w50TE0 (bodyOf 0 Try.f50) N x0 x1).run := by kernel_rfl
theorem w50oE0 {N : Nat} {r : Int} (x0 : List VLabel) (x1 : Bool) (h : labels_each N x0 x1 = some r) : Ends (Y := TT) EE (w50G N) w50lv w50rs (fun u => u = w50enc r) (w50kE0 (bodyOf 0 Try.f50)) (w50sE0 x0 x1) :=
  tree_use (w50vE0 N x0 x1) (w50nE0 N x0 x1) h (show (w50TE0 (bodyOf 0 Try.f50) N x0 x1).all _ from ⟨retp (enc := w50enc) rfl, fun h => w50oL4 N _ _ _ _ _ h⟩)
theorem labels_each_ok {N : Nat} (x0 : List VLabel) (x1 : Bool) {r : Int} (h : labels_each N x0 x1 = some r) (ρ : Nat → Nat) : ACalls Try.prog 50 (([.a (.d (.sl (.nam 2)) x0), .a (.d .bool x1)] : List (TV EE.T)).map (TV.to EE.toEnc ρ)) [] (fun out H => out = .ret ((labels_each_u r).to EE.toEnc ρ) ∧ H = []) :=
  (fn_ok (bodyOf 0 Try.f50) 52 mixed (w50Gok N) Try.func50 (by kernel_rfl) rfl rfl rfl rfl (w50oE0 x0 x1 h) ρ).mono fun out H h => KPost.ret rfl h
def labels_each_h (N : Nat) : List (TV EE.T) → PV EE.T
  | [u0, u1] => match argD (.sl (.nam 2)) u0, argD .bool u1 with
    | some x0, some x1 => .opt (labels_each N x0 x1) labels_each_u
    | _, _ => .bad
  | _ => .bad
theorem labels_each_hok (N : Nat) (us : List (TV EE.T)) : (labels_each_h N us).ok fun u => ∀ ρ, ACalls Try.prog 50 (us.map (TV.to EE.toEnc ρ)) [] (fun out H => out = .ret (u.to EE.toEnc ρ) ∧ H = []) := by
  unfold labels_each_h
  split
  · split
    · rename_i h0 h1
      intro z hz ρ; refine acalls_le ?_ (labels_each_ok _ _ hz ρ); exact ⟨argD_le h0 ρ, argD_le h1 ρ, trivial⟩
    · trivial
  · trivial
def cmp_isNaN_string__u (r : Bool) : TV EE.T := .a (.d .bool r)
def w75enc (r : Bool) : RL EE.T := .ret (cmp_isNaN_string__u r) []
def w75lv : Lvs := ⟨[], [], [], [], false, [], []⟩
def w75rs : List ResultVar := [.tmp 2]
def w75G (N : Nat) : Gam EE := ⟨[], EQT, [], []⟩
theorem w75Gok (N : Nat) : GOk Try.prog TT EE (w75G N) := GOk.nil EQT_ok
def w75kE0 (c : Code) : List It2 := [.c c]
def w75sE0 (x0 : List UInt8) : TS EE.T := ⟨6, [(0, .a (.d .str x0))], [], []⟩
def w75TE0 (c : Code) (N : Nat) (x0 : List UInt8) : Tree (Lf EE.T × Option Bool) :=
  .leaf (.done (w75enc (!decide (x0 = x0))), some (!decide (x0 = x0)))
theorem w75vE0 (N : Nat) (x0 : List UInt8) : evM TT EE (w75G N) w75lv w75rs 4000 true (w75kE0 (bodyOf 0 Try.f75)) (w75sE0 x0) = (w75TE0 (bodyOf 0 Try.f75) N x0).map1 := by kernel_rfl
theorem w75nE0 (N : Nat) (x0 : List UInt8) : cmp_isNaN_string_ N x0 = (w75TE0 (bodyOf 0 Try.f75) N x0).run := by kernel_rfl
theorem w75oE0 {N : Nat} {r : Bool} (x0 : List UInt8) (h : cmp_isNaN_string_ N x0 = some r) : Ends (Y := TT) EE (w75G N) w75lv w75rs (fun u => u = w75enc r) (w75kE0 (bodyOf 0 Try.f75)) (w75sE0 x0) :=
  tree_use (w75vE0 N x0) (w75nE0 N x0) h (show (w75TE0 (bodyOf 0 Try.f75) N x0).all _ from retp (enc := w75enc) rfl)
theorem cmp_isNaN_string__ok {N : Nat} (x0 : List UInt8) {r : Bool} (h : cmp_isNaN_string_ N x0 = some r) (ρ : Nat → Nat) : ACalls Try.prog 75 (([.a (.d .str x0)] : List (TV EE.T)).map (TV.to EE.toEnc ρ)) [] (fun out H => out = .ret ((cmp_isNaN_string__u r).to EE.toEnc ρ) ∧ H = []) :=
  (fn_ok (bodyOf 0 Try.f75) 6 mixed (w75Gok N) Try.func75 (by kernel_rfl) rfl rfl rfl rfl (w75oE0 x0 h) ρ).mono fun out H h => KPost.ret rfl h
def cmp_isNaN_string__h (N : Nat) : List (TV EE.T) → PV EE.T
  | [u0] => match argD .str u0 with
    | some x0 => .opt (cmp_isNaN_string_ N x0) cmp_isNaN_string__u
    | _ => .bad
  | _ => .bad
theorem cmp_isNaN_string__hok (N : Nat) (us : List (TV EE.T)) : (cmp_isNaN_string__h N us).ok fun u => ∀ ρ, ACalls Try.prog 75 (us.map (TV.to EE.toEnc ρ)) [] (fun out H => out = .ret (u.to EE.toEnc ρ) ∧ H = []) := by
  unfold cmp_isNaN_string__h
  split
  · split
    · rename_i h0
      intro z hz ρ; refine acalls_le ?_ (cmp_isNaN_string__ok _ hz ρ); exact ⟨argD_le h0 ρ, trivial⟩
    · trivial
  · trivial
def cmp_Compare_string__u (r : Int) : TV EE.T := .a (.d (.int .i64) r)
def w57enc (r : Int) : RL EE.T := .ret (cmp_Compare_string__u r) []
def w57lv : Lvs := ⟨[], [], [], [], false, [], []⟩
def w57rs : List ResultVar := [.tmp 4]
def w57G (N : Nat) : Gam EE := ⟨[⟨75, cmp_isNaN_string__h N⟩], EQT, [], []⟩
theorem w57Gok (N : Nat) : GOk Try.prog TT EE (w57G N) := GOk.cons (cmp_isNaN_string__hok N) (GOk.nil EQT_ok)
def w57kE0 (c : Code) : List It2 := [.c c]
def w57sE0 (x0 : List UInt8) (x1 : List UInt8) : TS EE.T := ⟨20, [(0, .a (.d .str x0)), (1, .a (.d .str x1))], [], []⟩
def w57TE0 (c : Code) (N : Nat) (x0 : List UInt8) (x1 : List UInt8) : Tree (Lf EE.T × Option Int) :=
  .bnd (cmp_isNaN_string_ N x0) fun z1 =>
  .bnd (cmp_isNaN_string_ N x1) fun z2 =>
  .cond (z1)
  (
    .cond (z2)
    (
      .leaf (.done (w57enc 0), some 0))
    (
      .leaf (.done (w57enc (-1)), some (-1))))
  (
    .cond (z2)
    (
      .leaf (.done (w57enc 1), some 1))
    (
      .cond (Op.bytesLess x0 x1)
      (
        .leaf (.done (w57enc (-1)), some (-1)))
      (
        .cond (!(Op.bytesLess x0 x1 || decide (x0 = x1)))
        (
          .leaf (.done (w57enc 1), some 1))
        (
          .leaf (.done (w57enc 0), some 0)))))
theorem w57vE0 (N : Nat) (x0 : List UInt8) (x1 : List UInt8) : evM TT EE (w57G N) w57lv w57rs 4000 true (w57kE0 (bodyOf 0 Try.f57)) (w57sE0 x0 x1) = (w57TE0 (bodyOf 0 Try.f57) N x0 x1).map1 := by kernel_rfl
theorem w57nE0 (N : Nat) (x0 : List UInt8) (x1 : List UInt8) : cmp_Compare_string_ N x0 x1 = (w57TE0 (bodyOf 0 Try.f57) N x0 x1).run := by kernel_rfl
theorem w57oE0 {N : Nat} {r : Int} (x0 : List UInt8) (x1 : List UInt8) (h : cmp_Compare_string_ N x0 x1 = some r) : Ends (Y := TT) EE (w57G N) w57lv w57rs (fun u => u = w57enc r) (w57kE0 (bodyOf 0 Try.f57)) (w57sE0 x0 x1) :=
  tree_use (w57vE0 N x0 x1) (w57nE0 N x0 x1) h (show (w57TE0 (bodyOf 0 Try.f57) N x0 x1).all _ from fun _ => fun _ => ⟨⟨retp (enc := w57enc) rfl, retp (enc := w57enc) rfl⟩, ⟨retp (enc := w57enc) rfl, ⟨retp (enc := w57enc) rfl, ⟨retp (enc := w57enc) rfl, retp (enc := w57enc) rfl⟩⟩⟩⟩)
theorem cmp_Compare_string__ok {N : Nat} (x0 : List UInt8) (x1 : List UInt8) {r : Int} (h : cmp_Compare_string_ N x0 x1 = some r) (ρ : Nat → Nat) : ACalls Try.prog 57 (([.a (.d .str x0), .a (.d .str x1)] : List (TV EE.T)).map (TV.to EE.toEnc ρ)) [] (fun out H => out = .ret ((cmp_Compare_string__u r).to EE.toEnc ρ) ∧ H = []) :=
  (fn_ok (bodyOf 0 Try.f57) 20 mixed (w57Gok N) Try.func57 (by kernel_rfl) rfl rfl rfl rfl (w57oE0 x0 x1 h) ρ).mono fun out H h => KPost.ret rfl h
def cmp_Compare_string__h (N : Nat) : List (TV EE.T) → PV EE.T
  | [u0, u1] => match argD .str u0, argD .str u1 with
    | some x0, some x1 => .opt (cmp_Compare_string_ N x0 x1) cmp_Compare_string__u
    | _, _ => .bad
  | _ => .bad
theorem cmp_Compare_string__hok (N : Nat) (us : List (TV EE.T)) : (cmp_Compare_string__h N us).ok fun u => ∀ ρ, ACalls Try.prog 57 (us.map (TV.to EE.toEnc ρ)) [] (fun out H => out = .ret (u.to EE.toEnc ρ) ∧ H = []) := by
  unfold cmp_Compare_string__h
  split
  · split
    · rename_i h0 h1
      intro z hz ρ; refine acalls_le ?_ (cmp_Compare_string__ok _ _ hz ρ); exact ⟨argD_le h0 ρ, argD_le h1 ρ, trivial⟩
    · trivial
  · trivial
def labels_byName_u (r : Int) : TV EE.T := .a (.d (.int .i64) r)
def w52enc (r : Int) : RL EE.T := .ret (labels_byName_u r) []
def w52lv : Lvs := ⟨[], [], [], [], false, [], []⟩
def w52rs : List ResultVar := [.tmp 4]
def w52G (N : Nat) : Gam EE := ⟨[⟨57, cmp_Compare_string__h N⟩], EQT, [], []⟩
theorem w52Gok (N : Nat) : GOk Try.prog TT EE (w52G N) := GOk.cons (cmp_Compare_string__hok N) (GOk.nil EQT_ok)
def w52kE0 (c : Code) : List It2 := [.c c]
def w52sE0 (x0 : VLabel) (x1 : VLabel) : TS EE.T := ⟨10, [(0, .ag (unpT EE (.nam 2) x0)), (1, .ag (unpT EE (.nam 2) x1))], [], []⟩
def w52TE0 (c : Code) (N : Nat) (x0 : VLabel) (x1 : VLabel) : Tree (Lf EE.T × Option Int) :=
  .bnd (cmp_Compare_string_ N x0.Name x1.Name) fun z1 =>
  .leaf (.done (w52enc z1), some z1)
theorem w52vE0 (N : Nat) (x0 : VLabel) (x1 : VLabel) : evM TT EE (w52G N) w52lv w52rs 4000 true (w52kE0 (bodyOf 0 Try.f52)) (w52sE0 x0 x1) = (w52TE0 (bodyOf 0 Try.f52) N x0 x1).map1 := by kernel_rfl
theorem w52nE0 (N : Nat) (x0 : VLabel) (x1 : VLabel) : labels_byName N x0 x1 = (w52TE0 (bodyOf 0 Try.f52) N x0 x1).run := by kernel_rfl
theorem w52oE0 {N : Nat} {r : Int} (x0 : VLabel) (x1 : VLabel) (h : labels_byName N x0 x1 = some r) : Ends (Y := TT) EE (w52G N) w52lv w52rs (fun u => u = w52enc r) (w52kE0 (bodyOf 0 Try.f52)) (w52sE0 x0 x1) :=
  tree_use (w52vE0 N x0 x1) (w52nE0 N x0 x1) h (show (w52TE0 (bodyOf 0 Try.f52) N x0 x1).all _ from fun _ => retp (enc := w52enc) rfl)
theorem labels_byName_ok {N : Nat} (x0 : VLabel) (x1 : VLabel) {r : Int} (h : labels_byName N x0 x1 = some r) (ρ : Nat → Nat) : ACalls Try.prog 52 (([.ag (unpT EE (.nam 2) x0), .ag (unpT EE (.nam 2) x1)] : List (TV EE.T)).map (TV.to EE.toEnc ρ)) [] (fun out H => out = .ret ((labels_byName_u r).to EE.toEnc ρ) ∧ H = []) :=
  (fn_ok (bodyOf 0 Try.f52) 10 mixed (w52Gok N) Try.func52 (by kernel_rfl) rfl rfl rfl rfl (w52oE0 x0 x1 h) ρ).mono fun out H h => KPost.ret rfl h
def labels_byName_h (N : Nat) : List (TV EE.T) → PV EE.T
  | [u0, u1] => match argS EE 2 u0, argS EE 2 u1 with
    | some x0, some x1 => .opt (labels_byName N x0 x1) labels_byName_u
    | _, _ => .bad
  | _ => .bad
theorem labels_byName_hok (N : Nat) (us : List (TV EE.T)) : (labels_byName_h N us).ok fun u => ∀ ρ, ACalls Try.prog 52 (us.map (TV.to EE.toEnc ρ)) [] (fun out H => out = .ret (u.to EE.toEnc ρ) ∧ H = []) := by
  unfold labels_byName_h
  split
  · split
    · rename_i h0 h1
      intro z hz ρ; refine acalls_le ?_ (labels_byName_ok _ _ hz ρ); exact ⟨argS_le h0 ρ, argS_le h1 ρ, trivial⟩
    · trivial
  · trivial
def slices_IsSortedFunc_api_Label_api_Label__i0_u (r : Bool) : TV EE.T := .a (.d .bool r)
def w51i0hh (r : Bool) : List (Nat × TB EE.T) := []
def w51i0enc (r : Bool) : RL EE.T := .ret (slices_IsSortedFunc_api_Label_api_Label__i0_u r) (w51i0hh r)
def w51i0lv : Lvs := ⟨[(4, ⟨[(0, false), (1, false), (5, false)], [], []⟩)], [(2, ⟨[(0, false), (1, false), (5, false)], [], []⟩)], [], [], false, [], []⟩
def w51i0rs : List ResultVar := [.tmp 4]
def w51i0G (N : Nat) : Gam EE := ⟨[⟨52, labels_byName_h N⟩], EQT, [], []⟩
theorem w51i0Gok (N : Nat) : GOk Try.prog TT EE (w51i0G N) := GOk.cons (labels_byName_hok N) (GOk.nil EQT_ok)
def w51i0kL2 (c : Code) : List It2 := atL 2 c
def w51i0sL2 (x0 : List VLabel) (x5 : Int) : TS EE.T := ⟨25, [(0, .a (.d (.sl (.nam 2)) x0)), (1, .fn 52 []), (5, .a (.d (.int .i64) x5))], [], []⟩
def w51i0kE0 (c : Code) : List It2 := [.c c]
def w51i0sE0 (x0 : List VLabel) : TS EE.T := ⟨25, [(0, .a (.d (.sl (.nam 2)) x0)), (1, .fn 52 [])], [], []⟩
def w51i0TL2 (c : Code) (N : Nat) (n : Nat) (x0 : List VLabel) (x5 : Int) : Tree (Lf EE.T × Option Bool) :=
  .cond (decide (x5 > 0))
  (
    .bnd (idxC x0 x5) fun z1 =>
    .bnd (idxC x0 (w64 (x5 - 1))) fun z2 =>
    .bnd (labels_byName N z1 z2) fun z3 =>
    .cond (decide (z3 < 0))
    (
      .leaf (.done (w51i0enc false), some false))
    (
      .leaf (.go (w51i0kL2 c) (w51i0sL2 x0 (w64 (x5 - 1))), slices_IsSortedFunc_api_Label_api_Label__i0_L2 N n x0 (w64 (x5 - 1)))))
  (
    .leaf (.done (w51i0enc true), some true))
theorem w51i0vL2 (N : Nat) (n : Nat) (x0 : List VLabel) (x5 : Int) : evM TT EE (w51i0G N) w51i0lv w51i0rs 4000 true (w51i0kL2 (bodyOf 0 Try.f51)) (w51i0sL2 x0 x5) = (w51i0TL2 (bodyOf 0 Try.f51) N n x0 x5).map1 := by kernel_rfl
theorem w51i0nL2 (N : Nat) (n : Nat) (x0 : List VLabel) (x5 : Int) : slices_IsSortedFunc_api_Label_api_Label__i0_L2 N (n + 1) x0 x5 = (w51i0TL2 (bodyOf 0 Try.f51) N n x0 x5).run := by kernel_rfl
theorem w51i0oL2 {N : Nat} {r : Bool} : ∀ (n : Nat) (x0 : List VLabel) (x5 : Int), slices_IsSortedFunc_api_Label_api_Label__i0_L2 N n x0 x5 = some r → Ends (Y := TT) EE (w51i0G N) w51i0lv w51i0rs (fun u => u = w51i0enc r) (w51i0kL2 (bodyOf 0 Try.f51)) (w51i0sL2 x0 x5)
  | 0, _, _, h => by cases h
  | n + 1, x0, x5, h => tree_use (w51i0vL2 N n x0 x5) (w51i0nL2 N n x0 x5) h (show (w51i0TL2 (bodyOf 0 Try.f51) N n x0 x5).all _ from ⟨fun _ => fun _ => fun _ => ⟨retp (enc := w51i0enc) rfl, fun h => (w51i0oL2 n) _ _ h⟩, retp (enc := w51i0enc) rfl⟩)
def w51i0TE0 (c : Code) (N : Nat) (x0 : List VLabel) : Tree (Lf EE.T × Option Bool) :=
  .leaf (.go (w51i0kL2 c) (w51i0sL2 x0 (w64 ((x0.length : Int) - 1))), slices_IsSortedFunc_api_Label_api_Label__i0_L2 N N x0 (w64 ((x0.length : Int) - 1)))
theorem w51i0vE0 (N : Nat) (x0 : List VLabel) : evM TT EE (w51i0G N) w51i0lv w51i0rs 4000 true (w51i0kE0 (bodyOf 0 Try.f51)) (w51i0sE0 x0) = (w51i0TE0 (bodyOf 0 Try.f51) N x0).map1 := by kernel_rfl
theorem w51i0nE0 (N : Nat) (x0 : List VLabel) : slices_IsSortedFunc_api_Label_api_Label__i0 N x0 = (w51i0TE0 (bodyOf 0 Try.f51) N x0).run := by kernel_rfl
theorem w51i0oE0 {N : Nat} {r : Bool} (x0 : List VLabel) (h : slices_IsSortedFunc_api_Label_api_Label__i0 N x0 = some r) : Ends (Y := TT) EE (w51i0G N) w51i0lv w51i0rs (fun u => u = w51i0enc r) (w51i0kE0 (bodyOf 0 Try.f51)) (w51i0sE0 x0) :=
  tree_use (w51i0vE0 N x0) (w51i0nE0 N x0) h (show (w51i0TE0 (bodyOf 0 Try.f51) N x0).all _ from fun h => w51i0oL2 N _ _ h)
def w51i0us (x0 : List VLabel) : List (TV EE.T) := [.a (.d (.sl (.nam 2)) x0), .fn 52 []]
def w51i0h0 (x0 : List VLabel) : List (Nat × TB EE.T) := []
theorem slices_IsSortedFunc_api_Label_api_Label__i0_ok {N : Nat} (x0 : List VLabel) {r : Bool} (h : slices_IsSortedFunc_api_Label_api_Label__i0 N x0 = some r) (ρ : Nat → Nat) (hi : Inj ρ (w51i0h0 x0)) : ACalls Try.prog 51 ((w51i0us x0).map (TV.to EE.toEnc ρ)) (hTo EE.toEnc ρ (w51i0h0 x0)) (fun out H => out = .ret ((slices_IsSortedFunc_api_Label_api_Label__i0_u r).to EE.toEnc ρ) ∧ H = hTo EE.toEnc ρ (w51i0hh r)) :=
  (fn_okH (bodyOf 0 Try.f51) 25 mixed (w51i0Gok N) Try.func51 (by kernel_rfl) rfl rfl rfl rfl (w51i0oE0 x0 h) ρ hi).mono fun out H h => KPost.retH rfl rfl h
def slices_IsSortedFunc_api_Label_api_Label__i0_h (N : Nat) (us : List (TV EE.T)) (hs : List (Nat × TB EE.T)) : XR EE.T :=
  gdX (lenX us 2) <|
  bnX (aD (.sl (.nam 2)) us 0) fun x0 =>
  bnX (aF 52 us 1) fun c1 =>
  bnX (cbs c1) fun s1 =>
  gdX (lenX s1 0) <|
  gdX (goodIds hs []) <|
  .ret (slices_IsSortedFunc_api_Label_api_Label__i0 N x0) [] slices_IsSortedFunc_api_Label_api_Label__i0_u (w51i0hh)
theorem slices_IsSortedFunc_api_Label_api_Label__i0_hok (N : Nat) : XOk Try.prog EE 51 (slices_IsSortedFunc_api_Label_api_Label__i0_h N) := fun us hs =>
  gdX_ok fun h1 => bnX_ok fun x0 h2 => bnX_ok fun c1 h3 => bnX_ok fun s1 h4 => gdX_ok fun h5 => gdX_ok fun h6 => fun z hz => ⟨rfl, fun ρ hi => xcall (us' := w51i0us x0) (h0 := w51i0h0 x0) (ρ' := rhoS ρ []) ⟨aD_le h2, aF_le (js := []) h3 h4 (by rw [lis0 (lenX_ok h5)];  kernel_rfl), lenX_ok h1⟩ trivial (slices_IsSortedFunc_api_Label_api_Label__i0_ok x0 hz _ (rhoS_inj hi h6 _ (by kernel_rfl))) (fun out H h => ⟨h.1.trans (by kernel_rfl), h.2.trans (by kernel_rfl)⟩)⟩
def labels_Check_u (r : Int) : TV EE.T := .a (.d (.int .i64) r)
def w23enc (r : Int) : RL EE.T := .ret (labels_Check_u r) []
def w23lv : Lvs := ⟨[], [], [], [], false, [], []⟩
def w23rs : List ResultVar := [.tmp 2]
def w23G (N : Nat) : Gam EE := ⟨[⟨50, labels_each_h N⟩], EQT, [⟨51, slices_IsSortedFunc_api_Label_api_Label__i0_h N⟩], []⟩
theorem w23Gok (N : Nat) : GOk Try.prog TT EE (w23G N) := GOk.cons (labels_each_hok N) (GOk.consx (slices_IsSortedFunc_api_Label_api_Label__i0_hok N) (GOk.nil EQT_ok))
def w23kE0 (c : Code) : List It2 := [.c c]
def w23sE0 (x0 : List VLabel) : TS EE.T := ⟨12, [(0, .a (.d (.sl (.nam 2)) x0))], [], []⟩
def w23TE0 (c : Code) (N : Nat) (x0 : List VLabel) : Tree (Lf EE.T × Option Int) :=
  .bnd (labels_each N x0 false) fun z1 =>
  .cond (z1 != 0)
  (
    .leaf (.done (w23enc z1), some z1))
  (
    .bnd (slices_IsSortedFunc_api_Label_api_Label__i0 N x0) fun z2 =>
    .cond (!z2)
    (
      .leaf (.done (w23enc 4), some 4))
    (
      .leaf (.done (w23enc 0), some 0)))
theorem w23vE0 (N : Nat) (x0 : List VLabel) : evM TT EE (w23G N) w23lv w23rs 4000 true (w23kE0 (bodyOf 0 Try.f23)) (w23sE0 x0) = (w23TE0 (bodyOf 0 Try.f23) N x0).map1 := by kernel_rfl
theorem w23nE0 (N : Nat) (x0 : List VLabel) : labels_Check N x0 = (w23TE0 (bodyOf 0 Try.f23) N x0).run := by kernel_rfl
theorem w23oE0 {N : Nat} {r : Int} (x0 : List VLabel) (h : labels_Check N x0 = some r) : Ends (Y := TT) EE (w23G N) w23lv w23rs (fun u => u = w23enc r) (w23kE0 (bodyOf 0 Try.f23)) (w23sE0 x0) :=
  tree_use (w23vE0 N x0) (w23nE0 N x0) h (show (w23TE0 (bodyOf 0 Try.f23) N x0).all _ from fun _ => ⟨retp (enc := w23enc) rfl, fun _ => ⟨retp (enc := w23enc) rfl, retp (enc := w23enc) rfl⟩⟩)
theorem labels_Check_ok {N : Nat} (x0 : List VLabel) {r : Int} (h : labels_Check N x0 = some r) (ρ : Nat → Nat) : ACalls Try.prog 23 (([.a (.d (.sl (.nam 2)) x0)] : List (TV EE.T)).map (TV.to EE.toEnc ρ)) [] (fun out H => out = .ret ((labels_Check_u r).to EE.toEnc ρ) ∧ H = []) :=
  (fn_ok (bodyOf 0 Try.f23) 12 mixed (w23Gok N) Try.func23 (by kernel_rfl) rfl rfl rfl rfl (w23oE0 x0 h) ρ).mono fun out H h => KPost.ret rfl h
def labels_Check_h (N : Nat) : List (TV EE.T) → PV EE.T
  | [u0] => match argD (.sl (.nam 2)) u0 with
    | some x0 => .opt (labels_Check N x0) labels_Check_u
    | _ => .bad
  | _ => .bad
theorem labels_Check_hok (N : Nat) (us : List (TV EE.T)) : (labels_Check_h N us).ok fun u => ∀ ρ, ACalls Try.prog 23 (us.map (TV.to EE.toEnc ρ)) [] (fun out H => out = .ret (u.to EE.toEnc ρ) ∧ H = []) := by
  unfold labels_Check_h
  split
  · split
    · rename_i h0
      intro z hz ρ; refine acalls_le ?_ (labels_Check_ok _ hz ρ); exact ⟨argD_le h0 ρ, trivial⟩
    · trivial
  · trivial
def take_isTime_u (r : Bool) : TV EE.T := .a (.d .bool r)
def w26enc (r : Bool) : RL EE.T := .ret (take_isTime_u r) []
def w26lv : Lvs := ⟨[], [], [], [], false, [], []⟩
def w26rs : List ResultVar := [.tmp 2]
def w26G (N : Nat) : Gam EE := ⟨[], EQT, [], []⟩
theorem w26Gok (N : Nat) : GOk Try.prog TT EE (w26G N) := GOk.nil EQT_ok
def w26kE0 (c : Code) : List It2 := [.c c]
def w26sE0 (x0 : Int) : TS EE.T := ⟨9, [(0, .a (.d (.int .i64) x0))], [], []⟩
def w26TE0 (c : Code) (N : Nat) (x0 : Int) : Tree (Lf EE.T × Option Bool) :=
  .cond (decide (x0 ≥ (-9007199254740991)))
  (
    .leaf (.done (w26enc (decide (x0 ≤ 9007199254740991))), some (decide (x0 ≤ 9007199254740991))))
  (
    .leaf (.done (w26enc false), some false))
theorem w26vE0 (N : Nat) (x0 : Int) : evM TT EE (w26G N) w26lv w26rs 4000 true (w26kE0 (bodyOf 0 Try.f26)) (w26sE0 x0) = (w26TE0 (bodyOf 0 Try.f26) N x0).map1 := by kernel_rfl
theorem w26nE0 (N : Nat) (x0 : Int) : take_isTime N x0 = (w26TE0 (bodyOf 0 Try.f26) N x0).run := by kernel_rfl
theorem w26oE0 {N : Nat} {r : Bool} (x0 : Int) (h : take_isTime N x0 = some r) : Ends (Y := TT) EE (w26G N) w26lv w26rs (fun u => u = w26enc r) (w26kE0 (bodyOf 0 Try.f26)) (w26sE0 x0) :=
  tree_use (w26vE0 N x0) (w26nE0 N x0) h (show (w26TE0 (bodyOf 0 Try.f26) N x0).all _ from ⟨retp (enc := w26enc) rfl, retp (enc := w26enc) rfl⟩)
theorem take_isTime_ok {N : Nat} (x0 : Int) {r : Bool} (h : take_isTime N x0 = some r) (ρ : Nat → Nat) : ACalls Try.prog 26 (([.a (.d (.int .i64) x0)] : List (TV EE.T)).map (TV.to EE.toEnc ρ)) [] (fun out H => out = .ret ((take_isTime_u r).to EE.toEnc ρ) ∧ H = []) :=
  (fn_ok (bodyOf 0 Try.f26) 9 mixed (w26Gok N) Try.func26 (by kernel_rfl) rfl rfl rfl rfl (w26oE0 x0 h) ρ).mono fun out H h => KPost.ret rfl h
def take_isTime_h (N : Nat) : List (TV EE.T) → PV EE.T
  | [u0] => match argD (.int .i64) u0 with
    | some x0 => .opt (take_isTime N x0) take_isTime_u
    | _ => .bad
  | _ => .bad
theorem take_isTime_hok (N : Nat) (us : List (TV EE.T)) : (take_isTime_h N us).ok fun u => ∀ ρ, ACalls Try.prog 26 (us.map (TV.to EE.toEnc ρ)) [] (fun out H => out = .ret (u.to EE.toEnc ρ) ∧ H = []) := by
  unfold take_isTime_h
  split
  · split
    · rename_i h0
      intro z hz ρ; refine acalls_le ?_ (take_isTime_ok _ hz ρ); exact ⟨argD_le h0 ρ, trivial⟩
    · trivial
  · trivial
def take_Check_1_u (r : Bool) : TV EE.T := .a (.d .bool r)
def w25enc (r : Bool) : RL EE.T := .ret (take_Check_1_u r) []
def w25lv : Lvs := ⟨[], [], [], [], false, [], []⟩
def w25rs : List ResultVar := [.tmp 2]
def w25G (N : Nat) : Gam EE := ⟨[⟨26, take_isTime_h N⟩], EQT, [], []⟩
theorem w25Gok (N : Nat) : GOk Try.prog TT EE (w25G N) := GOk.cons (take_isTime_hok N) (GOk.nil EQT_ok)
def w25kE0 (c : Code) : List It2 := [.c c]
def w25sE0 (x0 : VSample) : TS EE.T := ⟨7, [(0, .ag (unpT EE (.nam 3) x0))], [], []⟩
def w25TE0 (c : Code) (N : Nat) (x0 : VSample) : Tree (Lf EE.T × Option Bool) :=
  .bnd (take_isTime N x0.Time) fun z1 =>
  .leaf (.done (w25enc (!z1)), some (!z1))
theorem w25vE0 (N : Nat) (x0 : VSample) : evM TT EE (w25G N) w25lv w25rs 4000 true (w25kE0 (bodyOf 0 Try.f25)) (w25sE0 x0) = (w25TE0 (bodyOf 0 Try.f25) N x0).map1 := by kernel_rfl
theorem w25nE0 (N : Nat) (x0 : VSample) : take_Check_1 N x0 = (w25TE0 (bodyOf 0 Try.f25) N x0).run := by kernel_rfl
theorem w25oE0 {N : Nat} {r : Bool} (x0 : VSample) (h : take_Check_1 N x0 = some r) : Ends (Y := TT) EE (w25G N) w25lv w25rs (fun u => u = w25enc r) (w25kE0 (bodyOf 0 Try.f25)) (w25sE0 x0) :=
  tree_use (w25vE0 N x0) (w25nE0 N x0) h (show (w25TE0 (bodyOf 0 Try.f25) N x0).all _ from fun _ => retp (enc := w25enc) rfl)
theorem take_Check_1_ok {N : Nat} (x0 : VSample) {r : Bool} (h : take_Check_1 N x0 = some r) (ρ : Nat → Nat) : ACalls Try.prog 25 (([.ag (unpT EE (.nam 3) x0)] : List (TV EE.T)).map (TV.to EE.toEnc ρ)) [] (fun out H => out = .ret ((take_Check_1_u r).to EE.toEnc ρ) ∧ H = []) :=
  (fn_ok (bodyOf 0 Try.f25) 7 mixed (w25Gok N) Try.func25 (by kernel_rfl) rfl rfl rfl rfl (w25oE0 x0 h) ρ).mono fun out H h => KPost.ret rfl h
def take_Check_1_h (N : Nat) : List (TV EE.T) → PV EE.T
  | [u0] => match argS EE 3 u0 with
    | some x0 => .opt (take_Check_1 N x0) take_Check_1_u
    | _ => .bad
  | _ => .bad
theorem take_Check_1_hok (N : Nat) (us : List (TV EE.T)) : (take_Check_1_h N us).ok fun u => ∀ ρ, ACalls Try.prog 25 (us.map (TV.to EE.toEnc ρ)) [] (fun out H => out = .ret (u.to EE.toEnc ρ) ∧ H = []) := by
  unfold take_Check_1_h
  split
  · split
    · rename_i h0
      intro z hz ρ; refine acalls_le ?_ (take_Check_1_ok _ hz ρ); exact ⟨argS_le h0 ρ, trivial⟩
    · trivial
  · trivial
def cmp_Or_int__u (r : Int) : TV EE.T := .a (.d (.int .i64) r)
def w56enc (r : Int) : RL EE.T := .ret (cmp_Or_int__u r) []
def w56lv : Lvs := ⟨[], [(3, ⟨[(3, false), (6, false), (7, false), (8, false)], [], []⟩)], [], [], false, [], []⟩
def w56rs : List ResultVar := [.tmp 2]
def w56G (N : Nat) : Gam EE := ⟨[], EQT, [], []⟩
theorem w56Gok (N : Nat) : GOk Try.prog TT EE (w56G N) := GOk.nil EQT_ok
def w56kL3 (c : Code) : List It2 := atL 3 c
def w56sL3 (x3 : Int) (x6 : List Int) (x7 : Int) (x8 : Int) : TS EE.T := ⟨18, [(3, .a (.d (.int .i64) x3)), (6, .a (.d (.sl (.int .i64)) x6)), (7, .a (.d (.int .i64) x7)), (8, .a (.d (.int .i64) x8))], [], []⟩
def w56kE0 (c : Code) : List It2 := [.c c]
def w56sE0 (x0 : List Int) : TS EE.T := ⟨18, [(0, .a (.d (.sl (.int .i64)) x0))], [], []⟩
def w56TL3 (c : Code) (N : Nat) (n : Nat) (x3 : Int) (x6 : List Int) (x7 : Int) (x8 : Int) : Tree (Lf EE.T × Option Int) :=
  .cond (decide (x8 < x7))
  (
    .bnd (idxC x6 x8) fun z1 =>
    .cond (z1 != x3)
    (
      .leaf (.done (w56enc z1), some z1))
    (
      .leaf (.go (w56kL3 c) (w56sL3 x3 x6 x7 (w64 (x8 + 1))), cmp_Or_int__L3 N n x3 x6 x7 (w64 (x8 + 1)))))
  (
    .leaf (.done (w56enc x3), some x3))
theorem w56vL3 (N : Nat) (n : Nat) (x3 : Int) (x6 : List Int) (x7 : Int) (x8 : Int) : evM TT EE (w56G N) w56lv w56rs 4000 true (w56kL3 (bodyOf 0 Try.f56)) (w56sL3 x3 x6 x7 x8) = (w56TL3 (bodyOf 0 Try.f56) N n x3 x6 x7 x8).map1 := by kernel_rfl
theorem w56nL3 (N : Nat) (n : Nat) (x3 : Int) (x6 : List Int) (x7 : Int) (x8 : Int) : cmp_Or_int__L3 N (n + 1) x3 x6 x7 x8 = (w56TL3 (bodyOf 0 Try.f56) N n x3 x6 x7 x8).run := by kernel_rfl
theorem w56oL3 {N : Nat} {r : Int} : ∀ (n : Nat) (x3 : Int) (x6 : List Int) (x7 : Int) (x8 : Int), cmp_Or_int__L3 N n x3 x6 x7 x8 = some r → Ends (Y := TT) EE (w56G N) w56lv w56rs (fun u => u = w56enc r) (w56kL3 (bodyOf 0 Try.f56)) (w56sL3 x3 x6 x7 x8)
  | 0, _, _, _, _, h => by cases h
  | n + 1, x3, x6, x7, x8, h => tree_use (w56vL3 N n x3 x6 x7 x8) (w56nL3 N n x3 x6 x7 x8) h (show (w56TL3 (bodyOf 0 Try.f56) N n x3 x6 x7 x8).all _ from ⟨fun _ => ⟨retp (enc := w56enc) rfl, fun h => (w56oL3 n) _ _ _ _ h⟩, retp (enc := w56enc) rfl⟩)
def w56TE0 (c : Code) (N : Nat) (x0 : List Int) : Tree (Lf EE.T × Option Int) :=
  .leaf (.go (w56kL3 c) (w56sL3 0 x0 (x0.length : Int) 0), cmp_Or_int__L3 N N 0 x0 (x0.length : Int) 0)
theorem w56vE0 (N : Nat) (x0 : List Int) : evM TT EE (w56G N) w56lv w56rs 4000 true (w56kE0 (bodyOf 0 Try.f56)) (w56sE0 x0) = (w56TE0 (bodyOf 0 Try.f56) N x0).map1 := by kernel_rfl
theorem w56nE0 (N : Nat) (x0 : List Int) : cmp_Or_int_ N x0 = (w56TE0 (bodyOf 0 Try.f56) N x0).run := by kernel_rfl
theorem w56oE0 {N : Nat} {r : Int} (x0 : List Int) (h : cmp_Or_int_ N x0 = some r) : Ends (Y := TT) EE (w56G N) w56lv w56rs (fun u => u = w56enc r) (w56kE0 (bodyOf 0 Try.f56)) (w56sE0 x0) :=
  tree_use (w56vE0 N x0) (w56nE0 N x0) h (show (w56TE0 (bodyOf 0 Try.f56) N x0).all _ from fun h => w56oL3 N _ _ _ _ h)
theorem cmp_Or_int__ok {N : Nat} (x0 : List Int) {r : Int} (h : cmp_Or_int_ N x0 = some r) (ρ : Nat → Nat) : ACalls Try.prog 56 (([.a (.d (.sl (.int .i64)) x0)] : List (TV EE.T)).map (TV.to EE.toEnc ρ)) [] (fun out H => out = .ret ((cmp_Or_int__u r).to EE.toEnc ρ) ∧ H = []) :=
  (fn_ok (bodyOf 0 Try.f56) 18 mixed (w56Gok N) Try.func56 (by kernel_rfl) rfl rfl rfl rfl (w56oE0 x0 h) ρ).mono fun out H h => KPost.ret rfl h
def cmp_Or_int__h (N : Nat) : List (TV EE.T) → PV EE.T
  | [u0] => match argD (.sl (.int .i64)) u0 with
    | some x0 => .opt (cmp_Or_int_ N x0) cmp_Or_int__u
    | _ => .bad
  | _ => .bad
theorem cmp_Or_int__hok (N : Nat) (us : List (TV EE.T)) : (cmp_Or_int__h N us).ok fun u => ∀ ρ, ACalls Try.prog 56 (us.map (TV.to EE.toEnc ρ)) [] (fun out H => out = .ret (u.to EE.toEnc ρ) ∧ H = []) := by
  unfold cmp_Or_int__h
  split
  · split
    · rename_i h0
      intro z hz ρ; refine acalls_le ?_ (cmp_Or_int__ok _ hz ρ); exact ⟨argD_le h0 ρ, trivial⟩
    · trivial
  · trivial
def labels_Order_1_u (r : Int) : TV EE.T := .a (.d (.int .i64) r)
def w55enc (r : Int) : RL EE.T := .ret (labels_Order_1_u r) []
def w55lv : Lvs := ⟨[(1, ⟨[(2, false), (3, false)], [], [(2, (some 2, [])), (3, (some 2, []))]⟩)], [], [], [], false, [], []⟩
def w55rs : List ResultVar := [.tmp 4]
def w55G (N : Nat) : Gam EE := ⟨[⟨57, cmp_Compare_string__h N⟩, ⟨56, cmp_Or_int__h N⟩], EQT, [], []⟩
theorem w55Gok (N : Nat) : GOk Try.prog TT EE (w55G N) := GOk.cons (cmp_Compare_string__hok N) (GOk.cons (cmp_Or_int__hok N) (GOk.nil EQT_ok))
def w55kE0 (c : Code) : List It2 := [.c c]
def w55sE0 (x0 : VLabel) (x1 : VLabel) : TS EE.T := ⟨17, [(0, .ag (unpT EE (.nam 2) x0)), (1, .ag (unpT EE (.nam 2) x1))], [], []⟩
def w55TE0 (c : Code) (N : Nat) (x0 : VLabel) (x1 : VLabel) : Tree (Lf EE.T × Option Int) :=
  .bnd (cmp_Compare_string_ N x0.Name x1.Name) fun z1 =>
  .bnd (cmp_Compare_string_ N x0.Value x1.Value) fun z2 =>
  .bnd (cmp_Or_int_ N ([z1, z2] : List Int)) fun z3 =>
  .leaf (.done (w55enc z3), some z3)
theorem w55vE0 (N : Nat) (x0 : VLabel) (x1 : VLabel) : evM TT EE (w55G N) w55lv w55rs 4000 true (w55kE0 (bodyOf 0 Try.f55)) (w55sE0 x0 x1) = (w55TE0 (bodyOf 0 Try.f55) N x0 x1).map1 := by kernel_rfl
theorem w55nE0 (N : Nat) (x0 : VLabel) (x1 : VLabel) : labels_Order_1 N x0 x1 = (w55TE0 (bodyOf 0 Try.f55) N x0 x1).run := by kernel_rfl
theorem w55oE0 {N : Nat} {r : Int} (x0 : VLabel) (x1 : VLabel) (h : labels_Order_1 N x0 x1 = some r) : Ends (Y := TT) EE (w55G N) w55lv w55rs (fun u => u = w55enc r) (w55kE0 (bodyOf 0 Try.f55)) (w55sE0 x0 x1) :=
  tree_use (w55vE0 N x0 x1) (w55nE0 N x0 x1) h (show (w55TE0 (bodyOf 0 Try.f55) N x0 x1).all _ from fun _ => fun _ => fun _ => retp (enc := w55enc) rfl)
theorem labels_Order_1_ok {N : Nat} (x0 : VLabel) (x1 : VLabel) {r : Int} (h : labels_Order_1 N x0 x1 = some r) (ρ : Nat → Nat) : ACalls Try.prog 55 (([.ag (unpT EE (.nam 2) x0), .ag (unpT EE (.nam 2) x1)] : List (TV EE.T)).map (TV.to EE.toEnc ρ)) [] (fun out H => out = .ret ((labels_Order_1_u r).to EE.toEnc ρ) ∧ H = []) :=
  (fn_ok (bodyOf 0 Try.f55) 17 mixed (w55Gok N) Try.func55 (by kernel_rfl) rfl rfl rfl rfl (w55oE0 x0 x1 h) ρ).mono fun out H h => KPost.ret rfl h
def labels_Order_1_h (N : Nat) : List (TV EE.T) → PV EE.T
  | [u0, u1] => match argS EE 2 u0, argS EE 2 u1 with
    | some x0, some x1 => .opt (labels_Order_1 N x0 x1) labels_Order_1_u
    | _, _ => .bad
  | _ => .bad
theorem labels_Order_1_hok (N : Nat) (us : List (TV EE.T)) : (labels_Order_1_h N us).ok fun u => ∀ ρ, ACalls Try.prog 55 (us.map (TV.to EE.toEnc ρ)) [] (fun out H => out = .ret (u.to EE.toEnc ρ) ∧ H = []) := by
  unfold labels_Order_1_h
  split
  · split
    · rename_i h0 h1
      intro z hz ρ; refine acalls_le ?_ (labels_Order_1_ok _ _ hz ρ); exact ⟨argS_le h0 ρ, argS_le h1 ρ, trivial⟩
    · trivial
  · trivial
def slices_CompareFunc_api_Label_api_Label_api_Label_api_Label__i0_u (r : Int) : TV EE.T := .a (.d (.int .i64) r)
def w54i0hh (r : Int) : List (Nat × TB EE.T) := []
def w54i0enc (r : Int) : RL EE.T := .ret (slices_CompareFunc_api_Label_api_Label_api_Label_api_Label__i0_u r) (w54i0hh r)
def w54i0lv : Lvs := ⟨[], [(2, ⟨[(0, false), (1, false), (2, false), (11, false), (12, false), (13, false)], [], []⟩)], [], [], false, [], []⟩
def w54i0rs : List ResultVar := [.tmp 6]
def w54i0G (N : Nat) : Gam EE := ⟨[], EQT, [⟨55, xOf (labels_Order_1_h N)⟩], []⟩
theorem w54i0Gok (N : Nat) : GOk Try.prog TT EE (w54i0G N) := GOk.consx (xOf_ok (labels_Order_1_hok N)) (GOk.nil EQT_ok)
def w54i0kL2 (c : Code) : List It2 := atL 2 c
def w54i0sL2 (x0 : List VLabel) (x1 : List VLabel) (x11 : List VLabel) (x12 : Int) (x13 : Int) : TS EE.T := ⟨39, [(0, .a (.d (.sl (.nam 2)) x0)), (1, .a (.d (.sl (.nam 2)) x1)), (2, .fn 55 []), (11, .a (.d (.sl (.nam 2)) x11)), (12, .a (.d (.int .i64) x12)), (13, .a (.d (.int .i64) x13))], [], []⟩
def w54i0kE0 (c : Code) : List It2 := [.c c]
def w54i0sE0 (x0 : List VLabel) (x1 : List VLabel) : TS EE.T := ⟨39, [(0, .a (.d (.sl (.nam 2)) x0)), (1, .a (.d (.sl (.nam 2)) x1)), (2, .fn 55 [])], [], []⟩
def w54i0TL2 (c : Code) (N : Nat) (n : Nat) (x0 : List VLabel) (x1 : List VLabel) (x11 : List VLabel) (x12 : Int) (x13 : Int) : Tree (Lf EE.T × Option Int) :=
  .cond (decide (x13 < x12))
  (
    .bnd (idxC x11 x13) fun z1 =>
    .cond (decide (x13 ≥ (x1.length : Int)))
    (
      .leaf (.done (w54i0enc 1), some 1))
    (
      .bnd (idxC x1 x13) fun z2 =>
      .bnd (labels_Order_1 N z1 z2) fun z3 =>
      .cond (z3 != 0)
      (
        .leaf (.done (w54i0enc z3), some z3))
      (
        .leaf (.go (w54i0kL2 c) (w54i0sL2 x0 x1 x11 x12 (w64 (x13 + 1))), slices_CompareFunc_api_Label_api_Label_api_Label_api_Label__i0_L2 N n x0 x1 x11 x12 (w64 (x13 + 1))))))
  (
    .cond (decide ((x0.length : Int) < (x1.length : Int)))
    (
      .leaf (.done (w54i0enc (-1)), some (-1)))
    (
      .leaf (.done (w54i0enc 0), some 0)))
theorem w54i0vL2 (N : Nat) (n : Nat) (x0 : List VLabel) (x1 : List VLabel) (x11 : List VLabel) (x12 : Int) (x13 : Int) : evM TT EE (w54i0G N) w54i0lv w54i0rs 4000 true (w54i0kL2 (bodyOf 0 Try.f54)) (w54i0sL2 x0 x1 x11 x12 x13) = (w54i0TL2 (bodyOf 0 Try.f54) N n x0 x1 x11 x12 x13).map1 := by kernel_rfl
theorem w54i0nL2 (N : Nat) (n : Nat) (x0 : List VLabel) (x1 : List VLabel) (x11 : List VLabel) (x12 : Int) (x13 : Int) : slices_CompareFunc_api_Label_api_Label_api_Label_api_Label__i0_L2 N (n + 1) x0 x1 x11 x12 x13 = (w54i0TL2 (bodyOf 0 Try.f54) N n x0 x1 x11 x12 x13).run := by kernel_rfl
theorem w54i0oL2 {N : Nat} {r : Int} : ∀ (n : Nat) (x0 : List VLabel) (x1 : List VLabel) (x11 : List VLabel) (x12 : Int) (x13 : Int), slices_CompareFunc_api_Label_api_Label_api_Label_api_Label__i0_L2 N n x0 x1 x11 x12 x13 = some r → Ends (Y := TT) EE (w54i0G N) w54i0lv w54i0rs (fun u => u = w54i0enc r) (w54i0kL2 (bodyOf 0 Try.f54)) (w54i0sL2 x0 x1 x11 x12 x13)
  | 0, _, _, _, _, _, h => by cases h
  | n + 1, x0, x1, x11, x12, x13, h => tree_use (w54i0vL2 N n x0 x1 x11 x12 x13) (w54i0nL2 N n x0 x1 x11 x12 x13) h (show (w54i0TL2 (bodyOf 0 Try.f54) N n x0 x1 x11 x12 x13).all _ from ⟨fun _ => ⟨retp (enc := w54i0enc) rfl, fun _ => fun _ => ⟨retp (enc := w54i0enc) rfl, fun h => (w54i0oL2 n) _ _ _ _ _ h⟩⟩, ⟨retp (enc := w54i0enc) rfl, retp (enc := w54i0enc) rfl⟩⟩)
def w54i0TE0 (c : Code) (N : Nat) (x0 : List VLabel) (x1 : List VLabel) : Tree (Lf EE.T × Option Int) :=
  .leaf (.go (w54i0kL2 c) (w54i0sL2 x0 x1 x0 (x0.length : Int) 0), slices_CompareFunc_api_Label_api_Label_api_Label_api_Label__i0_L2 N N x0 x1 x0 (x0.length : Int) 0)
theorem w54i0vE0 (N : Nat) (x0 : List VLabel) (x1 : List VLabel) : evM TT EE (w54i0G N) w54i0lv w54i0rs 4000 true (w54i0kE0 (bodyOf 0 Try.f54)) (w54i0sE0 x0 x1) = (w54i0TE0 (bodyOf 0 Try.f54) N x0 x1).map1 := by kernel_rfl
theorem w54i0nE0 (N : Nat) (x0 : List VLabel) (x1 : List VLabel) : slices_CompareFunc_api_Label_api_Label_api_Label_api_Label__i0 N x0 x1 = (w54i0TE0 (bodyOf 0 Try.f54) N x0 x1).run := by kernel_rfl
theorem w54i0oE0 {N : Nat} {r : Int} (x0 : List VLabel) (x1 : List VLabel) (h : slices_CompareFunc_api_Label_api_Label_api_Label_api_Label__i0 N x0 x1 = some r) : Ends (Y := TT) EE (w54i0G N) w54i0lv w54i0rs (fun u => u = w54i0enc r) (w54i0kE0 (bodyOf 0 Try.f54)) (w54i0sE0 x0 x1) :=
  tree_use (w54i0vE0 N x0 x1) (w54i0nE0 N x0 x1) h (show (w54i0TE0 (bodyOf 0 Try.f54) N x0 x1).all _ from fun h => w54i0oL2 N _ _ _ _ _ h)
def w54i0us (x0 : List VLabel) (x1 : List VLabel) : List (TV EE.T) := [.a (.d (.sl (.nam 2)) x0), .a (.d (.sl (.nam 2)) x1), .fn 55 []]
def w54i0h0 (x0 : List VLabel) (x1 : List VLabel) : List (Nat × TB EE.T) := []
theorem slices_CompareFunc_api_Label_api_Label_api_Label_api_Label__i0_ok {N : Nat} (x0 : List VLabel) (x1 : List VLabel) {r : Int} (h : slices_CompareFunc_api_Label_api_Label_api_Label_api_Label__i0 N x0 x1 = some r) (ρ : Nat → Nat) (hi : Inj ρ (w54i0h0 x0 x1)) : ACalls Try.prog 54 ((w54i0us x0 x1).map (TV.to EE.toEnc ρ)) (hTo EE.toEnc ρ (w54i0h0 x0 x1)) (fun out H => out = .ret ((slices_CompareFunc_api_Label_api_Label_api_Label_api_Label__i0_u r).to EE.toEnc ρ) ∧ H = hTo EE.toEnc ρ (w54i0hh r)) :=
  (fn_okH (bodyOf 0 Try.f54) 39 mixed (w54i0Gok N) Try.func54 (by kernel_rfl) rfl rfl rfl rfl (w54i0oE0 x0 x1 h) ρ hi).mono fun out H h => KPost.retH rfl rfl h
def slices_CompareFunc_api_Label_api_Label_api_Label_api_Label__i0_h (N : Nat) (us : List (TV EE.T)) (hs : List (Nat × TB EE.T)) : XR EE.T :=
  gdX (lenX us 3) <|
  bnX (aD (.sl (.nam 2)) us 0) fun x0 =>
  bnX (aD (.sl (.nam 2)) us 1) fun x1 =>
  bnX (aF 55 us 2) fun c2 =>
  bnX (cbs c2) fun s2 =>
  gdX (lenX s2 0) <|
  gdX (goodIds hs []) <|
  .ret (slices_CompareFunc_api_Label_api_Label_api_Label_api_Label__i0 N x0 x1) [] slices_CompareFunc_api_Label_api_Label_api_Label_api_Label__i0_u (w54i0hh)
theorem slices_CompareFunc_api_Label_api_Label_api_Label_api_Label__i0_hok (N : Nat) : XOk Try.prog EE 54 (slices_CompareFunc_api_Label_api_Label_api_Label_api_Label__i0_h N) := fun us hs =>
  gdX_ok fun h1 => bnX_ok fun x0 h2 => bnX_ok fun x1 h3 => bnX_ok fun c2 h4 => bnX_ok fun s2 h5 => gdX_ok fun h6 => gdX_ok fun h7 => fun z hz => ⟨rfl, fun ρ hi => xcall (us' := w54i0us x0 x1) (h0 := w54i0h0 x0 x1) (ρ' := rhoS ρ []) ⟨aD_le h2, aD_le h3, aF_le (js := []) h4 h5 (by rw [lis0 (lenX_ok h6)];  kernel_rfl), lenX_ok h1⟩ trivial (slices_CompareFunc_api_Label_api_Label_api_Label_api_Label__i0_ok x0 x1 hz _ (rhoS_inj hi h7 _ (by kernel_rfl))) (fun out H h => ⟨h.1.trans (by kernel_rfl), h.2.trans (by kernel_rfl)⟩)⟩
def labels_Order_u (r : Int) : TV EE.T := .a (.d (.int .i64) r)
def w27enc (r : Int) : RL EE.T := .ret (labels_Order_u r) []
def w27lv : Lvs := ⟨[], [], [], [], false, [], []⟩
def w27rs : List ResultVar := [.tmp 4]
def w27G (N : Nat) : Gam EE := ⟨[], EQT, [⟨54, slices_CompareFunc_api_Label_api_Label_api_Label_api_Label__i0_h N⟩], []⟩
theorem w27Gok (N : Nat) : GOk Try.prog TT EE (w27G N) := GOk.consx (slices_CompareFunc_api_Label_api_Label_api_Label_api_Label__i0_hok N) (GOk.nil EQT_ok)
def w27kE0 (c : Code) : List It2 := [.c c]
def w27sE0 (x0 : List VLabel) (x1 : List VLabel) : TS EE.T := ⟨8, [(0, .a (.d (.sl (.nam 2)) x0)), (1, .a (.d (.sl (.nam 2)) x1))], [], []⟩
def w27TE0 (c : Code) (N : Nat) (x0 : List VLabel) (x1 : List VLabel) : Tree (Lf EE.T × Option Int) :=
  .bnd (slices_CompareFunc_api_Label_api_Label_api_Label_api_Label__i0 N x0 x1) fun z1 =>
  .leaf (.done (w27enc z1), some z1)
theorem w27vE0 (N : Nat) (x0 : List VLabel) (x1 : List VLabel) : evM TT EE (w27G N) w27lv w27rs 4000 true (w27kE0 (bodyOf 0 Try.f27)) (w27sE0 x0 x1) = (w27TE0 (bodyOf 0 Try.f27) N x0 x1).map1 := by kernel_rfl
theorem w27nE0 (N : Nat) (x0 : List VLabel) (x1 : List VLabel) : labels_Order N x0 x1 = (w27TE0 (bodyOf 0 Try.f27) N x0 x1).run := by kernel_rfl
theorem w27oE0 {N : Nat} {r : Int} (x0 : List VLabel) (x1 : List VLabel) (h : labels_Order N x0 x1 = some r) : Ends (Y := TT) EE (w27G N) w27lv w27rs (fun u => u = w27enc r) (w27kE0 (bodyOf 0 Try.f27)) (w27sE0 x0 x1) :=
  tree_use (w27vE0 N x0 x1) (w27nE0 N x0 x1) h (show (w27TE0 (bodyOf 0 Try.f27) N x0 x1).all _ from fun _ => retp (enc := w27enc) rfl)
theorem labels_Order_ok {N : Nat} (x0 : List VLabel) (x1 : List VLabel) {r : Int} (h : labels_Order N x0 x1 = some r) (ρ : Nat → Nat) : ACalls Try.prog 27 (([.a (.d (.sl (.nam 2)) x0), .a (.d (.sl (.nam 2)) x1)] : List (TV EE.T)).map (TV.to EE.toEnc ρ)) [] (fun out H => out = .ret ((labels_Order_u r).to EE.toEnc ρ) ∧ H = []) :=
  (fn_ok (bodyOf 0 Try.f27) 8 mixed (w27Gok N) Try.func27 (by kernel_rfl) rfl rfl rfl rfl (w27oE0 x0 x1 h) ρ).mono fun out H h => KPost.ret rfl h
def labels_Order_h (N : Nat) : List (TV EE.T) → PV EE.T
  | [u0, u1] => match argD (.sl (.nam 2)) u0, argD (.sl (.nam 2)) u1 with
    | some x0, some x1 => .opt (labels_Order N x0 x1) labels_Order_u
    | _, _ => .bad
  | _ => .bad
theorem labels_Order_hok (N : Nat) (us : List (TV EE.T)) : (labels_Order_h N us).ok fun u => ∀ ρ, ACalls Try.prog 27 (us.map (TV.to EE.toEnc ρ)) [] (fun out H => out = .ret (u.to EE.toEnc ρ) ∧ H = []) := by
  unfold labels_Order_h
  split
  · split
    · rename_i h0 h1
      intro z hz ρ; refine acalls_le ?_ (labels_Order_ok _ _ hz ρ); exact ⟨argD_le h0 ρ, argD_le h1 ρ, trivial⟩
    · trivial
  · trivial
def slices_IndexFunc_api_Sample_api_Sample__i0_u (r : Int) : TV EE.T := .a (.d (.int .i64) r)
def w53i0hh (r : Int) : List (Nat × TB EE.T) := []
def w53i0enc (r : Int) : RL EE.T := .ret (slices_IndexFunc_api_Sample_api_Sample__i0_u r) (w53i0hh r)
def w53i0lv : Lvs := ⟨[], [(2, ⟨[(0, false), (1, false), (7, false), (8, false)], [], []⟩)], [], [], false, [], []⟩
def w53i0rs : List ResultVar := [.tmp 4]
def w53i0G (N : Nat) : Gam EE := ⟨[], EQT, [⟨25, xOf (take_Check_1_h N)⟩], []⟩
theorem w53i0Gok (N : Nat) : GOk Try.prog TT EE (w53i0G N) := GOk.consx (xOf_ok (take_Check_1_hok N)) (GOk.nil EQT_ok)
def w53i0kL2 (c : Code) : List It2 := atL 2 c
def w53i0sL2 (x0 : List VSample) (x7 : Int) (x8 : Int) : TS EE.T := ⟨19, [(0, .a (.d (.sl (.nam 3)) x0)), (1, .fn 25 []), (7, .a (.d (.int .i64) x7)), (8, .a (.d (.int .i64) x8))], [], []⟩
def w53i0kE0 (c : Code) : List It2 := [.c c]
def w53i0sE0 (x0 : List VSample) : TS EE.T := ⟨19, [(0, .a (.d (.sl (.nam 3)) x0)), (1, .fn 25 [])], [], []⟩
def w53i0TL2 (c : Code) (N : Nat) (n : Nat) (x0 : List VSample) (x7 : Int) (x8 : Int) : Tree (Lf EE.T × Option Int) :=
  .cond (decide (x8 < x7))
  (
    .bnd (idxC x0 x8) fun z1 =>
    .bnd (take_Check_1 N z1) fun z2 =>
    .cond (z2)
    (
      .leaf (.done (w53i0enc x8), some x8))
    (
      .leaf (.go (w53i0kL2 c) (w53i0sL2 x0 x7 (w64 (x8 + 1))), slices_IndexFunc_api_Sample_api_Sample__i0_L2 N n x0 x7 (w64 (x8 + 1)))))
  (
    .leaf (.done (w53i0enc (-1)), some (-1)))
theorem w53i0vL2 (N : Nat) (n : Nat) (x0 : List VSample) (x7 : Int) (x8 : Int) : evM TT EE (w53i0G N) w53i0lv w53i0rs 4000 true (w53i0kL2 (bodyOf 0 Try.f53)) (w53i0sL2 x0 x7 x8) = (w53i0TL2 (bodyOf 0 Try.f53) N n x0 x7 x8).map1 := by kernel_rfl
theorem w53i0nL2 (N : Nat) (n : Nat) (x0 : List VSample) (x7 : Int) (x8 : Int) : slices_IndexFunc_api_Sample_api_Sample__i0_L2 N (n + 1) x0 x7 x8 = (w53i0TL2 (bodyOf 0 Try.f53) N n x0 x7 x8).run := by kernel_rfl
theorem w53i0oL2 {N : Nat} {r : Int} : ∀ (n : Nat) (x0 : List VSample) (x7 : Int) (x8 : Int), slices_IndexFunc_api_Sample_api_Sample__i0_L2 N n x0 x7 x8 = some r → Ends (Y := TT) EE (w53i0G N) w53i0lv w53i0rs (fun u => u = w53i0enc r) (w53i0kL2 (bodyOf 0 Try.f53)) (w53i0sL2 x0 x7 x8)
  | 0, _, _, _, h => by cases h
  | n + 1, x0, x7, x8, h => tree_use (w53i0vL2 N n x0 x7 x8) (w53i0nL2 N n x0 x7 x8) h (show (w53i0TL2 (bodyOf 0 Try.f53) N n x0 x7 x8).all _ from ⟨fun _ => fun _ => ⟨retp (enc := w53i0enc) rfl, fun h => (w53i0oL2 n) _ _ _ h⟩, retp (enc := w53i0enc) rfl⟩)
def w53i0TE0 (c : Code) (N : Nat) (x0 : List VSample) : Tree (Lf EE.T × Option Int) :=
  .leaf (.go (w53i0kL2 c) (w53i0sL2 x0 (x0.length : Int) 0), slices_IndexFunc_api_Sample_api_Sample__i0_L2 N N x0 (x0.length : Int) 0)
theorem w53i0vE0 (N : Nat) (x0 : List VSample) : evM TT EE (w53i0G N) w53i0lv w53i0rs 4000 true (w53i0kE0 (bodyOf 0 Try.f53)) (w53i0sE0 x0) = (w53i0TE0 (bodyOf 0 Try.f53) N x0).map1 := by kernel_rfl
theorem w53i0nE0 (N : Nat) (x0 : List VSample) : slices_IndexFunc_api_Sample_api_Sample__i0 N x0 = (w53i0TE0 (bodyOf 0 Try.f53) N x0).run := by kernel_rfl
theorem w53i0oE0 {N : Nat} {r : Int} (x0 : List VSample) (h : slices_IndexFunc_api_Sample_api_Sample__i0 N x0 = some r) : Ends (Y := TT) EE (w53i0G N) w53i0lv w53i0rs (fun u => u = w53i0enc r) (w53i0kE0 (bodyOf 0 Try.f53)) (w53i0sE0 x0) :=
  tree_use (w53i0vE0 N x0) (w53i0nE0 N x0) h (show (w53i0TE0 (bodyOf 0 Try.f53) N x0).all _ from fun h => w53i0oL2 N _ _ _ h)
def w53i0us (x0 : List VSample) : List (TV EE.T) := [.a (.d (.sl (.nam 3)) x0), .fn 25 []]
def w53i0h0 (x0 : List VSample) : List (Nat × TB EE.T) := []
theorem slices_IndexFunc_api_Sample_api_Sample__i0_ok {N : Nat} (x0 : List VSample) {r : Int} (h : slices_IndexFunc_api_Sample_api_Sample__i0 N x0 = some r) (ρ : Nat → Nat) (hi : Inj ρ (w53i0h0 x0)) : ACalls Try.prog 53 ((w53i0us x0).map (TV.to EE.toEnc ρ)) (hTo EE.toEnc ρ (w53i0h0 x0)) (fun out H => out = .ret ((slices_IndexFunc_api_Sample_api_Sample__i0_u r).to EE.toEnc ρ) ∧ H = hTo EE.toEnc ρ (w53i0hh r)) :=
  (fn_okH (bodyOf 0 Try.f53) 19 mixed (w53i0Gok N) Try.func53 (by kernel_rfl) rfl rfl rfl rfl (w53i0oE0 x0 h) ρ hi).mono fun out H h => KPost.retH rfl rfl h
def slices_IndexFunc_api_Sample_api_Sample__i0_h (N : Nat) (us : List (TV EE.T)) (hs : List (Nat × TB EE.T)) : XR EE.T :=
  gdX (lenX us 2) <|
  bnX (aD (.sl (.nam 3)) us 0) fun x0 =>
  bnX (aF 25 us 1) fun c1 =>
  bnX (cbs c1) fun s1 =>
  gdX (lenX s1 0) <|
  gdX (goodIds hs []) <|
  .ret (slices_IndexFunc_api_Sample_api_Sample__i0 N x0) [] slices_IndexFunc_api_Sample_api_Sample__i0_u (w53i0hh)
theorem slices_IndexFunc_api_Sample_api_Sample__i0_hok (N : Nat) : XOk Try.prog EE 53 (slices_IndexFunc_api_Sample_api_Sample__i0_h N) := fun us hs =>
  gdX_ok fun h1 => bnX_ok fun x0 h2 => bnX_ok fun c1 h3 => bnX_ok fun s1 h4 => gdX_ok fun h5 => gdX_ok fun h6 => fun z hz => ⟨rfl, fun ρ hi => xcall (us' := w53i0us x0) (h0 := w53i0h0 x0) (ρ' := rhoS ρ []) ⟨aD_le h2, aF_le (js := []) h3 h4 (by rw [lis0 (lenX_ok h5)];  kernel_rfl), lenX_ok h1⟩ trivial (slices_IndexFunc_api_Sample_api_Sample__i0_ok x0 hz _ (rhoS_inj hi h6 _ (by kernel_rfl))) (fun out H h => ⟨h.1.trans (by kernel_rfl), h.2.trans (by kernel_rfl)⟩)⟩
def slices_ContainsFunc_api_Sample_api_Sample__i0_u (r : Bool) : TV EE.T := .a (.d .bool r)
def w24i0hh (r : Bool) : List (Nat × TB EE.T) := []
def w24i0enc (r : Bool) : RL EE.T := .ret (slices_ContainsFunc_api_Sample_api_Sample__i0_u r) (w24i0hh r)
def w24i0lv : Lvs := ⟨[], [], [], [], false, [], []⟩
def w24i0rs : List ResultVar := [.tmp 4]
def w24i0G (N : Nat) : Gam EE := ⟨[], EQT, [⟨53, slices_IndexFunc_api_Sample_api_Sample__i0_h N⟩], []⟩
theorem w24i0Gok (N : Nat) : GOk Try.prog TT EE (w24i0G N) := GOk.consx (slices_IndexFunc_api_Sample_api_Sample__i0_hok N) (GOk.nil EQT_ok)
def w24i0kE0 (c : Code) : List It2 := [.c c]
def w24i0sE0 (x0 : List VSample) : TS EE.T := ⟨9, [(0, .a (.d (.sl (.nam 3)) x0)), (1, .fn 25 [])], [], []⟩
def w24i0TE0 (c : Code) (N : Nat) (x0 : List VSample) : Tree (Lf EE.T × Option Bool) :=
  .bnd (slices_IndexFunc_api_Sample_api_Sample__i0 N x0) fun z1 =>
  .leaf (.done (w24i0enc (decide (z1 ≥ 0))), some (decide (z1 ≥ 0)))
theorem w24i0vE0 (N : Nat) (x0 : List VSample) : evM TT EE (w24i0G N) w24i0lv w24i0rs 4000 true (w24i0kE0 (bodyOf 0 Try.f24)) (w24i0sE0 x0) = (w24i0TE0 (bodyOf 0 Try.f24) N x0).map1 := by kernel_rfl
theorem w24i0nE0 (N : Nat) (x0 : List VSample) : slices_ContainsFunc_api_Sample_api_Sample__i0 N x0 = (w24i0TE0 (bodyOf 0 Try.f24) N x0).run := by kernel_rfl
theorem w24i0oE0 {N : Nat} {r : Bool} (x0 : List VSample) (h : slices_ContainsFunc_api_Sample_api_Sample__i0 N x0 = some r) : Ends (Y := TT) EE (w24i0G N) w24i0lv w24i0rs (fun u => u = w24i0enc r) (w24i0kE0 (bodyOf 0 Try.f24)) (w24i0sE0 x0) :=
  tree_use (w24i0vE0 N x0) (w24i0nE0 N x0) h (show (w24i0TE0 (bodyOf 0 Try.f24) N x0).all _ from fun _ => retp (enc := w24i0enc) rfl)
def w24i0us (x0 : List VSample) : List (TV EE.T) := [.a (.d (.sl (.nam 3)) x0), .fn 25 []]
def w24i0h0 (x0 : List VSample) : List (Nat × TB EE.T) := []
theorem slices_ContainsFunc_api_Sample_api_Sample__i0_ok {N : Nat} (x0 : List VSample) {r : Bool} (h : slices_ContainsFunc_api_Sample_api_Sample__i0 N x0 = some r) (ρ : Nat → Nat) (hi : Inj ρ (w24i0h0 x0)) : ACalls Try.prog 24 ((w24i0us x0).map (TV.to EE.toEnc ρ)) (hTo EE.toEnc ρ (w24i0h0 x0)) (fun out H => out = .ret ((slices_ContainsFunc_api_Sample_api_Sample__i0_u r).to EE.toEnc ρ) ∧ H = hTo EE.toEnc ρ (w24i0hh r)) :=
  (fn_okH (bodyOf 0 Try.f24) 9 mixed (w24i0Gok N) Try.func24 (by kernel_rfl) rfl rfl rfl rfl (w24i0oE0 x0 h) ρ hi).mono fun out H h => KPost.retH rfl rfl h
def slices_ContainsFunc_api_Sample_api_Sample__i0_h (N : Nat) (us : List (TV EE.T)) (hs : List (Nat × TB EE.T)) : XR EE.T :=
  gdX (lenX us 2) <|
  bnX (aD (.sl (.nam 3)) us 0) fun x0 =>
  bnX (aF 25 us 1) fun c1 =>
  bnX (cbs c1) fun s1 =>
  gdX (lenX s1 0) <|
  gdX (goodIds hs []) <|
  .ret (slices_ContainsFunc_api_Sample_api_Sample__i0 N x0) [] slices_ContainsFunc_api_Sample_api_Sample__i0_u (w24i0hh)
theorem slices_ContainsFunc_api_Sample_api_Sample__i0_hok (N : Nat) : XOk Try.prog EE 24 (slices_ContainsFunc_api_Sample_api_Sample__i0_h N) := fun us hs =>
  gdX_ok fun h1 => bnX_ok fun x0 h2 => bnX_ok fun c1 h3 => bnX_ok fun s1 h4 => gdX_ok fun h5 => gdX_ok fun h6 => fun z hz => ⟨rfl, fun ρ hi => xcall (us' := w24i0us x0) (h0 := w24i0h0 x0) (ρ' := rhoS ρ []) ⟨aD_le h2, aF_le (js := []) h3 h4 (by rw [lis0 (lenX_ok h5)];  kernel_rfl), lenX_ok h1⟩ trivial (slices_ContainsFunc_api_Sample_api_Sample__i0_ok x0 hz _ (rhoS_inj hi h6 _ (by kernel_rfl))) (fun out H h => ⟨h.1.trans (by kernel_rfl), h.2.trans (by kernel_rfl)⟩)⟩
def take_Check_u (r : Int) : TV EE.T := .a (.d (.int .i64) r)
def w9enc (r : Int) : RL EE.T := .ret (take_Check_u r) []
def w9lv : Lvs := ⟨[(14, ⟨[(0, false), (4, false), (6, false), (10, false), (11, false), (12, false)], [], [(4, (some 4, []))]⟩), (20, ⟨[(0, false), (7, false)], [], []⟩)], [(4, ⟨[(0, false), (10, false), (11, false), (12, false)], [], []⟩), (12, ⟨[(0, false), (4, false), (6, false), (10, false), (11, false), (12, false)], [], [(4, (some 4, []))]⟩), (18, ⟨[(0, false), (7, false)], [], []⟩)], [], [], false, [], []⟩
def w9rs : List ResultVar := [.tmp 2]
def w9G (N : Nat) : Gam EE := ⟨[⟨23, labels_Check_h N⟩, ⟨27, labels_Order_h N⟩, ⟨22, take_many_h N⟩], EQT, [⟨24, slices_ContainsFunc_api_Sample_api_Sample__i0_h N⟩], []⟩
theorem w9Gok (N : Nat) : GOk Try.prog TT EE (w9G N) := GOk.cons (labels_Check_hok N) (GOk.cons (labels_Order_hok N) (GOk.cons (take_many_hok N) (GOk.consx (slices_ContainsFunc_api_Sample_api_Sample__i0_hok N) (GOk.nil EQT_ok))))
def w9kL12 (c : Code) : List It2 := atL 12 c
def w9sL12 (x0 : List VSeries) (x6 : Int) (x10 : List VSeries) (x11 : Int) (x12 : Int) (b4 : VSeries) : TS EE.T := ⟨72, [(0, .a (.d (.sl (.nam 4)) x0)), (4, .a (.box 4 0)), (6, .a (.d (.int .i64) x6)), (10, .a (.d (.sl (.nam 4)) x10)), (11, .a (.d (.int .i64) x11)), (12, .a (.d (.int .i64) x12))], [(4, .cs (unpT EE (.nam 4) b4))], []⟩
def w9kL18 (c : Code) : List It2 := atL 18 c
def w9sL18 (x0 : List VSeries) (x7 : Int) : TS EE.T := ⟨72, [(0, .a (.d (.sl (.nam 4)) x0)), (7, .a (.d (.int .i64) x7))], [], []⟩
def w9kL4 (c : Code) : List It2 := atL 4 c
def w9sL4 (x0 : List VSeries) (x10 : List VSeries) (x11 : Int) (x12 : Int) : TS EE.T := ⟨72, [(0, .a (.d (.sl (.nam 4)) x0)), (10, .a (.d (.sl (.nam 4)) x10)), (11, .a (.d (.int .i64) x11)), (12, .a (.d (.int .i64) x12))], [], []⟩
def w9kE0 (c : Code) : List It2 := [.c c]
def w9sE0 (x0 : List VSeries) : TS EE.T := ⟨72, [(0, .a (.d (.sl (.nam 4)) x0))], [], []⟩
def w9TL12 (c : Code) (N : Nat) (k4 : (List VSeries) → (List VSeries) → Int → Int → Option Int) (n : Nat) (x0 : List VSeries) (x6 : Int) (x10 : List VSeries) (x11 : Int) (x12 : Int) (b4 : VSeries) : Tree (Lf EE.T × Option Int) :=
  .cond (decide (x6 < (b4.Samples.length : Int)))
  (
    .bnd (idxC b4.Samples x6) fun z5 =>
    .bnd (idxC b4.Samples (w64 (x6 - 1))) fun z6 =>
    .cond (decide (z5.Time ≤ z6.Time))
    (
      .leaf (.done (w9enc 4), some 4))
    (
      .leaf (.go (w9kL12 c) (w9sL12 x0 (w64 (x6 + 1)) x10 x11 x12 b4), take_Check_L12 N k4 n x0 (w64 (x6 + 1)) x10 x11 x12 b4)))
  (
    .leaf (.go (w9kL4 c) (w9sL4 x0 x10 x11 (w64 (x12 + 1))), k4 x0 x10 x11 (w64 (x12 + 1))))
theorem w9vL12 (N : Nat) (k4 : (List VSeries) → (List VSeries) → Int → Int → Option Int) (n : Nat) (x0 : List VSeries) (x6 : Int) (x10 : List VSeries) (x11 : Int) (x12 : Int) (b4 : VSeries) : evM TT EE (w9G N) w9lv w9rs 4000 true (w9kL12 (bodyOf 0 Try.f9)) (w9sL12 x0 x6 x10 x11 x12 b4) = (w9TL12 (bodyOf 0 Try.f9) N k4 n x0 x6 x10 x11 x12 b4).map1 := by kernel_rfl
theorem w9nL12 (N : Nat) (k4 : (List VSeries) → (List VSeries) → Int → Int → Option Int) (n : Nat) (x0 : List VSeries) (x6 : Int) (x10 : List VSeries) (x11 : Int) (x12 : Int) (b4 : VSeries) : take_Check_L12 N k4 (n + 1) x0 x6 x10 x11 x12 b4 = (w9TL12 (bodyOf 0 Try.f9) N k4 n x0 x6 x10 x11 x12 b4).run := by kernel_rfl
theorem w9oL12 {N : Nat} {r : Int} {k4 : (List VSeries) → (List VSeries) → Int → Int → Option Int} (hk4 : ∀ x0 x10 x11 x12, k4 x0 x10 x11 x12 = some r → Ends (Y := TT) EE (w9G N) w9lv w9rs (fun u => u = w9enc r) (w9kL4 (bodyOf 0 Try.f9)) (w9sL4 x0 x10 x11 x12)) : ∀ (n : Nat) (x0 : List VSeries) (x6 : Int) (x10 : List VSeries) (x11 : Int) (x12 : Int) (b4 : VSeries), take_Check_L12 N k4 n x0 x6 x10 x11 x12 b4 = some r → Ends (Y := TT) EE (w9G N) w9lv w9rs (fun u => u = w9enc r) (w9kL12 (bodyOf 0 Try.f9)) (w9sL12 x0 x6 x10 x11 x12 b4)
  | 0, _, _, _, _, _, _, h => by cases h
  | n + 1, x0, x6, x10, x11, x12, b4, h => tree_use (w9vL12 N k4 n x0 x6 x10 x11 x12 b4) (w9nL12 N k4 n x0 x6 x10 x11 x12 b4) h (show (w9TL12 (bodyOf 0 Try.f9) N k4 n x0 x6 x10 x11 x12 b4).all _ from ⟨fun _ => fun _ => ⟨retp (enc := w9enc) rfl, fun h => (w9oL12 hk4 n) _ _ _ _ _ _ h⟩, fun h => hk4 _ _ _ _ h⟩)
def w9TL18 (c : Code) (N : Nat) (n : Nat) (x0 : List VSeries) (x7 : Int) : Tree (Lf EE.T × Option Int) :=
  .cond (decide (x7 < (x0.length : Int)))
  (
    .bnd (idxC x0 (w64 (x7 - 1))) fun z7 =>
    .bnd (idxC x0 x7) fun z8 =>
    .bnd (labels_Order N z7.Labels z8.Labels) fun z9 =>
    .cond (decide (z9 ≥ 0))
    (
      .leaf (.done (w9enc 4), some 4))
    (
      .leaf (.go (w9kL18 c) (w9sL18 x0 (w64 (x7 + 1))), take_Check_L18 N n x0 (w64 (x7 + 1)))))
  (
    .leaf (.done (w9enc 0), some 0))
theorem w9vL18 (N : Nat) (n : Nat) (x0 : List VSeries) (x7 : Int) : evM TT EE (w9G N) w9lv w9rs 4000 true (w9kL18 (bodyOf 0 Try.f9)) (w9sL18 x0 x7) = (w9TL18 (bodyOf 0 Try.f9) N n x0 x7).map1 := by kernel_rfl
theorem w9nL18 (N : Nat) (n : Nat) (x0 : List VSeries) (x7 : Int) : take_Check_L18 N (n + 1) x0 x7 = (w9TL18 (bodyOf 0 Try.f9) N n x0 x7).run := by kernel_rfl
theorem w9oL18 {N : Nat} {r : Int} : ∀ (n : Nat) (x0 : List VSeries) (x7 : Int), take_Check_L18 N n x0 x7 = some r → Ends (Y := TT) EE (w9G N) w9lv w9rs (fun u => u = w9enc r) (w9kL18 (bodyOf 0 Try.f9)) (w9sL18 x0 x7)
  | 0, _, _, h => by cases h
  | n + 1, x0, x7, h => tree_use (w9vL18 N n x0 x7) (w9nL18 N n x0 x7) h (show (w9TL18 (bodyOf 0 Try.f9) N n x0 x7).all _ from ⟨fun _ => fun _ => fun _ => ⟨retp (enc := w9enc) rfl, fun h => (w9oL18 n) _ _ h⟩, retp (enc := w9enc) rfl⟩)
def w9TL4 (c : Code) (N : Nat) (n : Nat) (x0 : List VSeries) (x10 : List VSeries) (x11 : Int) (x12 : Int) : Tree (Lf EE.T × Option Int) :=
  .cond (decide (x12 < x11))
  (
    .bnd (idxC x10 x12) fun z2 =>
    .bnd (labels_Check N z2.Labels) fun z3 =>
    .cond (z3 != 0)
    (
      .leaf (.done (w9enc z3), some z3))
    (
      .cond ((z2.Samples.length : Int) == 0)
      (
        .leaf (.done (w9enc 3), some 3))
      (
        .bnd (slices_ContainsFunc_api_Sample_api_Sample__i0 N z2.Samples) fun z4 =>
        .cond (z4)
        (
          .leaf (.done (w9enc 3), some 3))
        (
          .leaf (.go (w9kL12 c) (w9sL12 x0 1 x10 x11 x12 z2), take_Check_L12 N (take_Check_L4 N n) n x0 1 x10 x11 x12 z2)))))
  (
    .leaf (.go (w9kL18 c) (w9sL18 x0 1), take_Check_L18 N n x0 1))
theorem w9vL4 (N : Nat) (n : Nat) (x0 : List VSeries) (x10 : List VSeries) (x11 : Int) (x12 : Int) : evM TT EE (w9G N) w9lv w9rs 4000 true (w9kL4 (bodyOf 0 Try.f9)) (w9sL4 x0 x10 x11 x12) = (w9TL4 (bodyOf 0 Try.f9) N n x0 x10 x11 x12).map1 := by kernel_rfl
theorem w9nL4 (N : Nat) (n : Nat) (x0 : List VSeries) (x10 : List VSeries) (x11 : Int) (x12 : Int) : take_Check_L4 N (n + 1) x0 x10 x11 x12 = (w9TL4 (bodyOf 0 Try.f9) N n x0 x10 x11 x12).run := by kernel_rfl
theorem w9oL4 {N : Nat} {r : Int} : ∀ (n : Nat) (x0 : List VSeries) (x10 : List VSeries) (x11 : Int) (x12 : Int), take_Check_L4 N n x0 x10 x11 x12 = some r → Ends (Y := TT) EE (w9G N) w9lv w9rs (fun u => u = w9enc r) (w9kL4 (bodyOf 0 Try.f9)) (w9sL4 x0 x10 x11 x12)
  | 0, _, _, _, _, h => by cases h
  | n + 1, x0, x10, x11, x12, h => tree_use (w9vL4 N n x0 x10 x11 x12) (w9nL4 N n x0 x10 x11 x12) h (show (w9TL4 (bodyOf 0 Try.f9) N n x0 x10 x11 x12).all _ from ⟨fun _ => fun _ => ⟨retp (enc := w9enc) rfl, ⟨retp (enc := w9enc) rfl, fun _ => ⟨retp (enc := w9enc) rfl, fun h => w9oL12 (w9oL4 n) n _ _ _ _ _ _ h⟩⟩⟩, fun h => w9oL18 n _ _ h⟩)
def w9TE0 (c : Code) (N : Nat) (x0 : List VSeries) : Tree (Lf EE.T × Option Int) :=
  .bnd (take_many N x0) fun z1 =>
  .cond (z1)
  (
    .leaf (.done (w9enc 2), some 2))
  (
    .leaf (.go (w9kL4 c) (w9sL4 x0 x0 (x0.length : Int) 0), take_Check_L4 N N x0 x0 (x0.length : Int) 0))
theorem w9vE0 (N : Nat) (x0 : List VSeries) : evM TT EE (w9G N) w9lv w9rs 4000 true (w9kE0 (bodyOf 0 Try.f9)) (w9sE0 x0) = (w9TE0 (bodyOf 0 Try.f9) N x0).map1 := by kernel_rfl
theorem w9nE0 (N : Nat) (x0 : List VSeries) : take_Check N x0 = (w9TE0 (bodyOf 0 Try.f9) N x0).run := by kernel_rfl
theorem w9oE0 {N : Nat} {r : Int} (x0 : List VSeries) (h : take_Check N x0 = some r) : Ends (Y := TT) EE (w9G N) w9lv w9rs (fun u => u = w9enc r) (w9kE0 (bodyOf 0 Try.f9)) (w9sE0 x0) :=
  tree_use (w9vE0 N x0) (w9nE0 N x0) h (show (w9TE0 (bodyOf 0 Try.f9) N x0).all _ from fun _ => ⟨retp (enc := w9enc) rfl, fun h => w9oL4 N _ _ _ _ h⟩)
theorem take_Check_ok {N : Nat} (x0 : List VSeries) {r : Int} (h : take_Check N x0 = some r) (ρ : Nat → Nat) : ACalls Try.prog 9 (([.a (.d (.sl (.nam 4)) x0)] : List (TV EE.T)).map (TV.to EE.toEnc ρ)) [] (fun out H => out = .ret ((take_Check_u r).to EE.toEnc ρ) ∧ H = []) :=
  (fn_ok (bodyOf 0 Try.f9) 72 mixed (w9Gok N) Try.func9 (by kernel_rfl) rfl rfl rfl rfl (w9oE0 x0 h) ρ).mono fun out H h => KPost.ret rfl h
def take_Check_h (N : Nat) : List (TV EE.T) → PV EE.T
  | [u0] => match argD (.sl (.nam 4)) u0 with
    | some x0 => .opt (take_Check N x0) take_Check_u
    | _ => .bad
  | _ => .bad
theorem take_Check_hok (N : Nat) (us : List (TV EE.T)) : (take_Check_h N us).ok fun u => ∀ ρ, ACalls Try.prog 9 (us.map (TV.to EE.toEnc ρ)) [] (fun out H => out = .ret (u.to EE.toEnc ρ) ∧ H = []) := by
  unfold take_Check_h
  split
  · split
    · rename_i h0
      intro z hz ρ; refine acalls_le ?_ (take_Check_ok _ hz ρ); exact ⟨argD_le h0 ρ, trivial⟩
    · trivial
  · trivial
def slices_Clone_api_Label_api_Label__u (r : List VLabel) : TV EE.T := .a (.d (.sl (.nam 2)) r)
def w58enc (r : List VLabel) : RL EE.T := .ret (slices_Clone_api_Label_api_Label__u r) []
def w58lv : Lvs := ⟨[], [], [], [], false, [], []⟩
def w58rs : List ResultVar := [.tmp 2]
def w58G (N : Nat) : Gam EE := ⟨[], EQT, [], []⟩
theorem w58Gok (N : Nat) : GOk Try.prog TT EE (w58G N) := GOk.nil EQT_ok
def w58kE0 (c : Code) : List It2 := [.c c]
def w58sE0 (x0 : List VLabel) : TS EE.T := ⟨8, [(0, .a (.d (.sl (.nam 2)) x0))], [], []⟩
def w58TE0 (c : Code) (N : Nat) (x0 : List VLabel) : Tree (Lf EE.T × Option (List VLabel)) :=
  .nl (x0)
  (
    .leaf (.done (w58enc ([] : List VLabel)), some ([] : List VLabel)))
  (
    .bnd (appC 32 ([] : List VLabel) x0) fun z1 =>
    .leaf (.done (w58enc z1), some z1))
theorem w58vE0 (N : Nat) (x0 : List VLabel) : evM TT EE (w58G N) w58lv w58rs 4000 true (w58kE0 (bodyOf 0 Try.f58)) (w58sE0 x0) = (w58TE0 (bodyOf 0 Try.f58) N x0).map1 := by kernel_rfl
theorem w58nE0 (N : Nat) (x0 : List VLabel) : slices_Clone_api_Label_api_Label_ N x0 = (w58TE0 (bodyOf 0 Try.f58) N x0).run := by kernel_rfl
theorem w58oE0 {N : Nat} {r : List VLabel} (x0 : List VLabel) (h : slices_Clone_api_Label_api_Label_ N x0 = some r) : Ends (Y := TT) EE (w58G N) w58lv w58rs (fun u => u = w58enc r) (w58kE0 (bodyOf 0 Try.f58)) (w58sE0 x0) :=
  tree_use (w58vE0 N x0) (w58nE0 N x0) h (show (w58TE0 (bodyOf 0 Try.f58) N x0).all _ from ⟨fun e => (by first | (subst e; kernel_rfl) | (rw [e]; kernel_rfl) | (simp only [e]; kernel_rfl)), retp (enc := w58enc) rfl, fun _ => retp (enc := w58enc) rfl⟩)
theorem slices_Clone_api_Label_api_Label__ok {N : Nat} (x0 : List VLabel) {r : List VLabel} (h : slices_Clone_api_Label_api_Label_ N x0 = some r) (ρ : Nat → Nat) : ACalls Try.prog 58 (([.a (.d (.sl (.nam 2)) x0)] : List (TV EE.T)).map (TV.to EE.toEnc ρ)) [] (fun out H => out = .ret ((slices_Clone_api_Label_api_Label__u r).to EE.toEnc ρ) ∧ H = []) :=
  (fn_ok (bodyOf 0 Try.f58) 8 mixed (w58Gok N) Try.func58 (by kernel_rfl) rfl rfl rfl rfl (w58oE0 x0 h) ρ).mono fun out H h => KPost.ret rfl h
def slices_Clone_api_Label_api_Label__h (N : Nat) : List (TV EE.T) → PV EE.T
  | [u0] => match argD (.sl (.nam 2)) u0 with
    | some x0 => .opt (slices_Clone_api_Label_api_Label_ N x0) slices_Clone_api_Label_api_Label__u
    | _ => .bad
  | _ => .bad
theorem slices_Clone_api_Label_api_Label__hok (N : Nat) (us : List (TV EE.T)) : (slices_Clone_api_Label_api_Label__h N us).ok fun u => ∀ ρ, ACalls Try.prog 58 (us.map (TV.to EE.toEnc ρ)) [] (fun out H => out = .ret (u.to EE.toEnc ρ) ∧ H = []) := by
  unfold slices_Clone_api_Label_api_Label__h
  split
  · split
    · rename_i h0
      intro z hz ρ; refine acalls_le ?_ (slices_Clone_api_Label_api_Label__ok _ hz ρ); exact ⟨argD_le h0 ρ, trivial⟩
    · trivial
  · trivial
def slices_Clone_api_Sample_api_Sample__u (r : List VSample) : TV EE.T := .a (.d (.sl (.nam 3)) r)
def w38enc (r : List VSample) : RL EE.T := .ret (slices_Clone_api_Sample_api_Sample__u r) []
def w38lv : Lvs := ⟨[], [], [], [], false, [], []⟩
def w38rs : List ResultVar := [.tmp 2]
def w38G (N : Nat) : Gam EE := ⟨[], EQT, [], []⟩
theorem w38Gok (N : Nat) : GOk Try.prog TT EE (w38G N) := GOk.nil EQT_ok
def w38kE0 (c : Code) : List It2 := [.c c]
def w38sE0 (x0 : List VSample) : TS EE.T := ⟨8, [(0, .a (.d (.sl (.nam 3)) x0))], [], []⟩
def w38TE0 (c : Code) (N : Nat) (x0 : List VSample) : Tree (Lf EE.T × Option (List VSample)) :=
  .nl (x0)
  (
    .leaf (.done (w38enc ([] : List VSample)), some ([] : List VSample)))
  (
    .bnd (appC 16 ([] : List VSample) x0) fun z1 =>
    .leaf (.done (w38enc z1), some z1))
theorem w38vE0 (N : Nat) (x0 : List VSample) : evM TT EE (w38G N) w38lv w38rs 4000 true (w38kE0 (bodyOf 0 Try.f38)) (w38sE0 x0) = (w38TE0 (bodyOf 0 Try.f38) N x0).map1 := by kernel_rfl
theorem w38nE0 (N : Nat) (x0 : List VSample) : slices_Clone_api_Sample_api_Sample_ N x0 = (w38TE0 (bodyOf 0 Try.f38) N x0).run := by kernel_rfl
theorem w38oE0 {N : Nat} {r : List VSample} (x0 : List VSample) (h : slices_Clone_api_Sample_api_Sample_ N x0 = some r) : Ends (Y := TT) EE (w38G N) w38lv w38rs (fun u => u = w38enc r) (w38kE0 (bodyOf 0 Try.f38)) (w38sE0 x0) :=
  tree_use (w38vE0 N x0) (w38nE0 N x0) h (show (w38TE0 (bodyOf 0 Try.f38) N x0).all _ from ⟨fun e => (by first | (subst e; kernel_rfl) | (rw [e]; kernel_rfl) | (simp only [e]; kernel_rfl)), retp (enc := w38enc) rfl, fun _ => retp (enc := w38enc) rfl⟩)
theorem slices_Clone_api_Sample_api_Sample__ok {N : Nat} (x0 : List VSample) {r : List VSample} (h : slices_Clone_api_Sample_api_Sample_ N x0 = some r) (ρ : Nat → Nat) : ACalls Try.prog 38 (([.a (.d (.sl (.nam 3)) x0)] : List (TV EE.T)).map (TV.to EE.toEnc ρ)) [] (fun out H => out = .ret ((slices_Clone_api_Sample_api_Sample__u r).to EE.toEnc ρ) ∧ H = []) :=
  (fn_ok (bodyOf 0 Try.f38) 8 mixed (w38Gok N) Try.func38 (by kernel_rfl) rfl rfl rfl rfl (w38oE0 x0 h) ρ).mono fun out H h => KPost.ret rfl h
def slices_Clone_api_Sample_api_Sample__h (N : Nat) : List (TV EE.T) → PV EE.T
  | [u0] => match argD (.sl (.nam 3)) u0 with
    | some x0 => .opt (slices_Clone_api_Sample_api_Sample_ N x0) slices_Clone_api_Sample_api_Sample__u
    | _ => .bad
  | _ => .bad
theorem slices_Clone_api_Sample_api_Sample__hok (N : Nat) (us : List (TV EE.T)) : (slices_Clone_api_Sample_api_Sample__h N us).ok fun u => ∀ ρ, ACalls Try.prog 38 (us.map (TV.to EE.toEnc ρ)) [] (fun out H => out = .ret (u.to EE.toEnc ρ) ∧ H = []) := by
  unfold slices_Clone_api_Sample_api_Sample__h
  split
  · split
    · rename_i h0
      intro z hz ρ; refine acalls_le ?_ (slices_Clone_api_Sample_api_Sample__ok _ hz ρ); exact ⟨argD_le h0 ρ, trivial⟩
    · trivial
  · trivial
def take_clone_u (r : List VSeries) : TV EE.T := .a (.d (.sl (.nam 4)) r)
def w31enc (r : List VSeries) : RL EE.T := .ret (take_clone_u r) []
def w31lv : Lvs := ⟨[(5, ⟨[(3, false), (5, false), (6, false), (7, false), (8, false)], [], [(5, (some 4, []))]⟩)], [(3, ⟨[(3, false), (6, false), (7, false), (8, false)], [], []⟩)], [], [], false, [], []⟩
def w31rs : List ResultVar := [.tmp 2]
def w31G (N : Nat) : Gam EE := ⟨[⟨58, slices_Clone_api_Label_api_Label__h N⟩, ⟨38, slices_Clone_api_Sample_api_Sample__h N⟩], EQT, [], []⟩
theorem w31Gok (N : Nat) : GOk Try.prog TT EE (w31G N) := GOk.cons (slices_Clone_api_Label_api_Label__hok N) (GOk.cons (slices_Clone_api_Sample_api_Sample__hok N) (GOk.nil EQT_ok))
def w31kL3 (c : Code) : List It2 := atL 3 c
def w31sL3 (x3 : List VSeries) (x6 : List VSeries) (x7 : Int) (x8 : Int) : TS EE.T := ⟨24, [(3, .a (.own (.nam 4) x3)), (6, .a (.d (.sl (.nam 4)) x6)), (7, .a (.d (.int .i64) x7)), (8, .a (.d (.int .i64) x8))], [], []⟩
def w31kE0 (c : Code) : List It2 := [.c c]
def w31sE0 (x0 : List VSeries) : TS EE.T := ⟨24, [(0, .a (.d (.sl (.nam 4)) x0))], [], []⟩
def w31TL3 (c : Code) (N : Nat) (n : Nat) (x3 : List VSeries) (x6 : List VSeries) (x7 : Int) (x8 : Int) : Tree (Lf EE.T × Option (List VSeries)) :=
  .cond (decide (x8 < x7))
  (
    .bnd (idxC x6 x8) fun z1 =>
    .bnd (slices_Clone_api_Label_api_Label_ N z1.Labels) fun z2 =>
    .bnd (slices_Clone_api_Sample_api_Sample_ N z1.Samples) fun z3 =>
    .bnd (appC 48 x3 ([({ Labels := z2, Samples := z3 } : VSeries)] : List VSeries)) fun z4 =>
    .leaf (.go (w31kL3 c) (w31sL3 z4 x6 x7 (w64 (x8 + 1))), take_clone_L3 N n z4 x6 x7 (w64 (x8 + 1))))
  (
    .leaf (.done (w31enc x3), some x3))
theorem w31vL3 (N : Nat) (n : Nat) (x3 : List VSeries) (x6 : List VSeries) (x7 : Int) (x8 : Int) : evM TT EE (w31G N) w31lv w31rs 4000 true (w31kL3 (bodyOf 0 Try.f31)) (w31sL3 x3 x6 x7 x8) = (w31TL3 (bodyOf 0 Try.f31) N n x3 x6 x7 x8).map1 := by kernel_rfl
theorem w31nL3 (N : Nat) (n : Nat) (x3 : List VSeries) (x6 : List VSeries) (x7 : Int) (x8 : Int) : take_clone_L3 N (n + 1) x3 x6 x7 x8 = (w31TL3 (bodyOf 0 Try.f31) N n x3 x6 x7 x8).run := by kernel_rfl
theorem w31oL3 {N : Nat} {r : List VSeries} : ∀ (n : Nat) (x3 : List VSeries) (x6 : List VSeries) (x7 : Int) (x8 : Int), take_clone_L3 N n x3 x6 x7 x8 = some r → Ends (Y := TT) EE (w31G N) w31lv w31rs (fun u => u = w31enc r) (w31kL3 (bodyOf 0 Try.f31)) (w31sL3 x3 x6 x7 x8)
  | 0, _, _, _, _, h => by cases h
  | n + 1, x3, x6, x7, x8, h => tree_use (w31vL3 N n x3 x6 x7 x8) (w31nL3 N n x3 x6 x7 x8) h (show (w31TL3 (bodyOf 0 Try.f31) N n x3 x6 x7 x8).all _ from ⟨fun _ => fun _ => fun _ => fun _ => fun h => (w31oL3 n) _ _ _ _ h, retp (enc := w31enc) rfl⟩)
def w31TE0 (c : Code) (N : Nat) (x0 : List VSeries) : Tree (Lf EE.T × Option (List VSeries)) :=
  .leaf (.go (w31kL3 c) (w31sL3 ([] : List VSeries) x0 (x0.length : Int) 0), take_clone_L3 N N ([] : List VSeries) x0 (x0.length : Int) 0)
theorem w31vE0 (N : Nat) (x0 : List VSeries) : evM TT EE (w31G N) w31lv w31rs 4000 true (w31kE0 (bodyOf 0 Try.f31)) (w31sE0 x0) = (w31TE0 (bodyOf 0 Try.f31) N x0).map1 := by kernel_rfl
theorem w31nE0 (N : Nat) (x0 : List VSeries) : take_clone N x0 = (w31TE0 (bodyOf 0 Try.f31) N x0).run := by kernel_rfl
theorem w31oE0 {N : Nat} {r : List VSeries} (x0 : List VSeries) (h : take_clone N x0 = some r) : Ends (Y := TT) EE (w31G N) w31lv w31rs (fun u => u = w31enc r) (w31kE0 (bodyOf 0 Try.f31)) (w31sE0 x0) :=
  tree_use (w31vE0 N x0) (w31nE0 N x0) h (show (w31TE0 (bodyOf 0 Try.f31) N x0).all _ from fun h => w31oL3 N _ _ _ _ h)
theorem take_clone_ok {N : Nat} (x0 : List VSeries) {r : List VSeries} (h : take_clone N x0 = some r) (ρ : Nat → Nat) : ACalls Try.prog 31 (([.a (.d (.sl (.nam 4)) x0)] : List (TV EE.T)).map (TV.to EE.toEnc ρ)) [] (fun out H => out = .ret ((take_clone_u r).to EE.toEnc ρ) ∧ H = []) :=
  (fn_ok (bodyOf 0 Try.f31) 24 mixed (w31Gok N) Try.func31 (by kernel_rfl) rfl rfl rfl rfl (w31oE0 x0 h) ρ).mono fun out H h => KPost.ret rfl h
def take_clone_h (N : Nat) : List (TV EE.T) → PV EE.T
  | [u0] => match argD (.sl (.nam 4)) u0 with
    | some x0 => .opt (take_clone N x0) take_clone_u
    | _ => .bad
  | _ => .bad
theorem take_clone_hok (N : Nat) (us : List (TV EE.T)) : (take_clone_h N us).ok fun u => ∀ ρ, ACalls Try.prog 31 (us.map (TV.to EE.toEnc ρ)) [] (fun out H => out = .ret (u.to EE.toEnc ρ) ∧ H = []) := by
  unfold take_clone_h
  split
  · split
    · rename_i h0
      intro z hz ρ; refine acalls_le ?_ (take_clone_ok _ hz ρ); exact ⟨argD_le h0 ρ, trivial⟩
    · trivial
  · trivial
end Go.Proofs.Ytmoehipmpchofaa
