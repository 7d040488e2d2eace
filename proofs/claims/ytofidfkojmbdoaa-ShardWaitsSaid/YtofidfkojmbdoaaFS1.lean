/- The walks that prove plain functions right, written by gen/tgl.py. -/
import Derived.Test.YtofidfkojmbdoaaFS1p
import Derived.Test.YtofidfkojmbdoaaIN2
import Derived.Test.YtofidfkojmbdoaaPH
import Derived.Test.YtofidfkojmbdoaaCL
namespace Go.Proofs.Ytofidfkojmbdoaa
open Go.RowKit P
set_option linter.unusedVariables false
set_option linter.unusedSimpArgs false
set_option maxRecDepth 100000
/-! ### gleaner/shard.within -/
def shard_within_u (r : Bool) : TV EE.T := .a (.d .bool r)
def w54enc (r : Bool) : RL EE.T := .ret (shard_within_u r) []
def w54lv : Lvs := ⟨[], [], [], [], false, [], []⟩
def w54rs : List ResultVar := [.tmp 6]
def w54G (N : Nat) : Gam EE := ⟨[], EQT, []⟩
theorem w54Gok (N : Nat) : GOk Try.prog TT EE (w54G N) := GOk.nil EQT_ok
def w54kE0 (c : Code) : List It2 := [.c c]
def w54sE0 (x0 : Int) (x1 : Int) (x2 : Int) : TS EE.T := ⟨15, [(0, .a (.d (.int .i64) x0)), (1, .a (.d (.int .i64) x1)), (2, .a (.d (.int .i64) x2))], [], []⟩
def w54TE0 (c : Code) (N : Nat) (x0 : Int) (x1 : Int) (x2 : Int) : Tree (Lf EE.T × Option Bool) :=
  .cond (decide (x0 ≥ x1))
  (
    .leaf (.done (w54enc (decide (x0 ≤ x2))), some (decide (x0 ≤ x2))))
  (
    .leaf (.done (w54enc false), some false))
theorem w54vE0 (N : Nat) (x0 : Int) (x1 : Int) (x2 : Int) : evM TT EE (w54G N) w54lv w54rs 4000 true (w54kE0 (bodyOf 0 Try.f54)) (w54sE0 x0 x1 x2) = (w54TE0 (bodyOf 0 Try.f54) N x0 x1 x2).map1 := by kernel_rfl
theorem w54nE0 (N : Nat) (x0 : Int) (x1 : Int) (x2 : Int) : shard_within N x0 x1 x2 = (w54TE0 (bodyOf 0 Try.f54) N x0 x1 x2).run := by kernel_rfl
theorem w54oE0 {N : Nat} {r : Bool} (x0 : Int) (x1 : Int) (x2 : Int) (h : shard_within N x0 x1 x2 = some r) : Ends (Y := TT) EE (w54G N) w54lv w54rs (fun u => u = w54enc r) (w54kE0 (bodyOf 0 Try.f54)) (w54sE0 x0 x1 x2) :=
  tree_use (w54vE0 N x0 x1 x2) (w54nE0 N x0 x1 x2) h (show (w54TE0 (bodyOf 0 Try.f54) N x0 x1 x2).all _ from ⟨retp (enc := w54enc) rfl, retp (enc := w54enc) rfl⟩)
theorem shard_within_ok {N : Nat} (x0 : Int) (x1 : Int) (x2 : Int) {r : Bool} (h : shard_within N x0 x1 x2 = some r) (ρ : Nat → Nat) : ACalls Try.prog 54 (([.a (.d (.int .i64) x0), .a (.d (.int .i64) x1), .a (.d (.int .i64) x2)] : List (TV EE.T)).map (TV.to EE.toEnc ρ)) [] (fun out H => out = .ret ((shard_within_u r).to EE.toEnc ρ) ∧ H = []) :=
  (fn_ok (bodyOf 0 Try.f54) 15 mixed (w54Gok N) Try.func54 (by kernel_rfl) rfl rfl rfl rfl (w54oE0 x0 x1 x2 h) ρ).mono fun out H h => KPost.ret rfl h
def shard_within_h (N : Nat) : List (TV EE.T) → PV EE.T
  | [u0, u1, u2] => match argD (.int .i64) u0, argD (.int .i64) u1, argD (.int .i64) u2 with
    | some x0, some x1, some x2 => .opt (shard_within N x0 x1 x2) shard_within_u
    | _, _, _ => .bad
  | _ => .bad
theorem shard_within_hok (N : Nat) (us : List (TV EE.T)) : (shard_within_h N us).ok fun u => ∀ ρ, ACalls Try.prog 54 (us.map (TV.to EE.toEnc ρ)) [] (fun out H => out = .ret (u.to EE.toEnc ρ) ∧ H = []) := by
  unfold shard_within_h
  split
  · split
    · rename_i h0 h1 h2
      intro z hz ρ; refine acalls_le ?_ (shard_within_ok _ _ _ hz ρ); exact ⟨argD_le h0 ρ, argD_le h1 ρ, argD_le h2 ρ, trivial⟩
    · trivial
  · trivial
/-! ### gleaner/shard.isTime -/
def shard_isTime_u (r : Bool) : TV EE.T := .a (.d .bool r)
def w55enc (r : Bool) : RL EE.T := .ret (shard_isTime_u r) []
def w55lv : Lvs := ⟨[], [], [], [], false, [], []⟩
def w55rs : List ResultVar := [.tmp 2]
def w55G (N : Nat) : Gam EE := ⟨[⟨54, shard_within_h N⟩], EQT, []⟩
theorem w55Gok (N : Nat) : GOk Try.prog TT EE (w55G N) := GOk.cons (shard_within_hok N) (GOk.nil EQT_ok)
def w55kE0 (c : Code) : List It2 := [.c c]
def w55sE0 (x0 : Int) : TS EE.T := ⟨5, [(0, .a (.d (.int .i64) x0))], [], []⟩
def w55TE0 (c : Code) (N : Nat) (x0 : Int) : Tree (Lf EE.T × Option Bool) :=
  .bnd (shard_within N x0 (-9007199254740991) 9007199254740991) fun z1 =>
  .leaf (.done (w55enc z1), some z1)
theorem w55vE0 (N : Nat) (x0 : Int) : evM TT EE (w55G N) w55lv w55rs 4000 true (w55kE0 (bodyOf 0 Try.f55)) (w55sE0 x0) = (w55TE0 (bodyOf 0 Try.f55) N x0).map1 := by kernel_rfl
theorem w55nE0 (N : Nat) (x0 : Int) : shard_isTime N x0 = (w55TE0 (bodyOf 0 Try.f55) N x0).run := by kernel_rfl
theorem w55oE0 {N : Nat} {r : Bool} (x0 : Int) (h : shard_isTime N x0 = some r) : Ends (Y := TT) EE (w55G N) w55lv w55rs (fun u => u = w55enc r) (w55kE0 (bodyOf 0 Try.f55)) (w55sE0 x0) :=
  tree_use (w55vE0 N x0) (w55nE0 N x0) h (show (w55TE0 (bodyOf 0 Try.f55) N x0).all _ from fun _ => retp (enc := w55enc) rfl)
theorem shard_isTime_ok {N : Nat} (x0 : Int) {r : Bool} (h : shard_isTime N x0 = some r) (ρ : Nat → Nat) : ACalls Try.prog 55 (([.a (.d (.int .i64) x0)] : List (TV EE.T)).map (TV.to EE.toEnc ρ)) [] (fun out H => out = .ret ((shard_isTime_u r).to EE.toEnc ρ) ∧ H = []) :=
  (fn_ok (bodyOf 0 Try.f55) 5 mixed (w55Gok N) Try.func55 (by kernel_rfl) rfl rfl rfl rfl (w55oE0 x0 h) ρ).mono fun out H h => KPost.ret rfl h
def shard_isTime_h (N : Nat) : List (TV EE.T) → PV EE.T
  | [u0] => match argD (.int .i64) u0 with
    | some x0 => .opt (shard_isTime N x0) shard_isTime_u
    | _ => .bad
  | _ => .bad
theorem shard_isTime_hok (N : Nat) (us : List (TV EE.T)) : (shard_isTime_h N us).ok fun u => ∀ ρ, ACalls Try.prog 55 (us.map (TV.to EE.toEnc ρ)) [] (fun out H => out = .ret (u.to EE.toEnc ρ) ∧ H = []) := by
  unfold shard_isTime_h
  split
  · split
    · rename_i h0
      intro z hz ρ; refine acalls_le ?_ (shard_isTime_ok _ hz ρ); exact ⟨argD_le h0 ρ, trivial⟩
    · trivial
  · trivial
/-! ### gleaner/labels.each -/
def labels_each_u (r : Int) : TV EE.T := .a (.d (.int .i64) r)
def w93enc (r : Int) : RL EE.T := .ret (labels_each_u r) []
def w93lv : Lvs := ⟨[(9, ⟨[(0, false), (1, false), (6, false), (13, false), (14, false), (15, false)], [], [(6, (some 2, []))]⟩)], [(4, ⟨[(0, false), (1, false), (13, false), (14, false), (15, false)], [], []⟩), (14, ⟨[(7, false), (38, false), (39, false), (40, false)], [], [(37, (none, []))]⟩)], [9], [], false, [], []⟩
def w93rs : List ResultVar := [.tmp 4]
def w93G (N : Nat) : Gam EE := ⟨[⟨104, labels_IsName_h N⟩], EQT, []⟩
theorem w93Gok (N : Nat) : GOk Try.prog TT EE (w93G N) := GOk.cons (labels_IsName_hok N) (GOk.nil EQT_ok)
def w93kR9 (c : Code) : List It2 := atR 9 c
def w93sR9 (x0 : List VLabel) (x1 : Bool) (x13 : List VLabel) (x14 : Int) (x15 : Int) (b6 : VLabel) : TS EE.T := ⟨52, [(0, .a (.d (.sl (.nam 2)) x0)), (1, .a (.d .bool x1)), (6, .a (.box 6 0)), (13, .a (.d (.sl (.nam 2)) x13)), (14, .a (.d (.int .i64) x14)), (15, .a (.d (.int .i64) x15))], [(6, .cs (unpT EE (.nam 2) b6))], []⟩
def w93kL14 (c : Code) : List It2 := atL 14 c
def w93sL14 (x38 : List VLabel) (x39 : Int) (x40 : Int) (b37 : List (List UInt8 × Bool)) : TS EE.T := ⟨52, [(7, .a (.mpr 37)), (38, .a (.d (.sl (.nam 2)) x38)), (39, .a (.d (.int .i64) x39)), (40, .a (.d (.int .i64) x40))], [(37, .smap .bool b37)], []⟩
def w93kL4 (c : Code) : List It2 := atL 4 c
def w93sL4 (x0 : List VLabel) (x1 : Bool) (x13 : List VLabel) (x14 : Int) (x15 : Int) : TS EE.T := ⟨52, [(0, .a (.d (.sl (.nam 2)) x0)), (1, .a (.d .bool x1)), (13, .a (.d (.sl (.nam 2)) x13)), (14, .a (.d (.int .i64) x14)), (15, .a (.d (.int .i64) x15))], [], []⟩
def w93kE0 (c : Code) : List It2 := [.c c]
def w93sE0 (x0 : List VLabel) (x1 : Bool) : TS EE.T := ⟨52, [(0, .a (.d (.sl (.nam 2)) x0)), (1, .a (.d .bool x1))], [], []⟩
def w93TR9 (c : Code) (N : Nat) (k4 : (List VLabel) → Bool → (List VLabel) → Int → Int → Option Int) (n : Nat) (x0 : List VLabel) (x1 : Bool) (x13 : List VLabel) (x14 : Int) (x15 : Int) (b6 : VLabel) : Tree (Lf EE.T × Option Int) :=
  .cond (decide ((b6.Value.length : Int) > 100))
  (
    .leaf (.done (w93enc 2), some 2))
  (
    .leaf (.go (w93kL4 c) (w93sL4 x0 x1 x13 x14 (w64 (x15 + 1))), k4 x0 x1 x13 x14 (w64 (x15 + 1))))
theorem w93vR9 (N : Nat) (k4 : (List VLabel) → Bool → (List VLabel) → Int → Int → Option Int) (n : Nat) (x0 : List VLabel) (x1 : Bool) (x13 : List VLabel) (x14 : Int) (x15 : Int) (b6 : VLabel) : evM TT EE (w93G N) w93lv w93rs 4000 true (w93kR9 (bodyOf 0 Try.f93)) (w93sR9 x0 x1 x13 x14 x15 b6) = (w93TR9 (bodyOf 0 Try.f93) N k4 n x0 x1 x13 x14 x15 b6).map1 := by kernel_rfl
theorem w93nR9 (N : Nat) (k4 : (List VLabel) → Bool → (List VLabel) → Int → Int → Option Int) (n : Nat) (x0 : List VLabel) (x1 : Bool) (x13 : List VLabel) (x14 : Int) (x15 : Int) (b6 : VLabel) : labels_each_R9 N k4 n x0 x1 x13 x14 x15 b6 = (w93TR9 (bodyOf 0 Try.f93) N k4 n x0 x1 x13 x14 x15 b6).run := by kernel_rfl
theorem w93oR9 {N : Nat} {r : Int} {k4 : (List VLabel) → Bool → (List VLabel) → Int → Int → Option Int} (hk4 : ∀ x0 x1 x13 x14 x15, k4 x0 x1 x13 x14 x15 = some r → Ends (Y := TT) EE (w93G N) w93lv w93rs (fun u => u = w93enc r) (w93kL4 (bodyOf 0 Try.f93)) (w93sL4 x0 x1 x13 x14 x15)) (n : Nat) (x0 : List VLabel) (x1 : Bool) (x13 : List VLabel) (x14 : Int) (x15 : Int) (b6 : VLabel) (h : labels_each_R9 N k4 n x0 x1 x13 x14 x15 b6 = some r) : Ends (Y := TT) EE (w93G N) w93lv w93rs (fun u => u = w93enc r) (w93kR9 (bodyOf 0 Try.f93)) (w93sR9 x0 x1 x13 x14 x15 b6) :=
  tree_use (w93vR9 N k4 n x0 x1 x13 x14 x15 b6) (w93nR9 N k4 n x0 x1 x13 x14 x15 b6) h (show (w93TR9 (bodyOf 0 Try.f93) N k4 n x0 x1 x13 x14 x15 b6).all _ from ⟨retp (enc := w93enc) rfl, fun h => hk4 _ _ _ _ _ h⟩)
def w93TL14 (c : Code) (N : Nat) (n : Nat) (x38 : List VLabel) (x39 : Int) (x40 : Int) (b37 : List (List UInt8 × Bool)) : Tree (Lf EE.T × Option Int) :=
  .cond (decide (x40 < x39))
  (
    .bnd (idxC x38 x40) fun z3 =>
    .cond ((mget b37 z3.Name).getD false)
    (
      .leaf (.done (w93enc 6), some 6))
    (
      .leaf (.go (w93kL14 c) (w93sL14 x38 x39 (w64 (x40 + 1)) (mset b37 z3.Name true)), labels_each_L14 N n x38 x39 (w64 (x40 + 1)) (mset b37 z3.Name true))))
  (
    .leaf (.done (w93enc 0), some 0))
theorem w93vL14 (N : Nat) (n : Nat) (x38 : List VLabel) (x39 : Int) (x40 : Int) (b37 : List (List UInt8 × Bool)) : evM TT EE (w93G N) w93lv w93rs 4000 true (w93kL14 (bodyOf 0 Try.f93)) (w93sL14 x38 x39 x40 b37) = (w93TL14 (bodyOf 0 Try.f93) N n x38 x39 x40 b37).map1 := by kernel_rfl
theorem w93nL14 (N : Nat) (n : Nat) (x38 : List VLabel) (x39 : Int) (x40 : Int) (b37 : List (List UInt8 × Bool)) : labels_each_L14 N (n + 1) x38 x39 x40 b37 = (w93TL14 (bodyOf 0 Try.f93) N n x38 x39 x40 b37).run := by kernel_rfl
theorem w93oL14 {N : Nat} {r : Int} : ∀ (n : Nat) (x38 : List VLabel) (x39 : Int) (x40 : Int) (b37 : List (List UInt8 × Bool)), labels_each_L14 N n x38 x39 x40 b37 = some r → Ends (Y := TT) EE (w93G N) w93lv w93rs (fun u => u = w93enc r) (w93kL14 (bodyOf 0 Try.f93)) (w93sL14 x38 x39 x40 b37)
  | 0, _, _, _, _, h => by cases h
  | n + 1, x38, x39, x40, b37, h => tree_use (w93vL14 N n x38 x39 x40 b37) (w93nL14 N n x38 x39 x40 b37) h (show (w93TL14 (bodyOf 0 Try.f93) N n x38 x39 x40 b37).all _ from ⟨fun _ => ⟨retp (enc := w93enc) rfl, fun h => (w93oL14 n) _ _ _ _ h⟩, retp (enc := w93enc) rfl⟩)
def w93TL4 (c : Code) (N : Nat) (n : Nat) (x0 : List VLabel) (x1 : Bool) (x13 : List VLabel) (x14 : Int) (x15 : Int) : Tree (Lf EE.T × Option Int) :=
  .cond (decide (x15 < x14))
  (
    .bnd (idxC x13 x15) fun z1 =>
    .bnd (labels_IsName N z1.Name) fun z2 =>
    .cond (!z2)
    (
      .leaf (.done (w93enc 1), some 1))
    (
      .cond (decide (z1.Value = ([] : List UInt8)))
      (
        .cond (!x1)
        (
          .leaf (.done (w93enc 1), some 1))
        (
          .leaf (.go (w93kR9 c) (w93sR9 x0 x1 x13 x14 x15 z1), labels_each_R9 N (labels_each_L4 N n) n x0 x1 x13 x14 x15 z1)))
      (
        .leaf (.go (w93kR9 c) (w93sR9 x0 x1 x13 x14 x15 z1), labels_each_R9 N (labels_each_L4 N n) n x0 x1 x13 x14 x15 z1))))
  (
    .leaf (.go (w93kL14 c) (w93sL14 x0 (x0.length : Int) 0 ([] : List (List UInt8 × Bool))), labels_each_L14 N n x0 (x0.length : Int) 0 ([] : List (List UInt8 × Bool))))
theorem w93vL4 (N : Nat) (n : Nat) (x0 : List VLabel) (x1 : Bool) (x13 : List VLabel) (x14 : Int) (x15 : Int) : evM TT EE (w93G N) w93lv w93rs 4000 true (w93kL4 (bodyOf 0 Try.f93)) (w93sL4 x0 x1 x13 x14 x15) = (w93TL4 (bodyOf 0 Try.f93) N n x0 x1 x13 x14 x15).map1 := by kernel_rfl
theorem w93nL4 (N : Nat) (n : Nat) (x0 : List VLabel) (x1 : Bool) (x13 : List VLabel) (x14 : Int) (x15 : Int) : labels_each_L4 N (n + 1) x0 x1 x13 x14 x15 = (w93TL4 (bodyOf 0 Try.f93) N n x0 x1 x13 x14 x15).run := by kernel_rfl
theorem w93oL4 {N : Nat} {r : Int} : ∀ (n : Nat) (x0 : List VLabel) (x1 : Bool) (x13 : List VLabel) (x14 : Int) (x15 : Int), labels_each_L4 N n x0 x1 x13 x14 x15 = some r → Ends (Y := TT) EE (w93G N) w93lv w93rs (fun u => u = w93enc r) (w93kL4 (bodyOf 0 Try.f93)) (w93sL4 x0 x1 x13 x14 x15)
  | 0, _, _, _, _, _, h => by cases h
  | n + 1, x0, x1, x13, x14, x15, h => tree_use (w93vL4 N n x0 x1 x13 x14 x15) (w93nL4 N n x0 x1 x13 x14 x15) h (show (w93TL4 (bodyOf 0 Try.f93) N n x0 x1 x13 x14 x15).all _ from ⟨fun _ => fun _ => ⟨retp (enc := w93enc) rfl, ⟨⟨retp (enc := w93enc) rfl, fun h => w93oR9 (w93oL4 n) n _ _ _ _ _ _ h⟩, fun h => w93oR9 (w93oL4 n) n _ _ _ _ _ _ h⟩⟩, fun h => w93oL14 n _ _ _ _ h⟩)
def w93TE0 (c : Code) (N : Nat) (x0 : List VLabel) (x1 : Bool) : Tree (Lf EE.T × Option Int) :=
  .cond (decide ((x0.length : Int) > 20))
  (
    .leaf (.done (w93enc 2), some 2))
  (
    .leaf (.go (w93kL4 c) (w93sL4 x0 x1 x0 (x0.length : Int) 0), labels_each_L4 N N x0 x1 x0 (x0.length : Int) 0))
theorem w93vE0 (N : Nat) (x0 : List VLabel) (x1 : Bool) : evM TT EE (w93G N) w93lv w93rs 4000 true (w93kE0 (bodyOf 0 Try.f93)) (w93sE0 x0 x1) = (w93TE0 (bodyOf 0 Try.f93) N x0 x1).map1 := by kernel_rfl
theorem w93nE0 (N : Nat) (x0 : List VLabel) (x1 : Bool) : labels_each N x0 x1 = (w93TE0 (bodyOf 0 Try.f93) N x0 x1).run := by kernel_rfl
theorem w93oE0 {N : Nat} {r : Int} (x0 : List VLabel) (x1 : Bool) (h : labels_each N x0 x1 = some r) : Ends (Y := TT) EE (w93G N) w93lv w93rs (fun u => u = w93enc r) (w93kE0 (bodyOf 0 Try.f93)) (w93sE0 x0 x1) :=
  tree_use (w93vE0 N x0 x1) (w93nE0 N x0 x1) h (show (w93TE0 (bodyOf 0 Try.f93) N x0 x1).all _ from ⟨retp (enc := w93enc) rfl, fun h => w93oL4 N _ _ _ _ _ h⟩)
theorem labels_each_ok {N : Nat} (x0 : List VLabel) (x1 : Bool) {r : Int} (h : labels_each N x0 x1 = some r) (ρ : Nat → Nat) : ACalls Try.prog 93 (([.a (.d (.sl (.nam 2)) x0), .a (.d .bool x1)] : List (TV EE.T)).map (TV.to EE.toEnc ρ)) [] (fun out H => out = .ret ((labels_each_u r).to EE.toEnc ρ) ∧ H = []) :=
  (fn_ok (bodyOf 0 Try.f93) 52 mixed (w93Gok N) Try.func93 (by kernel_rfl) rfl rfl rfl rfl (w93oE0 x0 x1 h) ρ).mono fun out H h => KPost.ret rfl h
def labels_each_h (N : Nat) : List (TV EE.T) → PV EE.T
  | [u0, u1] => match argD (.sl (.nam 2)) u0, argD .bool u1 with
    | some x0, some x1 => .opt (labels_each N x0 x1) labels_each_u
    | _, _ => .bad
  | _ => .bad
theorem labels_each_hok (N : Nat) (us : List (TV EE.T)) : (labels_each_h N us).ok fun u => ∀ ρ, ACalls Try.prog 93 (us.map (TV.to EE.toEnc ρ)) [] (fun out H => out = .ret (u.to EE.toEnc ρ) ∧ H = []) := by
  unfold labels_each_h
  split
  · split
    · rename_i h0 h1
      intro z hz ρ; refine acalls_le ?_ (labels_each_ok _ _ hz ρ); exact ⟨argD_le h0 ρ, argD_le h1 ρ, trivial⟩
    · trivial
  · trivial
/-! ### cmp.isNaN[string] -/
def cmp_isNaN_string__u (r : Bool) : TV EE.T := .a (.d .bool r)
def w108enc (r : Bool) : RL EE.T := .ret (cmp_isNaN_string__u r) []
def w108lv : Lvs := ⟨[], [], [], [], false, [], []⟩
def w108rs : List ResultVar := [.tmp 2]
def w108G (N : Nat) : Gam EE := ⟨[], EQT, []⟩
theorem w108Gok (N : Nat) : GOk Try.prog TT EE (w108G N) := GOk.nil EQT_ok
def w108kE0 (c : Code) : List It2 := [.c c]
def w108sE0 (x0 : List UInt8) : TS EE.T := ⟨6, [(0, .a (.d .str x0))], [], []⟩
def w108TE0 (c : Code) (N : Nat) (x0 : List UInt8) : Tree (Lf EE.T × Option Bool) :=
  .leaf (.done (w108enc (!decide (x0 = x0))), some (!decide (x0 = x0)))
theorem w108vE0 (N : Nat) (x0 : List UInt8) : evM TT EE (w108G N) w108lv w108rs 4000 true (w108kE0 (bodyOf 0 Try.f108)) (w108sE0 x0) = (w108TE0 (bodyOf 0 Try.f108) N x0).map1 := by kernel_rfl
theorem w108nE0 (N : Nat) (x0 : List UInt8) : cmp_isNaN_string_ N x0 = (w108TE0 (bodyOf 0 Try.f108) N x0).run := by kernel_rfl
theorem w108oE0 {N : Nat} {r : Bool} (x0 : List UInt8) (h : cmp_isNaN_string_ N x0 = some r) : Ends (Y := TT) EE (w108G N) w108lv w108rs (fun u => u = w108enc r) (w108kE0 (bodyOf 0 Try.f108)) (w108sE0 x0) :=
  tree_use (w108vE0 N x0) (w108nE0 N x0) h (show (w108TE0 (bodyOf 0 Try.f108) N x0).all _ from retp (enc := w108enc) rfl)
theorem cmp_isNaN_string__ok {N : Nat} (x0 : List UInt8) {r : Bool} (h : cmp_isNaN_string_ N x0 = some r) (ρ : Nat → Nat) : ACalls Try.prog 108 (([.a (.d .str x0)] : List (TV EE.T)).map (TV.to EE.toEnc ρ)) [] (fun out H => out = .ret ((cmp_isNaN_string__u r).to EE.toEnc ρ) ∧ H = []) :=
  (fn_ok (bodyOf 0 Try.f108) 6 mixed (w108Gok N) Try.func108 (by kernel_rfl) rfl rfl rfl rfl (w108oE0 x0 h) ρ).mono fun out H h => KPost.ret rfl h
def cmp_isNaN_string__h (N : Nat) : List (TV EE.T) → PV EE.T
  | [u0] => match argD .str u0 with
    | some x0 => .opt (cmp_isNaN_string_ N x0) cmp_isNaN_string__u
    | _ => .bad
  | _ => .bad
theorem cmp_isNaN_string__hok (N : Nat) (us : List (TV EE.T)) : (cmp_isNaN_string__h N us).ok fun u => ∀ ρ, ACalls Try.prog 108 (us.map (TV.to EE.toEnc ρ)) [] (fun out H => out = .ret (u.to EE.toEnc ρ) ∧ H = []) := by
  unfold cmp_isNaN_string__h
  split
  · split
    · rename_i h0
      intro z hz ρ; refine acalls_le ?_ (cmp_isNaN_string__ok _ hz ρ); exact ⟨argD_le h0 ρ, trivial⟩
    · trivial
  · trivial
/-! ### cmp.Compare[string] -/
def cmp_Compare_string__u (r : Int) : TV EE.T := .a (.d (.int .i64) r)
def w105enc (r : Int) : RL EE.T := .ret (cmp_Compare_string__u r) []
def w105lv : Lvs := ⟨[], [], [], [], false, [], []⟩
def w105rs : List ResultVar := [.tmp 4]
def w105G (N : Nat) : Gam EE := ⟨[⟨108, cmp_isNaN_string__h N⟩], EQT, []⟩
theorem w105Gok (N : Nat) : GOk Try.prog TT EE (w105G N) := GOk.cons (cmp_isNaN_string__hok N) (GOk.nil EQT_ok)
def w105kE0 (c : Code) : List It2 := [.c c]
def w105sE0 (x0 : List UInt8) (x1 : List UInt8) : TS EE.T := ⟨20, [(0, .a (.d .str x0)), (1, .a (.d .str x1))], [], []⟩
def w105TE0 (c : Code) (N : Nat) (x0 : List UInt8) (x1 : List UInt8) : Tree (Lf EE.T × Option Int) :=
  .bnd (cmp_isNaN_string_ N x0) fun z1 =>
  .bnd (cmp_isNaN_string_ N x1) fun z2 =>
  .cond (z1)
  (
    .cond (z2)
    (
      .leaf (.done (w105enc 0), some 0))
    (
      .leaf (.done (w105enc (-1)), some (-1))))
  (
    .cond (z2)
    (
      .leaf (.done (w105enc 1), some 1))
    (
      .cond (Op.bytesLess x0 x1)
      (
        .leaf (.done (w105enc (-1)), some (-1)))
      (
        .cond (!(Op.bytesLess x0 x1 || decide (x0 = x1)))
        (
          .leaf (.done (w105enc 1), some 1))
        (
          .leaf (.done (w105enc 0), some 0)))))
theorem w105vE0 (N : Nat) (x0 : List UInt8) (x1 : List UInt8) : evM TT EE (w105G N) w105lv w105rs 4000 true (w105kE0 (bodyOf 0 Try.f105)) (w105sE0 x0 x1) = (w105TE0 (bodyOf 0 Try.f105) N x0 x1).map1 := by kernel_rfl
theorem w105nE0 (N : Nat) (x0 : List UInt8) (x1 : List UInt8) : cmp_Compare_string_ N x0 x1 = (w105TE0 (bodyOf 0 Try.f105) N x0 x1).run := by kernel_rfl
theorem w105oE0 {N : Nat} {r : Int} (x0 : List UInt8) (x1 : List UInt8) (h : cmp_Compare_string_ N x0 x1 = some r) : Ends (Y := TT) EE (w105G N) w105lv w105rs (fun u => u = w105enc r) (w105kE0 (bodyOf 0 Try.f105)) (w105sE0 x0 x1) :=
  tree_use (w105vE0 N x0 x1) (w105nE0 N x0 x1) h (show (w105TE0 (bodyOf 0 Try.f105) N x0 x1).all _ from fun _ => fun _ => ⟨⟨retp (enc := w105enc) rfl, retp (enc := w105enc) rfl⟩, ⟨retp (enc := w105enc) rfl, ⟨retp (enc := w105enc) rfl, ⟨retp (enc := w105enc) rfl, retp (enc := w105enc) rfl⟩⟩⟩⟩)
theorem cmp_Compare_string__ok {N : Nat} (x0 : List UInt8) (x1 : List UInt8) {r : Int} (h : cmp_Compare_string_ N x0 x1 = some r) (ρ : Nat → Nat) : ACalls Try.prog 105 (([.a (.d .str x0), .a (.d .str x1)] : List (TV EE.T)).map (TV.to EE.toEnc ρ)) [] (fun out H => out = .ret ((cmp_Compare_string__u r).to EE.toEnc ρ) ∧ H = []) :=
  (fn_ok (bodyOf 0 Try.f105) 20 mixed (w105Gok N) Try.func105 (by kernel_rfl) rfl rfl rfl rfl (w105oE0 x0 x1 h) ρ).mono fun out H h => KPost.ret rfl h
def cmp_Compare_string__h (N : Nat) : List (TV EE.T) → PV EE.T
  | [u0, u1] => match argD .str u0, argD .str u1 with
    | some x0, some x1 => .opt (cmp_Compare_string_ N x0 x1) cmp_Compare_string__u
    | _, _ => .bad
  | _ => .bad
theorem cmp_Compare_string__hok (N : Nat) (us : List (TV EE.T)) : (cmp_Compare_string__h N us).ok fun u => ∀ ρ, ACalls Try.prog 105 (us.map (TV.to EE.toEnc ρ)) [] (fun out H => out = .ret (u.to EE.toEnc ρ) ∧ H = []) := by
  unfold cmp_Compare_string__h
  split
  · split
    · rename_i h0 h1
      intro z hz ρ; refine acalls_le ?_ (cmp_Compare_string__ok _ _ hz ρ); exact ⟨argD_le h0 ρ, argD_le h1 ρ, trivial⟩
    · trivial
  · trivial
/-! ### gleaner/labels.byName -/
def labels_byName_u (r : Int) : TV EE.T := .a (.d (.int .i64) r)
def w95enc (r : Int) : RL EE.T := .ret (labels_byName_u r) []
def w95lv : Lvs := ⟨[], [], [], [], false, [], []⟩
def w95rs : List ResultVar := [.tmp 4]
def w95G (N : Nat) : Gam EE := ⟨[⟨105, cmp_Compare_string__h N⟩], EQT, []⟩
theorem w95Gok (N : Nat) : GOk Try.prog TT EE (w95G N) := GOk.cons (cmp_Compare_string__hok N) (GOk.nil EQT_ok)
def w95kE0 (c : Code) : List It2 := [.c c]
def w95sE0 (x0 : VLabel) (x1 : VLabel) : TS EE.T := ⟨10, [(0, .ag (unpT EE (.nam 2) x0)), (1, .ag (unpT EE (.nam 2) x1))], [], []⟩
def w95TE0 (c : Code) (N : Nat) (x0 : VLabel) (x1 : VLabel) : Tree (Lf EE.T × Option Int) :=
  .bnd (cmp_Compare_string_ N x0.Name x1.Name) fun z1 =>
  .leaf (.done (w95enc z1), some z1)
theorem w95vE0 (N : Nat) (x0 : VLabel) (x1 : VLabel) : evM TT EE (w95G N) w95lv w95rs 4000 true (w95kE0 (bodyOf 0 Try.f95)) (w95sE0 x0 x1) = (w95TE0 (bodyOf 0 Try.f95) N x0 x1).map1 := by kernel_rfl
theorem w95nE0 (N : Nat) (x0 : VLabel) (x1 : VLabel) : labels_byName N x0 x1 = (w95TE0 (bodyOf 0 Try.f95) N x0 x1).run := by kernel_rfl
theorem w95oE0 {N : Nat} {r : Int} (x0 : VLabel) (x1 : VLabel) (h : labels_byName N x0 x1 = some r) : Ends (Y := TT) EE (w95G N) w95lv w95rs (fun u => u = w95enc r) (w95kE0 (bodyOf 0 Try.f95)) (w95sE0 x0 x1) :=
  tree_use (w95vE0 N x0 x1) (w95nE0 N x0 x1) h (show (w95TE0 (bodyOf 0 Try.f95) N x0 x1).all _ from fun _ => retp (enc := w95enc) rfl)
theorem labels_byName_ok {N : Nat} (x0 : VLabel) (x1 : VLabel) {r : Int} (h : labels_byName N x0 x1 = some r) (ρ : Nat → Nat) : ACalls Try.prog 95 (([.ag (unpT EE (.nam 2) x0), .ag (unpT EE (.nam 2) x1)] : List (TV EE.T)).map (TV.to EE.toEnc ρ)) [] (fun out H => out = .ret ((labels_byName_u r).to EE.toEnc ρ) ∧ H = []) :=
  (fn_ok (bodyOf 0 Try.f95) 10 mixed (w95Gok N) Try.func95 (by kernel_rfl) rfl rfl rfl rfl (w95oE0 x0 x1 h) ρ).mono fun out H h => KPost.ret rfl h
def labels_byName_h (N : Nat) : List (TV EE.T) → PV EE.T
  | [u0, u1] => match argS EE 2 u0, argS EE 2 u1 with
    | some x0, some x1 => .opt (labels_byName N x0 x1) labels_byName_u
    | _, _ => .bad
  | _ => .bad
theorem labels_byName_hok (N : Nat) (us : List (TV EE.T)) : (labels_byName_h N us).ok fun u => ∀ ρ, ACalls Try.prog 95 (us.map (TV.to EE.toEnc ρ)) [] (fun out H => out = .ret (u.to EE.toEnc ρ) ∧ H = []) := by
  unfold labels_byName_h
  split
  · split
    · rename_i h0 h1
      intro z hz ρ; refine acalls_le ?_ (labels_byName_ok _ _ hz ρ); exact ⟨argS_le h0 ρ, argS_le h1 ρ, trivial⟩
    · trivial
  · trivial
/-! ### slices.IsSortedFunc[[]gleaner/api.Label,gleaner/api.Label] -/
def slices_IsSortedFunc_api_Label_api_Label__i0_u (r : Bool) : TV EE.T := .a (.d .bool r)
def w94i0hh (r : Bool) : List (Nat × TB EE.T) := []
def w94i0enc (r : Bool) : RL EE.T := .ret (slices_IsSortedFunc_api_Label_api_Label__i0_u r) (w94i0hh r)
def w94i0lv : Lvs := ⟨[(4, ⟨[(0, false), (1, false), (5, false)], [], []⟩)], [(2, ⟨[(0, false), (1, false), (5, false)], [], []⟩)], [], [], false, [], []⟩
def w94i0rs : List ResultVar := [.tmp 4]
def w94i0G (N : Nat) : Gam EE := ⟨[⟨95, labels_byName_h N⟩], EQT, []⟩
theorem w94i0Gok (N : Nat) : GOk Try.prog TT EE (w94i0G N) := GOk.cons (labels_byName_hok N) (GOk.nil EQT_ok)
def w94i0kL2 (c : Code) : List It2 := atL 2 c
def w94i0sL2 (x0 : List VLabel) (x5 : Int) : TS EE.T := ⟨25, [(0, .a (.d (.sl (.nam 2)) x0)), (1, .fn 95 []), (5, .a (.d (.int .i64) x5))], [], []⟩
def w94i0kE0 (c : Code) : List It2 := [.c c]
def w94i0sE0 (x0 : List VLabel) : TS EE.T := ⟨25, [(0, .a (.d (.sl (.nam 2)) x0)), (1, .fn 95 [])], [], []⟩
def w94i0TL2 (c : Code) (N : Nat) (n : Nat) (x0 : List VLabel) (x5 : Int) : Tree (Lf EE.T × Option Bool) :=
  .cond (decide (x5 > 0))
  (
    .bnd (idxC x0 x5) fun z1 =>
    .bnd (idxC x0 (w64 (x5 - 1))) fun z2 =>
    .bnd (labels_byName N z1 z2) fun z3 =>
    .cond (decide (z3 < 0))
    (
      .leaf (.done (w94i0enc false), some false))
    (
      .leaf (.go (w94i0kL2 c) (w94i0sL2 x0 (w64 (x5 - 1))), slices_IsSortedFunc_api_Label_api_Label__i0_L2 N n x0 (w64 (x5 - 1)))))
  (
    .leaf (.done (w94i0enc true), some true))
theorem w94i0vL2 (N : Nat) (n : Nat) (x0 : List VLabel) (x5 : Int) : evM TT EE (w94i0G N) w94i0lv w94i0rs 4000 true (w94i0kL2 (bodyOf 0 Try.f94)) (w94i0sL2 x0 x5) = (w94i0TL2 (bodyOf 0 Try.f94) N n x0 x5).map1 := by kernel_rfl
theorem w94i0nL2 (N : Nat) (n : Nat) (x0 : List VLabel) (x5 : Int) : slices_IsSortedFunc_api_Label_api_Label__i0_L2 N (n + 1) x0 x5 = (w94i0TL2 (bodyOf 0 Try.f94) N n x0 x5).run := by kernel_rfl
theorem w94i0oL2 {N : Nat} {r : Bool} : ∀ (n : Nat) (x0 : List VLabel) (x5 : Int), slices_IsSortedFunc_api_Label_api_Label__i0_L2 N n x0 x5 = some r → Ends (Y := TT) EE (w94i0G N) w94i0lv w94i0rs (fun u => u = w94i0enc r) (w94i0kL2 (bodyOf 0 Try.f94)) (w94i0sL2 x0 x5)
  | 0, _, _, h => by cases h
  | n + 1, x0, x5, h => tree_use (w94i0vL2 N n x0 x5) (w94i0nL2 N n x0 x5) h (show (w94i0TL2 (bodyOf 0 Try.f94) N n x0 x5).all _ from ⟨fun _ => fun _ => fun _ => ⟨retp (enc := w94i0enc) rfl, fun h => (w94i0oL2 n) _ _ h⟩, retp (enc := w94i0enc) rfl⟩)
def w94i0TE0 (c : Code) (N : Nat) (x0 : List VLabel) : Tree (Lf EE.T × Option Bool) :=
  .leaf (.go (w94i0kL2 c) (w94i0sL2 x0 (w64 ((x0.length : Int) - 1))), slices_IsSortedFunc_api_Label_api_Label__i0_L2 N N x0 (w64 ((x0.length : Int) - 1)))
theorem w94i0vE0 (N : Nat) (x0 : List VLabel) : evM TT EE (w94i0G N) w94i0lv w94i0rs 4000 true (w94i0kE0 (bodyOf 0 Try.f94)) (w94i0sE0 x0) = (w94i0TE0 (bodyOf 0 Try.f94) N x0).map1 := by kernel_rfl
theorem w94i0nE0 (N : Nat) (x0 : List VLabel) : slices_IsSortedFunc_api_Label_api_Label__i0 N x0 = (w94i0TE0 (bodyOf 0 Try.f94) N x0).run := by kernel_rfl
theorem w94i0oE0 {N : Nat} {r : Bool} (x0 : List VLabel) (h : slices_IsSortedFunc_api_Label_api_Label__i0 N x0 = some r) : Ends (Y := TT) EE (w94i0G N) w94i0lv w94i0rs (fun u => u = w94i0enc r) (w94i0kE0 (bodyOf 0 Try.f94)) (w94i0sE0 x0) :=
  tree_use (w94i0vE0 N x0) (w94i0nE0 N x0) h (show (w94i0TE0 (bodyOf 0 Try.f94) N x0).all _ from fun h => w94i0oL2 N _ _ h)
def w94i0us (x0 : List VLabel) : List (TV EE.T) := [.a (.d (.sl (.nam 2)) x0), .fn 95 []]
def w94i0h0 (x0 : List VLabel) : List (Nat × TB EE.T) := []
theorem slices_IsSortedFunc_api_Label_api_Label__i0_ok {N : Nat} (x0 : List VLabel) {r : Bool} (h : slices_IsSortedFunc_api_Label_api_Label__i0 N x0 = some r) (ρ : Nat → Nat) (hi : Inj ρ (w94i0h0 x0)) : ACalls Try.prog 94 ((w94i0us x0).map (TV.to EE.toEnc ρ)) (hTo EE.toEnc ρ (w94i0h0 x0)) (fun out H => out = .ret ((slices_IsSortedFunc_api_Label_api_Label__i0_u r).to EE.toEnc ρ) ∧ H = hTo EE.toEnc ρ (w94i0hh r)) :=
  (fn_okH (bodyOf 0 Try.f94) 25 mixed (w94i0Gok N) Try.func94 (by kernel_rfl) rfl rfl rfl rfl (w94i0oE0 x0 h) ρ hi).mono fun out H h => KPost.retH rfl rfl h
def slices_IsSortedFunc_api_Label_api_Label__i0_h (N : Nat) (us : List (TV EE.T)) (hs : List (Nat × TB EE.T)) : XR EE.T :=
  gdX (lenX us 2) <|
  bnX (aD (.sl (.nam 2)) us 0) fun x0 =>
  bnX (aF 95 us 1) fun c1 =>
  bnX (cbs c1) fun s1 =>
  gdX (lenX s1 0) <|
  gdX (goodIds hs []) <|
  .ret (slices_IsSortedFunc_api_Label_api_Label__i0 N x0) [] slices_IsSortedFunc_api_Label_api_Label__i0_u (w94i0hh)
theorem slices_IsSortedFunc_api_Label_api_Label__i0_hok (N : Nat) : XOk Try.prog EE 94 (slices_IsSortedFunc_api_Label_api_Label__i0_h N) := fun us hs =>
  gdX_ok fun h1 => bnX_ok fun x0 h2 => bnX_ok fun c1 h3 => bnX_ok fun s1 h4 => gdX_ok fun h5 => gdX_ok fun h6 => fun z hz => ⟨rfl, fun ρ hi => xcall (us' := w94i0us x0) (h0 := w94i0h0 x0) (ρ' := rhoS ρ []) ⟨aD_le h2, aF_le (js := []) h3 h4 (by rw [lis0 (lenX_ok h5)];  kernel_rfl), lenX_ok h1⟩ trivial (slices_IsSortedFunc_api_Label_api_Label__i0_ok x0 hz _ (rhoS_inj hi h6 _ (by kernel_rfl))) (fun out H h => ⟨h.1.trans (by kernel_rfl), h.2.trans (by kernel_rfl)⟩)⟩
/-! ### gleaner/labels.Check -/
def labels_Check_u (r : Int) : TV EE.T := .a (.d (.int .i64) r)
def w84enc (r : Int) : RL EE.T := .ret (labels_Check_u r) []
def w84lv : Lvs := ⟨[], [], [], [], false, [], []⟩
def w84rs : List ResultVar := [.tmp 2]
def w84G (N : Nat) : Gam EE := ⟨[⟨93, labels_each_h N⟩], EQT, [⟨94, slices_IsSortedFunc_api_Label_api_Label__i0_h N⟩]⟩
theorem w84Gok (N : Nat) : GOk Try.prog TT EE (w84G N) := GOk.cons (labels_each_hok N) (GOk.consx (slices_IsSortedFunc_api_Label_api_Label__i0_hok N) (GOk.nil EQT_ok))
def w84kE0 (c : Code) : List It2 := [.c c]
def w84sE0 (x0 : List VLabel) : TS EE.T := ⟨12, [(0, .a (.d (.sl (.nam 2)) x0))], [], []⟩
def w84TE0 (c : Code) (N : Nat) (x0 : List VLabel) : Tree (Lf EE.T × Option Int) :=
  .bnd (labels_each N x0 false) fun z1 =>
  .cond (z1 != 0)
  (
    .leaf (.done (w84enc z1), some z1))
  (
    .bnd (slices_IsSortedFunc_api_Label_api_Label__i0 N x0) fun z2 =>
    .cond (!z2)
    (
      .leaf (.done (w84enc 4), some 4))
    (
      .leaf (.done (w84enc 0), some 0)))
theorem w84vE0 (N : Nat) (x0 : List VLabel) : evM TT EE (w84G N) w84lv w84rs 4000 true (w84kE0 (bodyOf 0 Try.f84)) (w84sE0 x0) = (w84TE0 (bodyOf 0 Try.f84) N x0).map1 := by kernel_rfl
theorem w84nE0 (N : Nat) (x0 : List VLabel) : labels_Check N x0 = (w84TE0 (bodyOf 0 Try.f84) N x0).run := by kernel_rfl
theorem w84oE0 {N : Nat} {r : Int} (x0 : List VLabel) (h : labels_Check N x0 = some r) : Ends (Y := TT) EE (w84G N) w84lv w84rs (fun u => u = w84enc r) (w84kE0 (bodyOf 0 Try.f84)) (w84sE0 x0) :=
  tree_use (w84vE0 N x0) (w84nE0 N x0) h (show (w84TE0 (bodyOf 0 Try.f84) N x0).all _ from fun _ => ⟨retp (enc := w84enc) rfl, fun _ => ⟨retp (enc := w84enc) rfl, retp (enc := w84enc) rfl⟩⟩)
theorem labels_Check_ok {N : Nat} (x0 : List VLabel) {r : Int} (h : labels_Check N x0 = some r) (ρ : Nat → Nat) : ACalls Try.prog 84 (([.a (.d (.sl (.nam 2)) x0)] : List (TV EE.T)).map (TV.to EE.toEnc ρ)) [] (fun out H => out = .ret ((labels_Check_u r).to EE.toEnc ρ) ∧ H = []) :=
  (fn_ok (bodyOf 0 Try.f84) 12 mixed (w84Gok N) Try.func84 (by kernel_rfl) rfl rfl rfl rfl (w84oE0 x0 h) ρ).mono fun out H h => KPost.ret rfl h
def labels_Check_h (N : Nat) : List (TV EE.T) → PV EE.T
  | [u0] => match argD (.sl (.nam 2)) u0 with
    | some x0 => .opt (labels_Check N x0) labels_Check_u
    | _ => .bad
  | _ => .bad
theorem labels_Check_hok (N : Nat) (us : List (TV EE.T)) : (labels_Check_h N us).ok fun u => ∀ ρ, ACalls Try.prog 84 (us.map (TV.to EE.toEnc ρ)) [] (fun out H => out = .ret (u.to EE.toEnc ρ) ∧ H = []) := by
  unfold labels_Check_h
  split
  · split
    · rename_i h0
      intro z hz ρ; refine acalls_le ?_ (labels_Check_ok _ hz ρ); exact ⟨argD_le h0 ρ, trivial⟩
    · trivial
  · trivial
/-! ### gleaner/shard.checkItem -/
def shard_checkItem_u (r : Int) : TV EE.T := .a (.d (.int .i64) r)
def w56enc (r : Int) : RL EE.T := .ret (shard_checkItem_u r) []
def w56lv : Lvs := ⟨[], [], [], [], false, [], []⟩
def w56rs : List ResultVar := [.tmp 2]
def w56G (N : Nat) : Gam EE := ⟨[⟨84, labels_Check_h N⟩, ⟨55, shard_isTime_h N⟩], EQT, []⟩
theorem w56Gok (N : Nat) : GOk Try.prog TT EE (w56G N) := GOk.cons (labels_Check_hok N) (GOk.cons (shard_isTime_hok N) (GOk.nil EQT_ok))
def w56kE0 (c : Code) : List It2 := [.c c]
def w56sE0 (x0 : VItem) : TS EE.T := ⟨16, [(0, .ag (unpT EE (.nam 7) x0))], [], []⟩
def w56TE0 (c : Code) (N : Nat) (x0 : VItem) : Tree (Lf EE.T × Option Int) :=
  .cond (decide (x0.Number < 0))
  (
    .leaf (.done (w56enc 3), some 3))
  (
    .bnd (shard_isTime N x0.Sample.Time) fun z1 =>
    .cond (!z1)
    (
      .leaf (.done (w56enc 3), some 3))
    (
      .bnd (labels_Check N x0.Labels) fun z2 =>
      .leaf (.done (w56enc z2), some z2)))
theorem w56vE0 (N : Nat) (x0 : VItem) : evM TT EE (w56G N) w56lv w56rs 4000 true (w56kE0 (bodyOf 0 Try.f56)) (w56sE0 x0) = (w56TE0 (bodyOf 0 Try.f56) N x0).map1 := by kernel_rfl
theorem w56nE0 (N : Nat) (x0 : VItem) : shard_checkItem N x0 = (w56TE0 (bodyOf 0 Try.f56) N x0).run := by kernel_rfl
theorem w56oE0 {N : Nat} {r : Int} (x0 : VItem) (h : shard_checkItem N x0 = some r) : Ends (Y := TT) EE (w56G N) w56lv w56rs (fun u => u = w56enc r) (w56kE0 (bodyOf 0 Try.f56)) (w56sE0 x0) :=
  tree_use (w56vE0 N x0) (w56nE0 N x0) h (show (w56TE0 (bodyOf 0 Try.f56) N x0).all _ from ⟨retp (enc := w56enc) rfl, fun _ => ⟨retp (enc := w56enc) rfl, fun _ => retp (enc := w56enc) rfl⟩⟩)
theorem shard_checkItem_ok {N : Nat} (x0 : VItem) {r : Int} (h : shard_checkItem N x0 = some r) (ρ : Nat → Nat) : ACalls Try.prog 56 (([.ag (unpT EE (.nam 7) x0)] : List (TV EE.T)).map (TV.to EE.toEnc ρ)) [] (fun out H => out = .ret ((shard_checkItem_u r).to EE.toEnc ρ) ∧ H = []) :=
  (fn_ok (bodyOf 0 Try.f56) 16 mixed (w56Gok N) Try.func56 (by kernel_rfl) rfl rfl rfl rfl (w56oE0 x0 h) ρ).mono fun out H h => KPost.ret rfl h
def shard_checkItem_h (N : Nat) : List (TV EE.T) → PV EE.T
  | [u0] => match argS EE 7 u0 with
    | some x0 => .opt (shard_checkItem N x0) shard_checkItem_u
    | _ => .bad
  | _ => .bad
theorem shard_checkItem_hok (N : Nat) (us : List (TV EE.T)) : (shard_checkItem_h N us).ok fun u => ∀ ρ, ACalls Try.prog 56 (us.map (TV.to EE.toEnc ρ)) [] (fun out H => out = .ret (u.to EE.toEnc ρ) ∧ H = []) := by
  unfold shard_checkItem_h
  split
  · split
    · rename_i h0
      intro z hz ρ; refine acalls_le ?_ (shard_checkItem_ok _ hz ρ); exact ⟨argS_le h0 ρ, trivial⟩
    · trivial
  · trivial
/-! ### gleaner/shard.Check -/
def shard_Check_u (r : Int) : TV EE.T := .a (.d (.int .i64) r)
def w22enc (r : Int) : RL EE.T := .ret (shard_Check_u r) []
def w22lv : Lvs := ⟨[(2, ⟨[(1, false), (3, false)], [], [(1, (some 8, []))]⟩), (16, ⟨[(1, false), (7, false)], [], [(1, (some 8, []))]⟩)], [(7, ⟨[(1, false), (58, false), (59, false), (60, false)], [], [(1, (some 8, []))]⟩), (14, ⟨[(1, false), (7, false)], [], [(1, (some 8, []))]⟩)], [2], [], false, [], []⟩
def w22rs : List ResultVar := [.tmp 2]
def w22G (N : Nat) : Gam EE := ⟨[⟨56, shard_checkItem_h N⟩, ⟨55, shard_isTime_h N⟩, ⟨54, shard_within_h N⟩], EQT, []⟩
theorem w22Gok (N : Nat) : GOk Try.prog TT EE (w22G N) := GOk.cons (shard_checkItem_hok N) (GOk.cons (shard_isTime_hok N) (GOk.cons (shard_within_hok N) (GOk.nil EQT_ok)))
def w22kL14 (c : Code) : List It2 := atL 14 c
def w22sL14 (x7 : Int) (b1 : VShard) : TS EE.T := ⟨91, [(1, .a (.box 1 0)), (7, .a (.d (.int .i64) x7))], [(1, .cs (unpT EE (.nam 8) b1))], []⟩
def w22kL7 (c : Code) : List It2 := atL 7 c
def w22sL7 (x58 : List VItem) (x59 : Int) (x60 : Int) (b1 : VShard) : TS EE.T := ⟨91, [(1, .a (.box 1 0)), (58, .a (.d (.sl (.nam 7)) x58)), (59, .a (.d (.int .i64) x59)), (60, .a (.d (.int .i64) x60))], [(1, .cs (unpT EE (.nam 8) b1))], []⟩
def w22kR2 (c : Code) : List It2 := atR 2 c
def w22sR2 (x3 : Bool) (b1 : VShard) : TS EE.T := ⟨91, [(1, .a (.box 1 0)), (3, .a (.d .bool x3))], [(1, .cs (unpT EE (.nam 8) b1))], []⟩
def w22kE0 (c : Code) : List It2 := [.c c]
def w22sE0 (x0 : VShard) : TS EE.T := ⟨91, [(0, .ag (unpT EE (.nam 8) x0))], [], []⟩
def w22TL14 (c : Code) (N : Nat) (n : Nat) (x7 : Int) (b1 : VShard) : Tree (Lf EE.T × Option Int) :=
  .cond (decide (x7 < (b1.Items.length : Int)))
  (
    .bnd (idxC b1.Items x7) fun z9 =>
    .bnd (idxC b1.Items (w64 (x7 - 1))) fun z10 =>
    .cond (decide (z9.Number ≤ z10.Number))
    (
      .leaf (.done (w22enc 4), some 4))
    (
      .leaf (.go (w22kL14 c) (w22sL14 (w64 (x7 + 1)) b1), shard_Check_L14 N n (w64 (x7 + 1)) b1)))
  (
    .leaf (.done (w22enc 0), some 0))
theorem w22vL14 (N : Nat) (n : Nat) (x7 : Int) (b1 : VShard) : evM TT EE (w22G N) w22lv w22rs 4000 true (w22kL14 (bodyOf 0 Try.f22)) (w22sL14 x7 b1) = (w22TL14 (bodyOf 0 Try.f22) N n x7 b1).map1 := by kernel_rfl
theorem w22nL14 (N : Nat) (n : Nat) (x7 : Int) (b1 : VShard) : shard_Check_L14 N (n + 1) x7 b1 = (w22TL14 (bodyOf 0 Try.f22) N n x7 b1).run := by kernel_rfl
theorem w22oL14 {N : Nat} {r : Int} : ∀ (n : Nat) (x7 : Int) (b1 : VShard), shard_Check_L14 N n x7 b1 = some r → Ends (Y := TT) EE (w22G N) w22lv w22rs (fun u => u = w22enc r) (w22kL14 (bodyOf 0 Try.f22)) (w22sL14 x7 b1)
  | 0, _, _, h => by cases h
  | n + 1, x7, b1, h => tree_use (w22vL14 N n x7 b1) (w22nL14 N n x7 b1) h (show (w22TL14 (bodyOf 0 Try.f22) N n x7 b1).all _ from ⟨fun _ => fun _ => ⟨retp (enc := w22enc) rfl, fun h => (w22oL14 n) _ _ h⟩, retp (enc := w22enc) rfl⟩)
def w22TL7 (c : Code) (N : Nat) (n : Nat) (x58 : List VItem) (x59 : Int) (x60 : Int) (b1 : VShard) : Tree (Lf EE.T × Option Int) :=
  .cond (decide (x60 < x59))
  (
    .bnd (idxC x58 x60) fun z7 =>
    .bnd (shard_checkItem N z7) fun z8 =>
    .cond (z8 != 0)
    (
      .leaf (.done (w22enc z8), some z8))
    (
      .leaf (.go (w22kL7 c) (w22sL7 x58 x59 (w64 (x60 + 1)) b1), shard_Check_L7 N n x58 x59 (w64 (x60 + 1)) b1)))
  (
    .leaf (.go (w22kL14 c) (w22sL14 1 b1), shard_Check_L14 N n 1 b1))
theorem w22vL7 (N : Nat) (n : Nat) (x58 : List VItem) (x59 : Int) (x60 : Int) (b1 : VShard) : evM TT EE (w22G N) w22lv w22rs 4000 true (w22kL7 (bodyOf 0 Try.f22)) (w22sL7 x58 x59 x60 b1) = (w22TL7 (bodyOf 0 Try.f22) N n x58 x59 x60 b1).map1 := by kernel_rfl
theorem w22nL7 (N : Nat) (n : Nat) (x58 : List VItem) (x59 : Int) (x60 : Int) (b1 : VShard) : shard_Check_L7 N (n + 1) x58 x59 x60 b1 = (w22TL7 (bodyOf 0 Try.f22) N n x58 x59 x60 b1).run := by kernel_rfl
theorem w22oL7 {N : Nat} {r : Int} : ∀ (n : Nat) (x58 : List VItem) (x59 : Int) (x60 : Int) (b1 : VShard), shard_Check_L7 N n x58 x59 x60 b1 = some r → Ends (Y := TT) EE (w22G N) w22lv w22rs (fun u => u = w22enc r) (w22kL7 (bodyOf 0 Try.f22)) (w22sL7 x58 x59 x60 b1)
  | 0, _, _, _, _, h => by cases h
  | n + 1, x58, x59, x60, b1, h => tree_use (w22vL7 N n x58 x59 x60 b1) (w22nL7 N n x58 x59 x60 b1) h (show (w22TL7 (bodyOf 0 Try.f22) N n x58 x59 x60 b1).all _ from ⟨fun _ => fun _ => ⟨retp (enc := w22enc) rfl, fun h => (w22oL7 n) _ _ _ _ h⟩, fun h => w22oL14 n _ _ h⟩)
def w22TR2 (c : Code) (N : Nat) (n : Nat) (x3 : Bool) (b1 : VShard) : Tree (Lf EE.T × Option Int) :=
  .cond (!x3)
  (
    .leaf (.done (w22enc 3), some 3))
  (
    .cond (decide ((b1.Items.length : Int) > b1.Room))
    (
      .leaf (.done (w22enc 2), some 2))
    (
      .leaf (.go (w22kL7 c) (w22sL7 b1.Items (b1.Items.length : Int) 0 b1), shard_Check_L7 N n b1.Items (b1.Items.length : Int) 0 b1)))
theorem w22vR2 (N : Nat) (n : Nat) (x3 : Bool) (b1 : VShard) : evM TT EE (w22G N) w22lv w22rs 4000 true (w22kR2 (bodyOf 0 Try.f22)) (w22sR2 x3 b1) = (w22TR2 (bodyOf 0 Try.f22) N n x3 b1).map1 := by kernel_rfl
theorem w22nR2 (N : Nat) (n : Nat) (x3 : Bool) (b1 : VShard) : shard_Check_R2 N n x3 b1 = (w22TR2 (bodyOf 0 Try.f22) N n x3 b1).run := by kernel_rfl
theorem w22oR2 {N : Nat} {r : Int} (n : Nat) (x3 : Bool) (b1 : VShard) (h : shard_Check_R2 N n x3 b1 = some r) : Ends (Y := TT) EE (w22G N) w22lv w22rs (fun u => u = w22enc r) (w22kR2 (bodyOf 0 Try.f22)) (w22sR2 x3 b1) :=
  tree_use (w22vR2 N n x3 b1) (w22nR2 N n x3 b1) h (show (w22TR2 (bodyOf 0 Try.f22) N n x3 b1).all _ from ⟨retp (enc := w22enc) rfl, ⟨retp (enc := w22enc) rfl, fun h => w22oL7 n _ _ _ _ h⟩⟩)
def w22TE0 (c : Code) (N : Nat) (x0 : VShard) : Tree (Lf EE.T × Option Int) :=
  .bnd (shard_within N x0.Batch 1 200) fun z1 =>
  .cond (z1)
  (
    .bnd (shard_within N x0.Room 1 100) fun z2 =>
    .cond (z2)
    (
      .bnd (shard_within N x0.First 1 x0.Most) fun z3 =>
      .cond (z3)
      (
        .cond (decide (x0.Most ≤ 100000))
        (
          .cond (x0.Waits == 0)
          (
            .bnd (shard_isTime N x0.Till) fun z4 =>
            .leaf (.go (w22kR2 c) (w22sR2 z4 x0), shard_Check_R2 N N z4 x0))
          (
            .bnd (shard_within N x0.Waits x0.First x0.Most) fun z5 =>
            .cond (z5)
            (
              .bnd (shard_isTime N x0.Till) fun z6 =>
              .leaf (.go (w22kR2 c) (w22sR2 z6 x0), shard_Check_R2 N N z6 x0))
            (
              .leaf (.go (w22kR2 c) (w22sR2 false x0), shard_Check_R2 N N false x0))))
        (
          .leaf (.go (w22kR2 c) (w22sR2 false x0), shard_Check_R2 N N false x0)))
      (
        .leaf (.go (w22kR2 c) (w22sR2 false x0), shard_Check_R2 N N false x0)))
    (
      .leaf (.go (w22kR2 c) (w22sR2 false x0), shard_Check_R2 N N false x0)))
  (
    .leaf (.go (w22kR2 c) (w22sR2 false x0), shard_Check_R2 N N false x0))
theorem w22vE0 (N : Nat) (x0 : VShard) : evM TT EE (w22G N) w22lv w22rs 4000 true (w22kE0 (bodyOf 0 Try.f22)) (w22sE0 x0) = (w22TE0 (bodyOf 0 Try.f22) N x0).map1 := by kernel_rfl
theorem w22nE0 (N : Nat) (x0 : VShard) : shard_Check N x0 = (w22TE0 (bodyOf 0 Try.f22) N x0).run := by kernel_rfl
theorem w22oE0 {N : Nat} {r : Int} (x0 : VShard) (h : shard_Check N x0 = some r) : Ends (Y := TT) EE (w22G N) w22lv w22rs (fun u => u = w22enc r) (w22kE0 (bodyOf 0 Try.f22)) (w22sE0 x0) :=
  tree_use (w22vE0 N x0) (w22nE0 N x0) h (show (w22TE0 (bodyOf 0 Try.f22) N x0).all _ from fun _ => ⟨fun _ => ⟨fun _ => ⟨⟨⟨fun _ => fun h => w22oR2 N _ _ h, fun _ => ⟨fun _ => fun h => w22oR2 N _ _ h, fun h => w22oR2 N _ _ h⟩⟩, fun h => w22oR2 N _ _ h⟩, fun h => w22oR2 N _ _ h⟩, fun h => w22oR2 N _ _ h⟩, fun h => w22oR2 N _ _ h⟩)
theorem shard_Check_ok {N : Nat} (x0 : VShard) {r : Int} (h : shard_Check N x0 = some r) (ρ : Nat → Nat) : ACalls Try.prog 22 (([.ag (unpT EE (.nam 8) x0)] : List (TV EE.T)).map (TV.to EE.toEnc ρ)) [] (fun out H => out = .ret ((shard_Check_u r).to EE.toEnc ρ) ∧ H = []) :=
  (fn_ok (bodyOf 0 Try.f22) 91 mixed (w22Gok N) Try.func22 (by kernel_rfl) rfl rfl rfl rfl (w22oE0 x0 h) ρ).mono fun out H h => KPost.ret rfl h
def shard_Check_h (N : Nat) : List (TV EE.T) → PV EE.T
  | [u0] => match argS EE 8 u0 with
    | some x0 => .opt (shard_Check N x0) shard_Check_u
    | _ => .bad
  | _ => .bad
theorem shard_Check_hok (N : Nat) (us : List (TV EE.T)) : (shard_Check_h N us).ok fun u => ∀ ρ, ACalls Try.prog 22 (us.map (TV.to EE.toEnc ρ)) [] (fun out H => out = .ret (u.to EE.toEnc ρ) ∧ H = []) := by
  unfold shard_Check_h
  split
  · split
    · rename_i h0
      intro z hz ρ; refine acalls_le ?_ (shard_Check_ok _ hz ρ); exact ⟨argS_le h0 ρ, trivial⟩
    · trivial
  · trivial
/-! ### slices.Clone[[]gleaner/api.Label,gleaner/api.Label] -/
def slices_Clone_api_Label_api_Label__u (r : List VLabel) : TV EE.T := .a (.d (.sl (.nam 2)) r)
def w85enc (r : List VLabel) : RL EE.T := .ret (slices_Clone_api_Label_api_Label__u r) []
def w85lv : Lvs := ⟨[], [], [], [], false, [], []⟩
def w85rs : List ResultVar := [.tmp 2]
def w85G (N : Nat) : Gam EE := ⟨[], EQT, []⟩
theorem w85Gok (N : Nat) : GOk Try.prog TT EE (w85G N) := GOk.nil EQT_ok
def w85kE0 (c : Code) : List It2 := [.c c]
def w85sE0 (x0 : List VLabel) : TS EE.T := ⟨8, [(0, .a (.d (.sl (.nam 2)) x0))], [], []⟩
def w85TE0 (c : Code) (N : Nat) (x0 : List VLabel) : Tree (Lf EE.T × Option (List VLabel)) :=
  .nl (x0)
  (
    .leaf (.done (w85enc ([] : List VLabel)), some ([] : List VLabel)))
  (
    .bnd (appC 32 ([] : List VLabel) x0) fun z1 =>
    .leaf (.done (w85enc z1), some z1))
theorem w85vE0 (N : Nat) (x0 : List VLabel) : evM TT EE (w85G N) w85lv w85rs 4000 true (w85kE0 (bodyOf 0 Try.f85)) (w85sE0 x0) = (w85TE0 (bodyOf 0 Try.f85) N x0).map1 := by kernel_rfl
theorem w85nE0 (N : Nat) (x0 : List VLabel) : slices_Clone_api_Label_api_Label_ N x0 = (w85TE0 (bodyOf 0 Try.f85) N x0).run := by kernel_rfl
theorem w85oE0 {N : Nat} {r : List VLabel} (x0 : List VLabel) (h : slices_Clone_api_Label_api_Label_ N x0 = some r) : Ends (Y := TT) EE (w85G N) w85lv w85rs (fun u => u = w85enc r) (w85kE0 (bodyOf 0 Try.f85)) (w85sE0 x0) :=
  tree_use (w85vE0 N x0) (w85nE0 N x0) h (show (w85TE0 (bodyOf 0 Try.f85) N x0).all _ from ⟨fun e => (by first | (subst e; kernel_rfl) | (rw [e]; kernel_rfl) | (simp only [e]; kernel_rfl)), retp (enc := w85enc) rfl, fun _ => retp (enc := w85enc) rfl⟩)
theorem slices_Clone_api_Label_api_Label__ok {N : Nat} (x0 : List VLabel) {r : List VLabel} (h : slices_Clone_api_Label_api_Label_ N x0 = some r) (ρ : Nat → Nat) : ACalls Try.prog 85 (([.a (.d (.sl (.nam 2)) x0)] : List (TV EE.T)).map (TV.to EE.toEnc ρ)) [] (fun out H => out = .ret ((slices_Clone_api_Label_api_Label__u r).to EE.toEnc ρ) ∧ H = []) :=
  (fn_ok (bodyOf 0 Try.f85) 8 mixed (w85Gok N) Try.func85 (by kernel_rfl) rfl rfl rfl rfl (w85oE0 x0 h) ρ).mono fun out H h => KPost.ret rfl h
def slices_Clone_api_Label_api_Label__h (N : Nat) : List (TV EE.T) → PV EE.T
  | [u0] => match argD (.sl (.nam 2)) u0 with
    | some x0 => .opt (slices_Clone_api_Label_api_Label_ N x0) slices_Clone_api_Label_api_Label__u
    | _ => .bad
  | _ => .bad
theorem slices_Clone_api_Label_api_Label__hok (N : Nat) (us : List (TV EE.T)) : (slices_Clone_api_Label_api_Label__h N us).ok fun u => ∀ ρ, ACalls Try.prog 85 (us.map (TV.to EE.toEnc ρ)) [] (fun out H => out = .ret (u.to EE.toEnc ρ) ∧ H = []) := by
  unfold slices_Clone_api_Label_api_Label__h
  split
  · split
    · rename_i h0
      intro z hz ρ; refine acalls_le ?_ (slices_Clone_api_Label_api_Label__ok _ hz ρ); exact ⟨argD_le h0 ρ, trivial⟩
    · trivial
  · trivial
/-! ### gleaner/shard.own -/
def shard_own_u (r : VShard) : TV EE.T := .ag (unpT EE (.nam 8) r)
def w59enc (r : VShard) : RL EE.T := .ret (shard_own_u r) []
def w59lv : Lvs := ⟨[], [(4, ⟨[(2, false), (4, false), (13, false), (14, false), (15, false)], [], [(2, (none, [])), (4, (none, []))]⟩)], [], [], false, [(4, (some 8, []))], []⟩
def w59rs : List ResultVar := [.cell 4 41]
def w59G (N : Nat) : Gam EE := ⟨[⟨85, slices_Clone_api_Label_api_Label__h N⟩], EQT, []⟩
theorem w59Gok (N : Nat) : GOk Try.prog TT EE (w59G N) := GOk.cons (slices_Clone_api_Label_api_Label__hok N) (GOk.nil EQT_ok)
def w59kL4 (c : Code) : List It2 := atL 4 c
def w59sL4 (x13 : List VItem) (x14 : Int) (x15 : Int) (b2_0 : List VItem) (b2_1 : Int) (b2_2 : Int) (b2_3 : Int) (b2_4 : Int) (b2_5 : Int) (b2_6 : Int) (b4_0 : List VItem) (b4_1 : Int) (b4_2 : Int) (b4_3 : Int) (b4_4 : Int) (b4_5 : Int) (b4_6 : Int) : TS EE.T := ⟨31, [(2, .a (.box 2 0)), (4, .a (.box 4 0)), (13, .a (.d (.sl (.nam 7)) x13)), (14, .a (.d (.int .i64) x14)), (15, .a (.d (.int .i64) x15))], [(2, .cs [.own (.nam 7) b2_0, .d (.int .i64) b2_1, .d (.int .i64) b2_2, .d (.int .i64) b2_3, .d (.int .i64) b2_4, .d (.int .i64) b2_5, .d (.int .i64) b2_6]), (4, .cs [.own (.nam 7) b4_0, .d (.int .i64) b4_1, .d (.int .i64) b4_2, .d (.int .i64) b4_3, .d (.int .i64) b4_4, .d (.int .i64) b4_5, .d (.int .i64) b4_6])], []⟩
def w59kE0 (c : Code) : List It2 := [.c c]
def w59sE0 (x0 : VShard) (x1 : Int) : TS EE.T := ⟨31, [(0, .ag (unpT EE (.nam 8) x0)), (1, .a (.d (.int .i64) x1))], [], []⟩
def w59TL4 (c : Code) (N : Nat) (n : Nat) (x13 : List VItem) (x14 : Int) (x15 : Int) (b2_0 : List VItem) (b2_1 : Int) (b2_2 : Int) (b2_3 : Int) (b2_4 : Int) (b2_5 : Int) (b2_6 : Int) (b4_0 : List VItem) (b4_1 : Int) (b4_2 : Int) (b4_3 : Int) (b4_4 : Int) (b4_5 : Int) (b4_6 : Int) : Tree (Lf EE.T × Option VShard) :=
  .cond (decide (x15 < x14))
  (
    .bnd (idxC x13 x15) fun z2 =>
    .bnd (slices_Clone_api_Label_api_Label_ N z2.Labels) fun z3 =>
    .bnd (appC 48 b2_0 ([({ Number := z2.Number, Labels := z3, Sample := z2.Sample } : VItem)] : List VItem)) fun z4 =>
    .leaf (.go (w59kL4 c) (w59sL4 x13 x14 (w64 (x15 + 1)) z4 b2_1 b2_2 b2_3 b2_4 b2_5 b2_6 b4_0 b4_1 b4_2 b4_3 b4_4 b4_5 b4_6), shard_own_L4 N n x13 x14 (w64 (x15 + 1)) z4 b2_1 b2_2 b2_3 b2_4 b2_5 b2_6 b4_0 b4_1 b4_2 b4_3 b4_4 b4_5 b4_6))
  (
    .leaf (.done (w59enc ({ Items := b2_0, Batch := b2_1, Room := b2_2, First := b2_3, Most := b2_4, Waits := b2_5, Till := b2_6 } : VShard)), some ({ Items := b2_0, Batch := b2_1, Room := b2_2, First := b2_3, Most := b2_4, Waits := b2_5, Till := b2_6 } : VShard)))
theorem w59vL4 (N : Nat) (n : Nat) (x13 : List VItem) (x14 : Int) (x15 : Int) (b2_0 : List VItem) (b2_1 : Int) (b2_2 : Int) (b2_3 : Int) (b2_4 : Int) (b2_5 : Int) (b2_6 : Int) (b4_0 : List VItem) (b4_1 : Int) (b4_2 : Int) (b4_3 : Int) (b4_4 : Int) (b4_5 : Int) (b4_6 : Int) : evM TT EE (w59G N) w59lv w59rs 4000 true (w59kL4 (bodyOf 0 Try.f59)) (w59sL4 x13 x14 x15 b2_0 b2_1 b2_2 b2_3 b2_4 b2_5 b2_6 b4_0 b4_1 b4_2 b4_3 b4_4 b4_5 b4_6) = (w59TL4 (bodyOf 0 Try.f59) N n x13 x14 x15 b2_0 b2_1 b2_2 b2_3 b2_4 b2_5 b2_6 b4_0 b4_1 b4_2 b4_3 b4_4 b4_5 b4_6).map1 := by kernel_rfl
theorem w59nL4 (N : Nat) (n : Nat) (x13 : List VItem) (x14 : Int) (x15 : Int) (b2_0 : List VItem) (b2_1 : Int) (b2_2 : Int) (b2_3 : Int) (b2_4 : Int) (b2_5 : Int) (b2_6 : Int) (b4_0 : List VItem) (b4_1 : Int) (b4_2 : Int) (b4_3 : Int) (b4_4 : Int) (b4_5 : Int) (b4_6 : Int) : shard_own_L4 N (n + 1) x13 x14 x15 b2_0 b2_1 b2_2 b2_3 b2_4 b2_5 b2_6 b4_0 b4_1 b4_2 b4_3 b4_4 b4_5 b4_6 = (w59TL4 (bodyOf 0 Try.f59) N n x13 x14 x15 b2_0 b2_1 b2_2 b2_3 b2_4 b2_5 b2_6 b4_0 b4_1 b4_2 b4_3 b4_4 b4_5 b4_6).run := by kernel_rfl
theorem w59oL4 {N : Nat} {r : VShard} : ∀ (n : Nat) (x13 : List VItem) (x14 : Int) (x15 : Int) (b2_0 : List VItem) (b2_1 : Int) (b2_2 : Int) (b2_3 : Int) (b2_4 : Int) (b2_5 : Int) (b2_6 : Int) (b4_0 : List VItem) (b4_1 : Int) (b4_2 : Int) (b4_3 : Int) (b4_4 : Int) (b4_5 : Int) (b4_6 : Int), shard_own_L4 N n x13 x14 x15 b2_0 b2_1 b2_2 b2_3 b2_4 b2_5 b2_6 b4_0 b4_1 b4_2 b4_3 b4_4 b4_5 b4_6 = some r → Ends (Y := TT) EE (w59G N) w59lv w59rs (fun u => u = w59enc r) (w59kL4 (bodyOf 0 Try.f59)) (w59sL4 x13 x14 x15 b2_0 b2_1 b2_2 b2_3 b2_4 b2_5 b2_6 b4_0 b4_1 b4_2 b4_3 b4_4 b4_5 b4_6)
  | 0, _, _, _, _, _, _, _, _, _, _, _, _, _, _, _, _, _, h => by cases h
  | n + 1, x13, x14, x15, b2_0, b2_1, b2_2, b2_3, b2_4, b2_5, b2_6, b4_0, b4_1, b4_2, b4_3, b4_4, b4_5, b4_6, h => tree_use (w59vL4 N n x13 x14 x15 b2_0 b2_1 b2_2 b2_3 b2_4 b2_5 b2_6 b4_0 b4_1 b4_2 b4_3 b4_4 b4_5 b4_6) (w59nL4 N n x13 x14 x15 b2_0 b2_1 b2_2 b2_3 b2_4 b2_5 b2_6 b4_0 b4_1 b4_2 b4_3 b4_4 b4_5 b4_6) h (show (w59TL4 (bodyOf 0 Try.f59) N n x13 x14 x15 b2_0 b2_1 b2_2 b2_3 b2_4 b2_5 b2_6 b4_0 b4_1 b4_2 b4_3 b4_4 b4_5 b4_6).all _ from ⟨fun _ => fun _ => fun _ => fun h => (w59oL4 n) _ _ _ _ _ _ _ _ _ _ _ _ _ _ _ _ _ h, retp (enc := w59enc) rfl⟩)
def w59TE0 (c : Code) (N : Nat) (x0 : VShard) (x1 : Int) : Tree (Lf EE.T × Option VShard) :=
  .bnd (subC x0.Items x1 (x0.Items.length : Int)) fun z1 =>
  .leaf (.go (w59kL4 c) (w59sL4 z1 (z1.length : Int) 0 ([] : List VItem) x0.Batch x0.Room x0.First x0.Most x0.Waits x0.Till ([] : List VItem) 0 0 0 0 0 0), shard_own_L4 N N z1 (z1.length : Int) 0 ([] : List VItem) x0.Batch x0.Room x0.First x0.Most x0.Waits x0.Till ([] : List VItem) 0 0 0 0 0 0)
theorem w59vE0 (N : Nat) (x0 : VShard) (x1 : Int) : evM TT EE (w59G N) w59lv w59rs 4000 true (w59kE0 (bodyOf 0 Try.f59)) (w59sE0 x0 x1) = (w59TE0 (bodyOf 0 Try.f59) N x0 x1).map1 := by kernel_rfl
theorem w59nE0 (N : Nat) (x0 : VShard) (x1 : Int) : shard_own N x0 x1 = (w59TE0 (bodyOf 0 Try.f59) N x0 x1).run := by kernel_rfl
theorem w59oE0 {N : Nat} {r : VShard} (x0 : VShard) (x1 : Int) (h : shard_own N x0 x1 = some r) : Ends (Y := TT) EE (w59G N) w59lv w59rs (fun u => u = w59enc r) (w59kE0 (bodyOf 0 Try.f59)) (w59sE0 x0 x1) :=
  tree_use (w59vE0 N x0 x1) (w59nE0 N x0 x1) h (show (w59TE0 (bodyOf 0 Try.f59) N x0 x1).all _ from fun _ => fun h => w59oL4 N _ _ _ _ _ _ _ _ _ _ _ _ _ _ _ _ _ h)
theorem shard_own_ok {N : Nat} (x0 : VShard) (x1 : Int) {r : VShard} (h : shard_own N x0 x1 = some r) (ρ : Nat → Nat) : ACalls Try.prog 59 (([.ag (unpT EE (.nam 8) x0), .a (.d (.int .i64) x1)] : List (TV EE.T)).map (TV.to EE.toEnc ρ)) [] (fun out H => out = .ret ((shard_own_u r).to EE.toEnc ρ) ∧ H = []) :=
  (fn_ok (bodyOf 0 Try.f59) 31 mixed (w59Gok N) Try.func59 (by kernel_rfl) rfl rfl rfl rfl (w59oE0 x0 x1 h) ρ).mono fun out H h => KPost.ret rfl h
def shard_own_h (N : Nat) : List (TV EE.T) → PV EE.T
  | [u0, u1] => match argS EE 8 u0, argD (.int .i64) u1 with
    | some x0, some x1 => .opt (shard_own N x0 x1) shard_own_u
    | _, _ => .bad
  | _ => .bad
theorem shard_own_hok (N : Nat) (us : List (TV EE.T)) : (shard_own_h N us).ok fun u => ∀ ρ, ACalls Try.prog 59 (us.map (TV.to EE.toEnc ρ)) [] (fun out H => out = .ret (u.to EE.toEnc ρ) ∧ H = []) := by
  unfold shard_own_h
  split
  · split
    · rename_i h0 h1
      intro z hz ρ; refine acalls_le ?_ (shard_own_ok _ _ hz ρ); exact ⟨argS_le h0 ρ, argD_le h1 ρ, trivial⟩
    · trivial
  · trivial
/-! ### gleaner/shard.Push -/
def shard_Push_u (r : VShard × Int) : TV EE.T := .tu [.ag (unpT EE (.nam 8) r.1), .a (.d (.int .i64) r.2)]
def w24enc (r : VShard × Int) : RL EE.T := .ret (shard_Push_u r) []
def w24lv : Lvs := ⟨[(4, ⟨[(2, false), (3, false), (4, false), (6, false)], [], [(2, (some 8, [])), (3, (some 7, [])), (4, (none, []))]⟩), (6, ⟨[(2, false), (3, false), (4, false), (6, false), (7, false)], [], [(2, (some 8, [])), (3, (some 7, [])), (4, (none, []))]⟩), (8, ⟨[(2, false), (3, false), (4, false), (6, false), (7, false)], [], [(2, (some 8, [])), (3, (some 7, [])), (4, (none, []))]⟩), (10, ⟨[(2, false), (3, false), (4, false), (6, false)], [], [(2, (some 8, [])), (3, (some 7, [])), (4, (none, []))]⟩), (12, ⟨[(2, false), (3, false), (4, false)], [], [(2, (some 8, [])), (3, (some 7, [])), (4, (none, []))]⟩)], [], [4, 8, 10], [], false, [(4, (some 8, []))], []⟩
def w24rs : List ResultVar := [.cell 4 41, .tmp 5]
def w24G (N : Nat) : Gam EE := ⟨[⟨22, shard_Check_h N⟩, ⟨56, shard_checkItem_h N⟩, ⟨59, shard_own_h N⟩, ⟨58, clip_h N⟩], EQT, []⟩
theorem w24Gok (N : Nat) : GOk Try.prog TT EE (w24G N) := GOk.cons (shard_Check_hok N) (GOk.cons (shard_checkItem_hok N) (GOk.cons (shard_own_hok N) (GOk.cons (clip_hok N) (GOk.nil EQT_ok))))
def w24kR10 (c : Code) : List It2 := atR 10 c
def w24sR10 (x6 : Int) (b2 : VShard) (b3 : VItem) (b4_0 : List VItem) (b4_1 : Int) (b4_2 : Int) (b4_3 : Int) (b4_4 : Int) (b4_5 : Int) (b4_6 : Int) : TS EE.T := ⟨53, [(2, .a (.box 2 0)), (3, .a (.box 3 0)), (4, .a (.box 4 0)), (6, .a (.d (.int .i64) x6))], [(2, .cs (unpT EE (.nam 8) b2)), (3, .cs (unpT EE (.nam 7) b3)), (4, .cs [.own (.nam 7) b4_0, .d (.int .i64) b4_1, .d (.int .i64) b4_2, .d (.int .i64) b4_3, .d (.int .i64) b4_4, .d (.int .i64) b4_5, .d (.int .i64) b4_6])], []⟩
def w24kR8 (c : Code) : List It2 := atR 8 c
def w24sR8 (x6 : Int) (x7 : Int) (b2 : VShard) (b3 : VItem) (b4_0 : List VItem) (b4_1 : Int) (b4_2 : Int) (b4_3 : Int) (b4_4 : Int) (b4_5 : Int) (b4_6 : Int) : TS EE.T := ⟨53, [(2, .a (.box 2 0)), (3, .a (.box 3 0)), (4, .a (.box 4 0)), (6, .a (.d (.int .i64) x6)), (7, .a (.d (.int .i64) x7))], [(2, .cs (unpT EE (.nam 8) b2)), (3, .cs (unpT EE (.nam 7) b3)), (4, .cs [.own (.nam 7) b4_0, .d (.int .i64) b4_1, .d (.int .i64) b4_2, .d (.int .i64) b4_3, .d (.int .i64) b4_4, .d (.int .i64) b4_5, .d (.int .i64) b4_6])], []⟩
def w24kR4 (c : Code) : List It2 := atR 4 c
def w24sR4 (x6 : Int) (b2 : VShard) (b3 : VItem) (b4_0 : List VItem) (b4_1 : Int) (b4_2 : Int) (b4_3 : Int) (b4_4 : Int) (b4_5 : Int) (b4_6 : Int) : TS EE.T := ⟨53, [(2, .a (.box 2 0)), (3, .a (.box 3 0)), (4, .a (.box 4 0)), (6, .a (.d (.int .i64) x6))], [(2, .cs (unpT EE (.nam 8) b2)), (3, .cs (unpT EE (.nam 7) b3)), (4, .cs [.own (.nam 7) b4_0, .d (.int .i64) b4_1, .d (.int .i64) b4_2, .d (.int .i64) b4_3, .d (.int .i64) b4_4, .d (.int .i64) b4_5, .d (.int .i64) b4_6])], []⟩
def w24kE0 (c : Code) : List It2 := [.c c]
def w24sE0 (x0 : VShard) (x1 : VItem) : TS EE.T := ⟨53, [(0, .ag (unpT EE (.nam 8) x0)), (1, .ag (unpT EE (.nam 7) x1))], [], []⟩
def w24TR10 (c : Code) (N : Nat) (n : Nat) (x6 : Int) (b2 : VShard) (b3 : VItem) (b4_0 : List VItem) (b4_1 : Int) (b4_2 : Int) (b4_3 : Int) (b4_4 : Int) (b4_5 : Int) (b4_6 : Int) : Tree (Lf EE.T × Option (VShard × Int)) :=
  .cond (x6 != 0)
  (
    .leaf (.done (w24enc (({ Items := ([] : List VItem), Batch := 0, Room := 0, First := 0, Most := 0, Waits := 0, Till := 0 } : VShard), x6)), some (({ Items := ([] : List VItem), Batch := 0, Room := 0, First := 0, Most := 0, Waits := 0, Till := 0 } : VShard), x6)))
  (
    .bnd (appCl 48 b2.Items ([b3] : List VItem)) fun z4 =>
    .bnd (shard_own N ({ Items := z4, Batch := b2.Batch, Room := b2.Room, First := b2.First, Most := b2.Most, Waits := b2.Waits, Till := b2.Till } : VShard) 0) fun z5 =>
    .leaf (.done (w24enc (z5, 0)), some (z5, 0)))
theorem w24vR10 (N : Nat) (n : Nat) (x6 : Int) (b2 : VShard) (b3 : VItem) (b4_0 : List VItem) (b4_1 : Int) (b4_2 : Int) (b4_3 : Int) (b4_4 : Int) (b4_5 : Int) (b4_6 : Int) : evM TT EE (w24G N) w24lv w24rs 4000 true (w24kR10 (bodyOf 0 Try.f24)) (w24sR10 x6 b2 b3 b4_0 b4_1 b4_2 b4_3 b4_4 b4_5 b4_6) = (w24TR10 (bodyOf 0 Try.f24) N n x6 b2 b3 b4_0 b4_1 b4_2 b4_3 b4_4 b4_5 b4_6).map1 := by kernel_rfl
theorem w24nR10 (N : Nat) (n : Nat) (x6 : Int) (b2 : VShard) (b3 : VItem) (b4_0 : List VItem) (b4_1 : Int) (b4_2 : Int) (b4_3 : Int) (b4_4 : Int) (b4_5 : Int) (b4_6 : Int) : shard_Push_R10 N n x6 b2 b3 b4_0 b4_1 b4_2 b4_3 b4_4 b4_5 b4_6 = (w24TR10 (bodyOf 0 Try.f24) N n x6 b2 b3 b4_0 b4_1 b4_2 b4_3 b4_4 b4_5 b4_6).run := by kernel_rfl
theorem w24oR10 {N : Nat} {r : VShard × Int} (n : Nat) (x6 : Int) (b2 : VShard) (b3 : VItem) (b4_0 : List VItem) (b4_1 : Int) (b4_2 : Int) (b4_3 : Int) (b4_4 : Int) (b4_5 : Int) (b4_6 : Int) (h : shard_Push_R10 N n x6 b2 b3 b4_0 b4_1 b4_2 b4_3 b4_4 b4_5 b4_6 = some r) : Ends (Y := TT) EE (w24G N) w24lv w24rs (fun u => u = w24enc r) (w24kR10 (bodyOf 0 Try.f24)) (w24sR10 x6 b2 b3 b4_0 b4_1 b4_2 b4_3 b4_4 b4_5 b4_6) :=
  tree_use (w24vR10 N n x6 b2 b3 b4_0 b4_1 b4_2 b4_3 b4_4 b4_5 b4_6) (w24nR10 N n x6 b2 b3 b4_0 b4_1 b4_2 b4_3 b4_4 b4_5 b4_6) h (show (w24TR10 (bodyOf 0 Try.f24) N n x6 b2 b3 b4_0 b4_1 b4_2 b4_3 b4_4 b4_5 b4_6).all _ from ⟨retp (enc := w24enc) rfl, fun _ => fun _ => retp (enc := w24enc) rfl⟩)
def w24TR8 (c : Code) (N : Nat) (n : Nat) (x6 : Int) (x7 : Int) (b2 : VShard) (b3 : VItem) (b4_0 : List VItem) (b4_1 : Int) (b4_2 : Int) (b4_3 : Int) (b4_4 : Int) (b4_5 : Int) (b4_6 : Int) : Tree (Lf EE.T × Option (VShard × Int)) :=
  .cond (x7 == b2.Room)
  (
    .leaf (.go (w24kR10 c) (w24sR10 2 b2 b3 b4_0 b4_1 b4_2 b4_3 b4_4 b4_5 b4_6), shard_Push_R10 N n 2 b2 b3 b4_0 b4_1 b4_2 b4_3 b4_4 b4_5 b4_6))
  (
    .leaf (.go (w24kR10 c) (w24sR10 x6 b2 b3 b4_0 b4_1 b4_2 b4_3 b4_4 b4_5 b4_6), shard_Push_R10 N n x6 b2 b3 b4_0 b4_1 b4_2 b4_3 b4_4 b4_5 b4_6))
theorem w24vR8 (N : Nat) (n : Nat) (x6 : Int) (x7 : Int) (b2 : VShard) (b3 : VItem) (b4_0 : List VItem) (b4_1 : Int) (b4_2 : Int) (b4_3 : Int) (b4_4 : Int) (b4_5 : Int) (b4_6 : Int) : evM TT EE (w24G N) w24lv w24rs 4000 true (w24kR8 (bodyOf 0 Try.f24)) (w24sR8 x6 x7 b2 b3 b4_0 b4_1 b4_2 b4_3 b4_4 b4_5 b4_6) = (w24TR8 (bodyOf 0 Try.f24) N n x6 x7 b2 b3 b4_0 b4_1 b4_2 b4_3 b4_4 b4_5 b4_6).map1 := by kernel_rfl
theorem w24nR8 (N : Nat) (n : Nat) (x6 : Int) (x7 : Int) (b2 : VShard) (b3 : VItem) (b4_0 : List VItem) (b4_1 : Int) (b4_2 : Int) (b4_3 : Int) (b4_4 : Int) (b4_5 : Int) (b4_6 : Int) : shard_Push_R8 N n x6 x7 b2 b3 b4_0 b4_1 b4_2 b4_3 b4_4 b4_5 b4_6 = (w24TR8 (bodyOf 0 Try.f24) N n x6 x7 b2 b3 b4_0 b4_1 b4_2 b4_3 b4_4 b4_5 b4_6).run := by kernel_rfl
theorem w24oR8 {N : Nat} {r : VShard × Int} (n : Nat) (x6 : Int) (x7 : Int) (b2 : VShard) (b3 : VItem) (b4_0 : List VItem) (b4_1 : Int) (b4_2 : Int) (b4_3 : Int) (b4_4 : Int) (b4_5 : Int) (b4_6 : Int) (h : shard_Push_R8 N n x6 x7 b2 b3 b4_0 b4_1 b4_2 b4_3 b4_4 b4_5 b4_6 = some r) : Ends (Y := TT) EE (w24G N) w24lv w24rs (fun u => u = w24enc r) (w24kR8 (bodyOf 0 Try.f24)) (w24sR8 x6 x7 b2 b3 b4_0 b4_1 b4_2 b4_3 b4_4 b4_5 b4_6) :=
  tree_use (w24vR8 N n x6 x7 b2 b3 b4_0 b4_1 b4_2 b4_3 b4_4 b4_5 b4_6) (w24nR8 N n x6 x7 b2 b3 b4_0 b4_1 b4_2 b4_3 b4_4 b4_5 b4_6) h (show (w24TR8 (bodyOf 0 Try.f24) N n x6 x7 b2 b3 b4_0 b4_1 b4_2 b4_3 b4_4 b4_5 b4_6).all _ from ⟨fun h => w24oR10 n _ _ _ _ _ _ _ _ _ _ h, fun h => w24oR10 n _ _ _ _ _ _ _ _ _ _ h⟩)
def w24TR4 (c : Code) (N : Nat) (n : Nat) (x6 : Int) (b2 : VShard) (b3 : VItem) (b4_0 : List VItem) (b4_1 : Int) (b4_2 : Int) (b4_3 : Int) (b4_4 : Int) (b4_5 : Int) (b4_6 : Int) : Tree (Lf EE.T × Option (VShard × Int)) :=
  .cond (x6 != 0)
  (
    .leaf (.go (w24kR10 c) (w24sR10 x6 b2 b3 b4_0 b4_1 b4_2 b4_3 b4_4 b4_5 b4_6), shard_Push_R10 N n x6 b2 b3 b4_0 b4_1 b4_2 b4_3 b4_4 b4_5 b4_6))
  (
    .cond (decide ((b2.Items.length : Int) > 0))
    (
      .bnd (idxC b2.Items (w64 ((b2.Items.length : Int) - 1))) fun z3 =>
      .cond (decide (b3.Number ≤ z3.Number))
      (
        .leaf (.go (w24kR10 c) (w24sR10 4 b2 b3 b4_0 b4_1 b4_2 b4_3 b4_4 b4_5 b4_6), shard_Push_R10 N n 4 b2 b3 b4_0 b4_1 b4_2 b4_3 b4_4 b4_5 b4_6))
      (
        .leaf (.go (w24kR8 c) (w24sR8 x6 (b2.Items.length : Int) b2 b3 b4_0 b4_1 b4_2 b4_3 b4_4 b4_5 b4_6), shard_Push_R8 N n x6 (b2.Items.length : Int) b2 b3 b4_0 b4_1 b4_2 b4_3 b4_4 b4_5 b4_6)))
    (
      .leaf (.go (w24kR8 c) (w24sR8 x6 (b2.Items.length : Int) b2 b3 b4_0 b4_1 b4_2 b4_3 b4_4 b4_5 b4_6), shard_Push_R8 N n x6 (b2.Items.length : Int) b2 b3 b4_0 b4_1 b4_2 b4_3 b4_4 b4_5 b4_6)))
theorem w24vR4 (N : Nat) (n : Nat) (x6 : Int) (b2 : VShard) (b3 : VItem) (b4_0 : List VItem) (b4_1 : Int) (b4_2 : Int) (b4_3 : Int) (b4_4 : Int) (b4_5 : Int) (b4_6 : Int) : evM TT EE (w24G N) w24lv w24rs 4000 true (w24kR4 (bodyOf 0 Try.f24)) (w24sR4 x6 b2 b3 b4_0 b4_1 b4_2 b4_3 b4_4 b4_5 b4_6) = (w24TR4 (bodyOf 0 Try.f24) N n x6 b2 b3 b4_0 b4_1 b4_2 b4_3 b4_4 b4_5 b4_6).map1 := by kernel_rfl
theorem w24nR4 (N : Nat) (n : Nat) (x6 : Int) (b2 : VShard) (b3 : VItem) (b4_0 : List VItem) (b4_1 : Int) (b4_2 : Int) (b4_3 : Int) (b4_4 : Int) (b4_5 : Int) (b4_6 : Int) : shard_Push_R4 N n x6 b2 b3 b4_0 b4_1 b4_2 b4_3 b4_4 b4_5 b4_6 = (w24TR4 (bodyOf 0 Try.f24) N n x6 b2 b3 b4_0 b4_1 b4_2 b4_3 b4_4 b4_5 b4_6).run := by kernel_rfl
theorem w24oR4 {N : Nat} {r : VShard × Int} (n : Nat) (x6 : Int) (b2 : VShard) (b3 : VItem) (b4_0 : List VItem) (b4_1 : Int) (b4_2 : Int) (b4_3 : Int) (b4_4 : Int) (b4_5 : Int) (b4_6 : Int) (h : shard_Push_R4 N n x6 b2 b3 b4_0 b4_1 b4_2 b4_3 b4_4 b4_5 b4_6 = some r) : Ends (Y := TT) EE (w24G N) w24lv w24rs (fun u => u = w24enc r) (w24kR4 (bodyOf 0 Try.f24)) (w24sR4 x6 b2 b3 b4_0 b4_1 b4_2 b4_3 b4_4 b4_5 b4_6) :=
  tree_use (w24vR4 N n x6 b2 b3 b4_0 b4_1 b4_2 b4_3 b4_4 b4_5 b4_6) (w24nR4 N n x6 b2 b3 b4_0 b4_1 b4_2 b4_3 b4_4 b4_5 b4_6) h (show (w24TR4 (bodyOf 0 Try.f24) N n x6 b2 b3 b4_0 b4_1 b4_2 b4_3 b4_4 b4_5 b4_6).all _ from ⟨fun h => w24oR10 n _ _ _ _ _ _ _ _ _ _ h, ⟨fun _ => ⟨fun h => w24oR10 n _ _ _ _ _ _ _ _ _ _ h, fun h => w24oR8 n _ _ _ _ _ _ _ _ _ _ _ h⟩, fun h => w24oR8 n _ _ _ _ _ _ _ _ _ _ _ h⟩⟩)
def w24TE0 (c : Code) (N : Nat) (x0 : VShard) (x1 : VItem) : Tree (Lf EE.T × Option (VShard × Int)) :=
  .bnd (shard_Check N x0) fun z1 =>
  .cond (z1 == 0)
  (
    .bnd (shard_checkItem N x1) fun z2 =>
    .leaf (.go (w24kR4 c) (w24sR4 z2 x0 x1 ([] : List VItem) 0 0 0 0 0 0), shard_Push_R4 N N z2 x0 x1 ([] : List VItem) 0 0 0 0 0 0))
  (
    .leaf (.go (w24kR4 c) (w24sR4 z1 x0 x1 ([] : List VItem) 0 0 0 0 0 0), shard_Push_R4 N N z1 x0 x1 ([] : List VItem) 0 0 0 0 0 0))
theorem w24vE0 (N : Nat) (x0 : VShard) (x1 : VItem) : evM TT EE (w24G N) w24lv w24rs 4000 true (w24kE0 (bodyOf 0 Try.f24)) (w24sE0 x0 x1) = (w24TE0 (bodyOf 0 Try.f24) N x0 x1).map1 := by kernel_rfl
theorem w24nE0 (N : Nat) (x0 : VShard) (x1 : VItem) : shard_Push N x0 x1 = (w24TE0 (bodyOf 0 Try.f24) N x0 x1).run := by kernel_rfl
theorem w24oE0 {N : Nat} {r : VShard × Int} (x0 : VShard) (x1 : VItem) (h : shard_Push N x0 x1 = some r) : Ends (Y := TT) EE (w24G N) w24lv w24rs (fun u => u = w24enc r) (w24kE0 (bodyOf 0 Try.f24)) (w24sE0 x0 x1) :=
  tree_use (w24vE0 N x0 x1) (w24nE0 N x0 x1) h (show (w24TE0 (bodyOf 0 Try.f24) N x0 x1).all _ from fun _ => ⟨fun _ => fun h => w24oR4 N _ _ _ _ _ _ _ _ _ _ h, fun h => w24oR4 N _ _ _ _ _ _ _ _ _ _ h⟩)
theorem shard_Push_ok {N : Nat} (x0 : VShard) (x1 : VItem) {r : VShard × Int} (h : shard_Push N x0 x1 = some r) (ρ : Nat → Nat) : ACalls Try.prog 24 (([.ag (unpT EE (.nam 8) x0), .ag (unpT EE (.nam 7) x1)] : List (TV EE.T)).map (TV.to EE.toEnc ρ)) [] (fun out H => out = .ret ((shard_Push_u r).to EE.toEnc ρ) ∧ H = []) :=
  (fn_ok (bodyOf 0 Try.f24) 53 mixed (w24Gok N) Try.func24 (by kernel_rfl) rfl rfl rfl rfl (w24oE0 x0 x1 h) ρ).mono fun out H h => KPost.ret rfl h
def shard_Push_h (N : Nat) : List (TV EE.T) → PV EE.T
  | [u0, u1] => match argS EE 8 u0, argS EE 7 u1 with
    | some x0, some x1 => .opt (shard_Push N x0 x1) shard_Push_u
    | _, _ => .bad
  | _ => .bad
theorem shard_Push_hok (N : Nat) (us : List (TV EE.T)) : (shard_Push_h N us).ok fun u => ∀ ρ, ACalls Try.prog 24 (us.map (TV.to EE.toEnc ρ)) [] (fun out H => out = .ret (u.to EE.toEnc ρ) ∧ H = []) := by
  unfold shard_Push_h
  split
  · split
    · rename_i h0 h1
      intro z hz ρ; refine acalls_le ?_ (shard_Push_ok _ _ hz ρ); exact ⟨argS_le h0 ρ, argS_le h1 ρ, trivial⟩
    · trivial
  · trivial
/-! ### gleaner/wire.many -/
def wire_many_u (r : Bool) : TV EE.T := .a (.d .bool r)
def w106enc (r : Bool) : RL EE.T := .ret (wire_many_u r) []
def w106lv : Lvs := ⟨[], [(4, ⟨[(10, false), (11, false), (12, false)], [], []⟩), (9, ⟨[(10, false), (11, false), (12, false), (27, false), (28, false), (29, false)], [], []⟩)], [], [], false, [], []⟩
def w106rs : List ResultVar := [.tmp 2]
def w106G (N : Nat) : Gam EE := ⟨[], EQT, []⟩
theorem w106Gok (N : Nat) : GOk Try.prog TT EE (w106G N) := GOk.nil EQT_ok
def w106kL9 (c : Code) : List It2 := atL 9 c
def w106sL9 (x10 : List VSeries) (x11 : Int) (x12 : Int) (x27 : List VLabel) (x28 : Int) (x29 : Int) : TS EE.T := ⟨45, [(10, .a (.d (.sl (.nam 9)) x10)), (11, .a (.d (.int .i64) x11)), (12, .a (.d (.int .i64) x12)), (27, .a (.d (.sl (.nam 2)) x27)), (28, .a (.d (.int .i64) x28)), (29, .a (.d (.int .i64) x29))], [], []⟩
def w106kL4 (c : Code) : List It2 := atL 4 c
def w106sL4 (x10 : List VSeries) (x11 : Int) (x12 : Int) : TS EE.T := ⟨45, [(10, .a (.d (.sl (.nam 9)) x10)), (11, .a (.d (.int .i64) x11)), (12, .a (.d (.int .i64) x12))], [], []⟩
def w106kE0 (c : Code) : List It2 := [.c c]
def w106sE0 (x0 : List VSeries) : TS EE.T := ⟨45, [(0, .a (.d (.sl (.nam 9)) x0))], [], []⟩
def w106TL9 (c : Code) (N : Nat) (k4 : (List VSeries) → Int → Int → Option Bool) (n : Nat) (x10 : List VSeries) (x11 : Int) (x12 : Int) (x27 : List VLabel) (x28 : Int) (x29 : Int) : Tree (Lf EE.T × Option Bool) :=
  .cond (decide (x29 < x28))
  (
    .bnd (idxC x27 x29) fun z2 =>
    .cond (decide ((z2.Name.length : Int) > 20000))
    (
      .leaf (.done (w106enc true), some true))
    (
      .cond (decide ((z2.Value.length : Int) > 20000))
      (
        .leaf (.done (w106enc true), some true))
      (
        .leaf (.go (w106kL9 c) (w106sL9 x10 x11 x12 x27 x28 (w64 (x29 + 1))), wire_many_L9 N k4 n x10 x11 x12 x27 x28 (w64 (x29 + 1))))))
  (
    .leaf (.go (w106kL4 c) (w106sL4 x10 x11 (w64 (x12 + 1))), k4 x10 x11 (w64 (x12 + 1))))
theorem w106vL9 (N : Nat) (k4 : (List VSeries) → Int → Int → Option Bool) (n : Nat) (x10 : List VSeries) (x11 : Int) (x12 : Int) (x27 : List VLabel) (x28 : Int) (x29 : Int) : evM TT EE (w106G N) w106lv w106rs 4000 true (w106kL9 (bodyOf 0 Try.f106)) (w106sL9 x10 x11 x12 x27 x28 x29) = (w106TL9 (bodyOf 0 Try.f106) N k4 n x10 x11 x12 x27 x28 x29).map1 := by kernel_rfl
theorem w106nL9 (N : Nat) (k4 : (List VSeries) → Int → Int → Option Bool) (n : Nat) (x10 : List VSeries) (x11 : Int) (x12 : Int) (x27 : List VLabel) (x28 : Int) (x29 : Int) : wire_many_L9 N k4 (n + 1) x10 x11 x12 x27 x28 x29 = (w106TL9 (bodyOf 0 Try.f106) N k4 n x10 x11 x12 x27 x28 x29).run := by kernel_rfl
theorem w106oL9 {N : Nat} {r : Bool} {k4 : (List VSeries) → Int → Int → Option Bool} (hk4 : ∀ x10 x11 x12, k4 x10 x11 x12 = some r → Ends (Y := TT) EE (w106G N) w106lv w106rs (fun u => u = w106enc r) (w106kL4 (bodyOf 0 Try.f106)) (w106sL4 x10 x11 x12)) : ∀ (n : Nat) (x10 : List VSeries) (x11 : Int) (x12 : Int) (x27 : List VLabel) (x28 : Int) (x29 : Int), wire_many_L9 N k4 n x10 x11 x12 x27 x28 x29 = some r → Ends (Y := TT) EE (w106G N) w106lv w106rs (fun u => u = w106enc r) (w106kL9 (bodyOf 0 Try.f106)) (w106sL9 x10 x11 x12 x27 x28 x29)
  | 0, _, _, _, _, _, _, h => by cases h
  | n + 1, x10, x11, x12, x27, x28, x29, h => tree_use (w106vL9 N k4 n x10 x11 x12 x27 x28 x29) (w106nL9 N k4 n x10 x11 x12 x27 x28 x29) h (show (w106TL9 (bodyOf 0 Try.f106) N k4 n x10 x11 x12 x27 x28 x29).all _ from ⟨fun _ => ⟨retp (enc := w106enc) rfl, ⟨retp (enc := w106enc) rfl, fun h => (w106oL9 hk4 n) _ _ _ _ _ _ h⟩⟩, fun h => hk4 _ _ _ h⟩)
def w106TL4 (c : Code) (N : Nat) (n : Nat) (x10 : List VSeries) (x11 : Int) (x12 : Int) : Tree (Lf EE.T × Option Bool) :=
  .cond (decide (x12 < x11))
  (
    .bnd (idxC x10 x12) fun z1 =>
    .cond (decide ((z1.Labels.length : Int) > 20))
    (
      .leaf (.done (w106enc true), some true))
    (
      .cond (decide ((z1.Samples.length : Int) > 200))
      (
        .leaf (.done (w106enc true), some true))
      (
        .leaf (.go (w106kL9 c) (w106sL9 x10 x11 x12 z1.Labels (z1.Labels.length : Int) 0), wire_many_L9 N (wire_many_L4 N n) n x10 x11 x12 z1.Labels (z1.Labels.length : Int) 0))))
  (
    .leaf (.done (w106enc false), some false))
theorem w106vL4 (N : Nat) (n : Nat) (x10 : List VSeries) (x11 : Int) (x12 : Int) : evM TT EE (w106G N) w106lv w106rs 4000 true (w106kL4 (bodyOf 0 Try.f106)) (w106sL4 x10 x11 x12) = (w106TL4 (bodyOf 0 Try.f106) N n x10 x11 x12).map1 := by kernel_rfl
theorem w106nL4 (N : Nat) (n : Nat) (x10 : List VSeries) (x11 : Int) (x12 : Int) : wire_many_L4 N (n + 1) x10 x11 x12 = (w106TL4 (bodyOf 0 Try.f106) N n x10 x11 x12).run := by kernel_rfl
theorem w106oL4 {N : Nat} {r : Bool} : ∀ (n : Nat) (x10 : List VSeries) (x11 : Int) (x12 : Int), wire_many_L4 N n x10 x11 x12 = some r → Ends (Y := TT) EE (w106G N) w106lv w106rs (fun u => u = w106enc r) (w106kL4 (bodyOf 0 Try.f106)) (w106sL4 x10 x11 x12)
  | 0, _, _, _, h => by cases h
  | n + 1, x10, x11, x12, h => tree_use (w106vL4 N n x10 x11 x12) (w106nL4 N n x10 x11 x12) h (show (w106TL4 (bodyOf 0 Try.f106) N n x10 x11 x12).all _ from ⟨fun _ => ⟨retp (enc := w106enc) rfl, ⟨retp (enc := w106enc) rfl, fun h => w106oL9 (w106oL4 n) n _ _ _ _ _ _ h⟩⟩, retp (enc := w106enc) rfl⟩)
def w106TE0 (c : Code) (N : Nat) (x0 : List VSeries) : Tree (Lf EE.T × Option Bool) :=
  .cond (decide ((x0.length : Int) > 200))
  (
    .leaf (.done (w106enc true), some true))
  (
    .leaf (.go (w106kL4 c) (w106sL4 x0 (x0.length : Int) 0), wire_many_L4 N N x0 (x0.length : Int) 0))
theorem w106vE0 (N : Nat) (x0 : List VSeries) : evM TT EE (w106G N) w106lv w106rs 4000 true (w106kE0 (bodyOf 0 Try.f106)) (w106sE0 x0) = (w106TE0 (bodyOf 0 Try.f106) N x0).map1 := by kernel_rfl
theorem w106nE0 (N : Nat) (x0 : List VSeries) : wire_many N x0 = (w106TE0 (bodyOf 0 Try.f106) N x0).run := by kernel_rfl
theorem w106oE0 {N : Nat} {r : Bool} (x0 : List VSeries) (h : wire_many N x0 = some r) : Ends (Y := TT) EE (w106G N) w106lv w106rs (fun u => u = w106enc r) (w106kE0 (bodyOf 0 Try.f106)) (w106sE0 x0) :=
  tree_use (w106vE0 N x0) (w106nE0 N x0) h (show (w106TE0 (bodyOf 0 Try.f106) N x0).all _ from ⟨retp (enc := w106enc) rfl, fun h => w106oL4 N _ _ _ h⟩)
theorem wire_many_ok {N : Nat} (x0 : List VSeries) {r : Bool} (h : wire_many N x0 = some r) (ρ : Nat → Nat) : ACalls Try.prog 106 (([.a (.d (.sl (.nam 9)) x0)] : List (TV EE.T)).map (TV.to EE.toEnc ρ)) [] (fun out H => out = .ret ((wire_many_u r).to EE.toEnc ρ) ∧ H = []) :=
  (fn_ok (bodyOf 0 Try.f106) 45 mixed (w106Gok N) Try.func106 (by kernel_rfl) rfl rfl rfl rfl (w106oE0 x0 h) ρ).mono fun out H h => KPost.ret rfl h
def wire_many_h (N : Nat) : List (TV EE.T) → PV EE.T
  | [u0] => match argD (.sl (.nam 9)) u0 with
    | some x0 => .opt (wire_many N x0) wire_many_u
    | _ => .bad
  | _ => .bad
theorem wire_many_hok (N : Nat) (us : List (TV EE.T)) : (wire_many_h N us).ok fun u => ∀ ρ, ACalls Try.prog 106 (us.map (TV.to EE.toEnc ρ)) [] (fun out H => out = .ret (u.to EE.toEnc ρ) ∧ H = []) := by
  unfold wire_many_h
  split
  · split
    · rename_i h0
      intro z hz ρ; refine acalls_le ?_ (wire_many_ok _ hz ρ); exact ⟨argD_le h0 ρ, trivial⟩
    · trivial
  · trivial
/-! ### gleaner/wire.isTime -/
def wire_isTime_u (r : Bool) : TV EE.T := .a (.d .bool r)
def w109enc (r : Bool) : RL EE.T := .ret (wire_isTime_u r) []
def w109lv : Lvs := ⟨[], [], [], [], false, [], []⟩
def w109rs : List ResultVar := [.tmp 2]
def w109G (N : Nat) : Gam EE := ⟨[], EQT, []⟩
theorem w109Gok (N : Nat) : GOk Try.prog TT EE (w109G N) := GOk.nil EQT_ok
def w109kE0 (c : Code) : List It2 := [.c c]
def w109sE0 (x0 : Int) : TS EE.T := ⟨9, [(0, .a (.d (.int .i64) x0))], [], []⟩
def w109TE0 (c : Code) (N : Nat) (x0 : Int) : Tree (Lf EE.T × Option Bool) :=
  .cond (decide (x0 ≥ (-9007199254740991)))
  (
    .leaf (.done (w109enc (decide (x0 ≤ 9007199254740991))), some (decide (x0 ≤ 9007199254740991))))
  (
    .leaf (.done (w109enc false), some false))
theorem w109vE0 (N : Nat) (x0 : Int) : evM TT EE (w109G N) w109lv w109rs 4000 true (w109kE0 (bodyOf 0 Try.f109)) (w109sE0 x0) = (w109TE0 (bodyOf 0 Try.f109) N x0).map1 := by kernel_rfl
theorem w109nE0 (N : Nat) (x0 : Int) : wire_isTime N x0 = (w109TE0 (bodyOf 0 Try.f109) N x0).run := by kernel_rfl
theorem w109oE0 {N : Nat} {r : Bool} (x0 : Int) (h : wire_isTime N x0 = some r) : Ends (Y := TT) EE (w109G N) w109lv w109rs (fun u => u = w109enc r) (w109kE0 (bodyOf 0 Try.f109)) (w109sE0 x0) :=
  tree_use (w109vE0 N x0) (w109nE0 N x0) h (show (w109TE0 (bodyOf 0 Try.f109) N x0).all _ from ⟨retp (enc := w109enc) rfl, retp (enc := w109enc) rfl⟩)
theorem wire_isTime_ok {N : Nat} (x0 : Int) {r : Bool} (h : wire_isTime N x0 = some r) (ρ : Nat → Nat) : ACalls Try.prog 109 (([.a (.d (.int .i64) x0)] : List (TV EE.T)).map (TV.to EE.toEnc ρ)) [] (fun out H => out = .ret ((wire_isTime_u r).to EE.toEnc ρ) ∧ H = []) :=
  (fn_ok (bodyOf 0 Try.f109) 9 mixed (w109Gok N) Try.func109 (by kernel_rfl) rfl rfl rfl rfl (w109oE0 x0 h) ρ).mono fun out H h => KPost.ret rfl h
def wire_isTime_h (N : Nat) : List (TV EE.T) → PV EE.T
  | [u0] => match argD (.int .i64) u0 with
    | some x0 => .opt (wire_isTime N x0) wire_isTime_u
    | _ => .bad
  | _ => .bad
theorem wire_isTime_hok (N : Nat) (us : List (TV EE.T)) : (wire_isTime_h N us).ok fun u => ∀ ρ, ACalls Try.prog 109 (us.map (TV.to EE.toEnc ρ)) [] (fun out H => out = .ret (u.to EE.toEnc ρ) ∧ H = []) := by
  unfold wire_isTime_h
  split
  · split
    · rename_i h0
      intro z hz ρ; refine acalls_le ?_ (wire_isTime_ok _ hz ρ); exact ⟨argD_le h0 ρ, trivial⟩
    · trivial
  · trivial
/-! ### gleaner/wire.times -/
def wire_times_u (r : Bool) : TV EE.T := .a (.d .bool r)
def w107enc (r : Bool) : RL EE.T := .ret (wire_times_u r) []
def w107lv : Lvs := ⟨[], [(2, ⟨[(7, false), (8, false), (9, false)], [], []⟩), (5, ⟨[(7, false), (8, false), (9, false), (14, false), (15, false), (16, false)], [], []⟩)], [], [], false, [], []⟩
def w107rs : List ResultVar := [.tmp 2]
def w107G (N : Nat) : Gam EE := ⟨[⟨109, wire_isTime_h N⟩], EQT, []⟩
theorem w107Gok (N : Nat) : GOk Try.prog TT EE (w107G N) := GOk.cons (wire_isTime_hok N) (GOk.nil EQT_ok)
def w107kL5 (c : Code) : List It2 := atL 5 c
def w107sL5 (x7 : List VSeries) (x8 : Int) (x9 : Int) (x14 : List VSample) (x15 : Int) (x16 : Int) : TS EE.T := ⟨26, [(7, .a (.d (.sl (.nam 9)) x7)), (8, .a (.d (.int .i64) x8)), (9, .a (.d (.int .i64) x9)), (14, .a (.d (.sl (.nam 6)) x14)), (15, .a (.d (.int .i64) x15)), (16, .a (.d (.int .i64) x16))], [], []⟩
def w107kL2 (c : Code) : List It2 := atL 2 c
def w107sL2 (x7 : List VSeries) (x8 : Int) (x9 : Int) : TS EE.T := ⟨26, [(7, .a (.d (.sl (.nam 9)) x7)), (8, .a (.d (.int .i64) x8)), (9, .a (.d (.int .i64) x9))], [], []⟩
def w107kE0 (c : Code) : List It2 := [.c c]
def w107sE0 (x0 : List VSeries) : TS EE.T := ⟨26, [(0, .a (.d (.sl (.nam 9)) x0))], [], []⟩
def w107TL5 (c : Code) (N : Nat) (k2 : (List VSeries) → Int → Int → Option Bool) (n : Nat) (x7 : List VSeries) (x8 : Int) (x9 : Int) (x14 : List VSample) (x15 : Int) (x16 : Int) : Tree (Lf EE.T × Option Bool) :=
  .cond (decide (x16 < x15))
  (
    .bnd (idxC x14 x16) fun z2 =>
    .bnd (wire_isTime N z2.Time) fun z3 =>
    .cond (!z3)
    (
      .leaf (.done (w107enc false), some false))
    (
      .leaf (.go (w107kL5 c) (w107sL5 x7 x8 x9 x14 x15 (w64 (x16 + 1))), wire_times_L5 N k2 n x7 x8 x9 x14 x15 (w64 (x16 + 1)))))
  (
    .leaf (.go (w107kL2 c) (w107sL2 x7 x8 (w64 (x9 + 1))), k2 x7 x8 (w64 (x9 + 1))))
theorem w107vL5 (N : Nat) (k2 : (List VSeries) → Int → Int → Option Bool) (n : Nat) (x7 : List VSeries) (x8 : Int) (x9 : Int) (x14 : List VSample) (x15 : Int) (x16 : Int) : evM TT EE (w107G N) w107lv w107rs 4000 true (w107kL5 (bodyOf 0 Try.f107)) (w107sL5 x7 x8 x9 x14 x15 x16) = (w107TL5 (bodyOf 0 Try.f107) N k2 n x7 x8 x9 x14 x15 x16).map1 := by kernel_rfl
theorem w107nL5 (N : Nat) (k2 : (List VSeries) → Int → Int → Option Bool) (n : Nat) (x7 : List VSeries) (x8 : Int) (x9 : Int) (x14 : List VSample) (x15 : Int) (x16 : Int) : wire_times_L5 N k2 (n + 1) x7 x8 x9 x14 x15 x16 = (w107TL5 (bodyOf 0 Try.f107) N k2 n x7 x8 x9 x14 x15 x16).run := by kernel_rfl
theorem w107oL5 {N : Nat} {r : Bool} {k2 : (List VSeries) → Int → Int → Option Bool} (hk2 : ∀ x7 x8 x9, k2 x7 x8 x9 = some r → Ends (Y := TT) EE (w107G N) w107lv w107rs (fun u => u = w107enc r) (w107kL2 (bodyOf 0 Try.f107)) (w107sL2 x7 x8 x9)) : ∀ (n : Nat) (x7 : List VSeries) (x8 : Int) (x9 : Int) (x14 : List VSample) (x15 : Int) (x16 : Int), wire_times_L5 N k2 n x7 x8 x9 x14 x15 x16 = some r → Ends (Y := TT) EE (w107G N) w107lv w107rs (fun u => u = w107enc r) (w107kL5 (bodyOf 0 Try.f107)) (w107sL5 x7 x8 x9 x14 x15 x16)
  | 0, _, _, _, _, _, _, h => by cases h
  | n + 1, x7, x8, x9, x14, x15, x16, h => tree_use (w107vL5 N k2 n x7 x8 x9 x14 x15 x16) (w107nL5 N k2 n x7 x8 x9 x14 x15 x16) h (show (w107TL5 (bodyOf 0 Try.f107) N k2 n x7 x8 x9 x14 x15 x16).all _ from ⟨fun _ => fun _ => ⟨retp (enc := w107enc) rfl, fun h => (w107oL5 hk2 n) _ _ _ _ _ _ h⟩, fun h => hk2 _ _ _ h⟩)
def w107TL2 (c : Code) (N : Nat) (n : Nat) (x7 : List VSeries) (x8 : Int) (x9 : Int) : Tree (Lf EE.T × Option Bool) :=
  .cond (decide (x9 < x8))
  (
    .bnd (idxC x7 x9) fun z1 =>
    .leaf (.go (w107kL5 c) (w107sL5 x7 x8 x9 z1.Samples (z1.Samples.length : Int) 0), wire_times_L5 N (wire_times_L2 N n) n x7 x8 x9 z1.Samples (z1.Samples.length : Int) 0))
  (
    .leaf (.done (w107enc true), some true))
theorem w107vL2 (N : Nat) (n : Nat) (x7 : List VSeries) (x8 : Int) (x9 : Int) : evM TT EE (w107G N) w107lv w107rs 4000 true (w107kL2 (bodyOf 0 Try.f107)) (w107sL2 x7 x8 x9) = (w107TL2 (bodyOf 0 Try.f107) N n x7 x8 x9).map1 := by kernel_rfl
theorem w107nL2 (N : Nat) (n : Nat) (x7 : List VSeries) (x8 : Int) (x9 : Int) : wire_times_L2 N (n + 1) x7 x8 x9 = (w107TL2 (bodyOf 0 Try.f107) N n x7 x8 x9).run := by kernel_rfl
theorem w107oL2 {N : Nat} {r : Bool} : ∀ (n : Nat) (x7 : List VSeries) (x8 : Int) (x9 : Int), wire_times_L2 N n x7 x8 x9 = some r → Ends (Y := TT) EE (w107G N) w107lv w107rs (fun u => u = w107enc r) (w107kL2 (bodyOf 0 Try.f107)) (w107sL2 x7 x8 x9)
  | 0, _, _, _, h => by cases h
  | n + 1, x7, x8, x9, h => tree_use (w107vL2 N n x7 x8 x9) (w107nL2 N n x7 x8 x9) h (show (w107TL2 (bodyOf 0 Try.f107) N n x7 x8 x9).all _ from ⟨fun _ => fun h => w107oL5 (w107oL2 n) n _ _ _ _ _ _ h, retp (enc := w107enc) rfl⟩)
def w107TE0 (c : Code) (N : Nat) (x0 : List VSeries) : Tree (Lf EE.T × Option Bool) :=
  .leaf (.go (w107kL2 c) (w107sL2 x0 (x0.length : Int) 0), wire_times_L2 N N x0 (x0.length : Int) 0)
theorem w107vE0 (N : Nat) (x0 : List VSeries) : evM TT EE (w107G N) w107lv w107rs 4000 true (w107kE0 (bodyOf 0 Try.f107)) (w107sE0 x0) = (w107TE0 (bodyOf 0 Try.f107) N x0).map1 := by kernel_rfl
theorem w107nE0 (N : Nat) (x0 : List VSeries) : wire_times N x0 = (w107TE0 (bodyOf 0 Try.f107) N x0).run := by kernel_rfl
theorem w107oE0 {N : Nat} {r : Bool} (x0 : List VSeries) (h : wire_times N x0 = some r) : Ends (Y := TT) EE (w107G N) w107lv w107rs (fun u => u = w107enc r) (w107kE0 (bodyOf 0 Try.f107)) (w107sE0 x0) :=
  tree_use (w107vE0 N x0) (w107nE0 N x0) h (show (w107TE0 (bodyOf 0 Try.f107) N x0).all _ from fun h => w107oL2 N _ _ _ h)
theorem wire_times_ok {N : Nat} (x0 : List VSeries) {r : Bool} (h : wire_times N x0 = some r) (ρ : Nat → Nat) : ACalls Try.prog 107 (([.a (.d (.sl (.nam 9)) x0)] : List (TV EE.T)).map (TV.to EE.toEnc ρ)) [] (fun out H => out = .ret ((wire_times_u r).to EE.toEnc ρ) ∧ H = []) :=
  (fn_ok (bodyOf 0 Try.f107) 26 mixed (w107Gok N) Try.func107 (by kernel_rfl) rfl rfl rfl rfl (w107oE0 x0 h) ρ).mono fun out H h => KPost.ret rfl h
def wire_times_h (N : Nat) : List (TV EE.T) → PV EE.T
  | [u0] => match argD (.sl (.nam 9)) u0 with
    | some x0 => .opt (wire_times N x0) wire_times_u
    | _ => .bad
  | _ => .bad
theorem wire_times_hok (N : Nat) (us : List (TV EE.T)) : (wire_times_h N us).ok fun u => ∀ ρ, ACalls Try.prog 107 (us.map (TV.to EE.toEnc ρ)) [] (fun out H => out = .ret (u.to EE.toEnc ρ) ∧ H = []) := by
  unfold wire_times_h
  split
  · split
    · rename_i h0
      intro z hz ρ; refine acalls_le ?_ (wire_times_ok _ hz ρ); exact ⟨argD_le h0 ρ, trivial⟩
    · trivial
  · trivial
/-! ### gleaner/wire.check -/
def wire_check_u (r : Int) : TV EE.T := .a (.d (.int .i64) r)
def w96enc (r : Int) : RL EE.T := .ret (wire_check_u r) []
def w96lv : Lvs := ⟨[], [], [], [], false, [], []⟩
def w96rs : List ResultVar := [.tmp 2]
def w96G (N : Nat) : Gam EE := ⟨[⟨106, wire_many_h N⟩, ⟨107, wire_times_h N⟩], EQT, []⟩
theorem w96Gok (N : Nat) : GOk Try.prog TT EE (w96G N) := GOk.cons (wire_many_hok N) (GOk.cons (wire_times_hok N) (GOk.nil EQT_ok))
def w96kE0 (c : Code) : List It2 := [.c c]
def w96sE0 (x0 : List VSeries) : TS EE.T := ⟨10, [(0, .a (.d (.sl (.nam 9)) x0))], [], []⟩
def w96TE0 (c : Code) (N : Nat) (x0 : List VSeries) : Tree (Lf EE.T × Option Int) :=
  .bnd (wire_many N x0) fun z1 =>
  .cond (z1)
  (
    .leaf (.done (w96enc 2), some 2))
  (
    .bnd (wire_times N x0) fun z2 =>
    .cond (!z2)
    (
      .leaf (.done (w96enc 3), some 3))
    (
      .leaf (.done (w96enc 0), some 0)))
theorem w96vE0 (N : Nat) (x0 : List VSeries) : evM TT EE (w96G N) w96lv w96rs 4000 true (w96kE0 (bodyOf 0 Try.f96)) (w96sE0 x0) = (w96TE0 (bodyOf 0 Try.f96) N x0).map1 := by kernel_rfl
theorem w96nE0 (N : Nat) (x0 : List VSeries) : wire_check N x0 = (w96TE0 (bodyOf 0 Try.f96) N x0).run := by kernel_rfl
theorem w96oE0 {N : Nat} {r : Int} (x0 : List VSeries) (h : wire_check N x0 = some r) : Ends (Y := TT) EE (w96G N) w96lv w96rs (fun u => u = w96enc r) (w96kE0 (bodyOf 0 Try.f96)) (w96sE0 x0) :=
  tree_use (w96vE0 N x0) (w96nE0 N x0) h (show (w96TE0 (bodyOf 0 Try.f96) N x0).all _ from fun _ => ⟨retp (enc := w96enc) rfl, fun _ => ⟨retp (enc := w96enc) rfl, retp (enc := w96enc) rfl⟩⟩)
theorem wire_check_ok {N : Nat} (x0 : List VSeries) {r : Int} (h : wire_check N x0 = some r) (ρ : Nat → Nat) : ACalls Try.prog 96 (([.a (.d (.sl (.nam 9)) x0)] : List (TV EE.T)).map (TV.to EE.toEnc ρ)) [] (fun out H => out = .ret ((wire_check_u r).to EE.toEnc ρ) ∧ H = []) :=
  (fn_ok (bodyOf 0 Try.f96) 10 mixed (w96Gok N) Try.func96 (by kernel_rfl) rfl rfl rfl rfl (w96oE0 x0 h) ρ).mono fun out H h => KPost.ret rfl h
def wire_check_h (N : Nat) : List (TV EE.T) → PV EE.T
  | [u0] => match argD (.sl (.nam 9)) u0 with
    | some x0 => .opt (wire_check N x0) wire_check_u
    | _ => .bad
  | _ => .bad
theorem wire_check_hok (N : Nat) (us : List (TV EE.T)) : (wire_check_h N us).ok fun u => ∀ ρ, ACalls Try.prog 96 (us.map (TV.to EE.toEnc ρ)) [] (fun out H => out = .ret (u.to EE.toEnc ρ) ∧ H = []) := by
  unfold wire_check_h
  split
  · split
    · rename_i h0
      intro z hz ρ; refine acalls_le ?_ (wire_check_ok _ hz ρ); exact ⟨argD_le h0 ρ, trivial⟩
    · trivial
  · trivial
/-! ### gleaner/wire.Number -/
def wire_Number_u (r : List UInt8) : TV EE.T := .a (.d .str r)
def w76enc (r : List UInt8) : RL EE.T := .ret (wire_Number_u r) []
def w76lv : Lvs := ⟨[], [(2, ⟨[(0, false), (3, false)], [], []⟩)], [], [], false, [], []⟩
def w76rs : List ResultVar := [.tmp 2]
def w76G (N : Nat) : Gam EE := ⟨[], EQT, []⟩
theorem w76Gok (N : Nat) : GOk Try.prog TT EE (w76G N) := GOk.nil EQT_ok
def w76kL2 (c : Code) : List It2 := atL 2 c
def w76sL2 (x0 : Int) (x3 : List UInt8) : TS EE.T := ⟨20, [(0, .a (.d (.int .u64) x0)), (3, .a (.own .byte x3))], [], []⟩
def w76kE0 (c : Code) : List It2 := [.c c]
def w76sE0 (x0 : Int) : TS EE.T := ⟨20, [(0, .a (.d (.int .u64) x0))], [], []⟩
def w76TL2 (c : Code) (N : Nat) (n : Nat) (x0 : Int) (x3 : List UInt8) : Tree (Lf EE.T × Option (List UInt8)) :=
  .cond (decide (x0 > 127))
  (
    .bnd (appC 1 x3 ([toB (bits .or .u8 (b2i (toB (IntKind.wrap .u8 x0))) (b2i 128))] : List UInt8)) fun z1 =>
    .bnd (shrC .u64 x0 7) fun z2 =>
    .leaf (.go (w76kL2 c) (w76sL2 z2 z1), wire_Number_L2 N n z2 z1))
  (
    .bnd (appC 1 x3 ([toB (IntKind.wrap .u8 x0)] : List UInt8)) fun z3 =>
    .leaf (.done (w76enc z3), some z3))
theorem w76vL2 (N : Nat) (n : Nat) (x0 : Int) (x3 : List UInt8) : evM TT EE (w76G N) w76lv w76rs 4000 true (w76kL2 (bodyOf 0 Try.f76)) (w76sL2 x0 x3) = (w76TL2 (bodyOf 0 Try.f76) N n x0 x3).map1 := by kernel_rfl
theorem w76nL2 (N : Nat) (n : Nat) (x0 : Int) (x3 : List UInt8) : wire_Number_L2 N (n + 1) x0 x3 = (w76TL2 (bodyOf 0 Try.f76) N n x0 x3).run := by kernel_rfl
theorem w76oL2 {N : Nat} {r : List UInt8} : ∀ (n : Nat) (x0 : Int) (x3 : List UInt8), wire_Number_L2 N n x0 x3 = some r → Ends (Y := TT) EE (w76G N) w76lv w76rs (fun u => u = w76enc r) (w76kL2 (bodyOf 0 Try.f76)) (w76sL2 x0 x3)
  | 0, _, _, h => by cases h
  | n + 1, x0, x3, h => tree_use (w76vL2 N n x0 x3) (w76nL2 N n x0 x3) h (show (w76TL2 (bodyOf 0 Try.f76) N n x0 x3).all _ from ⟨fun _ => fun _ => fun h => (w76oL2 n) _ _ h, fun _ => retp (enc := w76enc) rfl⟩)
def w76TE0 (c : Code) (N : Nat) (x0 : Int) : Tree (Lf EE.T × Option (List UInt8)) :=
  .leaf (.go (w76kL2 c) (w76sL2 x0 ([] : List UInt8)), wire_Number_L2 N N x0 ([] : List UInt8))
theorem w76vE0 (N : Nat) (x0 : Int) : evM TT EE (w76G N) w76lv w76rs 4000 true (w76kE0 (bodyOf 0 Try.f76)) (w76sE0 x0) = (w76TE0 (bodyOf 0 Try.f76) N x0).map1 := by kernel_rfl
theorem w76nE0 (N : Nat) (x0 : Int) : wire_Number N x0 = (w76TE0 (bodyOf 0 Try.f76) N x0).run := by kernel_rfl
theorem w76oE0 {N : Nat} {r : List UInt8} (x0 : Int) (h : wire_Number N x0 = some r) : Ends (Y := TT) EE (w76G N) w76lv w76rs (fun u => u = w76enc r) (w76kE0 (bodyOf 0 Try.f76)) (w76sE0 x0) :=
  tree_use (w76vE0 N x0) (w76nE0 N x0) h (show (w76TE0 (bodyOf 0 Try.f76) N x0).all _ from fun h => w76oL2 N _ _ h)
theorem wire_Number_ok {N : Nat} (x0 : Int) {r : List UInt8} (h : wire_Number N x0 = some r) (ρ : Nat → Nat) : ACalls Try.prog 76 (([.a (.d (.int .u64) x0)] : List (TV EE.T)).map (TV.to EE.toEnc ρ)) [] (fun out H => out = .ret ((wire_Number_u r).to EE.toEnc ρ) ∧ H = []) :=
  (fn_ok (bodyOf 0 Try.f76) 20 mixed (w76Gok N) Try.func76 (by kernel_rfl) rfl rfl rfl rfl (w76oE0 x0 h) ρ).mono fun out H h => KPost.ret rfl h
def wire_Number_h (N : Nat) : List (TV EE.T) → PV EE.T
  | [u0] => match argD (.int .u64) u0 with
    | some x0 => .opt (wire_Number N x0) wire_Number_u
    | _ => .bad
  | _ => .bad
theorem wire_Number_hok (N : Nat) (us : List (TV EE.T)) : (wire_Number_h N us).ok fun u => ∀ ρ, ACalls Try.prog 76 (us.map (TV.to EE.toEnc ρ)) [] (fun out H => out = .ret (u.to EE.toEnc ρ) ∧ H = []) := by
  unfold wire_Number_h
  split
  · split
    · rename_i h0
      intro z hz ρ; refine acalls_le ?_ (wire_Number_ok _ hz ρ); exact ⟨argD_le h0 ρ, trivial⟩
    · trivial
  · trivial
/-! ### gleaner/wire.field -/
def wire_field_u (r : List UInt8) : TV EE.T := .a (.d .str r)
def w97enc (r : List UInt8) : RL EE.T := .ret (wire_field_u r) []
def w97lv : Lvs := ⟨[], [], [], [], false, [], []⟩
def w97rs : List ResultVar := [.tmp 4]
def w97G (N : Nat) : Gam EE := ⟨[⟨76, wire_Number_h N⟩], EQT, []⟩
theorem w97Gok (N : Nat) : GOk Try.prog TT EE (w97G N) := GOk.cons (wire_Number_hok N) (GOk.nil EQT_ok)
def w97kE0 (c : Code) : List It2 := [.c c]
def w97sE0 (x0 : Int) (x1 : List UInt8) : TS EE.T := ⟨17, [(0, .a (.d (.int .i64) x0)), (1, .a (.d .str x1))], [], []⟩
def w97TE0 (c : Code) (N : Nat) (x0 : Int) (x1 : List UInt8) : Tree (Lf EE.T × Option (List UInt8)) :=
  .bnd (shlC .u64 (IntKind.wrap .u64 x0) 3) fun z1 =>
  .bnd (wire_Number N (bits .or .u64 z1 2)) fun z2 =>
  .bnd (wire_Number N (IntKind.wrap .u64 (x1.length : Int))) fun z3 =>
  .bnd (catC z2 z3) fun z4 =>
  .bnd (catC z4 x1) fun z5 =>
  .leaf (.done (w97enc z5), some z5)
theorem w97vE0 (N : Nat) (x0 : Int) (x1 : List UInt8) : evM TT EE (w97G N) w97lv w97rs 4000 true (w97kE0 (bodyOf 0 Try.f97)) (w97sE0 x0 x1) = (w97TE0 (bodyOf 0 Try.f97) N x0 x1).map1 := by kernel_rfl
theorem w97nE0 (N : Nat) (x0 : Int) (x1 : List UInt8) : wire_field N x0 x1 = (w97TE0 (bodyOf 0 Try.f97) N x0 x1).run := by kernel_rfl
theorem w97oE0 {N : Nat} {r : List UInt8} (x0 : Int) (x1 : List UInt8) (h : wire_field N x0 x1 = some r) : Ends (Y := TT) EE (w97G N) w97lv w97rs (fun u => u = w97enc r) (w97kE0 (bodyOf 0 Try.f97)) (w97sE0 x0 x1) :=
  tree_use (w97vE0 N x0 x1) (w97nE0 N x0 x1) h (show (w97TE0 (bodyOf 0 Try.f97) N x0 x1).all _ from fun _ => fun _ => fun _ => fun _ => fun _ => retp (enc := w97enc) rfl)
theorem wire_field_ok {N : Nat} (x0 : Int) (x1 : List UInt8) {r : List UInt8} (h : wire_field N x0 x1 = some r) (ρ : Nat → Nat) : ACalls Try.prog 97 (([.a (.d (.int .i64) x0), .a (.d .str x1)] : List (TV EE.T)).map (TV.to EE.toEnc ρ)) [] (fun out H => out = .ret ((wire_field_u r).to EE.toEnc ρ) ∧ H = []) :=
  (fn_ok (bodyOf 0 Try.f97) 17 mixed (w97Gok N) Try.func97 (by kernel_rfl) rfl rfl rfl rfl (w97oE0 x0 x1 h) ρ).mono fun out H h => KPost.ret rfl h
def wire_field_h (N : Nat) : List (TV EE.T) → PV EE.T
  | [u0, u1] => match argD (.int .i64) u0, argD .str u1 with
    | some x0, some x1 => .opt (wire_field N x0 x1) wire_field_u
    | _, _ => .bad
  | _ => .bad
theorem wire_field_hok (N : Nat) (us : List (TV EE.T)) : (wire_field_h N us).ok fun u => ∀ ρ, ACalls Try.prog 97 (us.map (TV.to EE.toEnc ρ)) [] (fun out H => out = .ret (u.to EE.toEnc ρ) ∧ H = []) := by
  unfold wire_field_h
  split
  · split
    · rename_i h0 h1
      intro z hz ρ; refine acalls_le ?_ (wire_field_ok _ _ hz ρ); exact ⟨argD_le h0 ρ, argD_le h1 ρ, trivial⟩
    · trivial
  · trivial
/-! ### gleaner/wire.sample -/
def wire_sample_u (r : List UInt8) : TV EE.T := .a (.d .str r)
def w98enc (r : List UInt8) : RL EE.T := .ret (wire_sample_u r) []
def w98lv : Lvs := ⟨[(7, ⟨[(1, false), (3, false)], [], [(1, (some 6, []))]⟩)], [(3, ⟨[(1, false), (3, false), (6, false)], [], [(1, (some 6, []))]⟩)], [], [], false, [], []⟩
def w98rs : List ResultVar := [.tmp 2]
def w98G (N : Nat) : Gam EE := ⟨[⟨76, wire_Number_h N⟩], EQT, []⟩
theorem w98Gok (N : Nat) : GOk Try.prog TT EE (w98G N) := GOk.cons (wire_Number_hok N) (GOk.nil EQT_ok)
def w98kL3 (c : Code) : List It2 := atL 3 c
def w98sL3 (x3 : List UInt8) (x6 : Int) (b1 : VSample) : TS EE.T := ⟨28, [(1, .a (.box 1 0)), (3, .a (.own .byte x3)), (6, .a (.d (.int .i64) x6))], [(1, .cs (unpT EE (.nam 6) b1))], []⟩
def w98kE0 (c : Code) : List It2 := [.c c]
def w98sE0 (x0 : VSample) : TS EE.T := ⟨28, [(0, .ag (unpT EE (.nam 6) x0))], [], []⟩
def w98TL3 (c : Code) (N : Nat) (n : Nat) (x3 : List UInt8) (x6 : Int) (b1 : VSample) : Tree (Lf EE.T × Option (List UInt8)) :=
  .cond (decide (x6 < 8))
  (
    .bnd (shrC .u64 b1.Bits (w64 (8 * x6))) fun z1 =>
    .bnd (appC 1 x3 ([toB (IntKind.wrap .u8 z1)] : List UInt8)) fun z2 =>
    .leaf (.go (w98kL3 c) (w98sL3 z2 (w64 (x6 + 1)) b1), wire_sample_L3 N n z2 (w64 (x6 + 1)) b1))
  (
    .bnd (wire_Number N 16) fun z3 =>
    .bnd (catC x3 z3) fun z4 =>
    .bnd (wire_Number N (IntKind.wrap .u64 b1.Time)) fun z5 =>
    .bnd (catC z4 z5) fun z6 =>
    .leaf (.done (w98enc z6), some z6))
theorem w98vL3 (N : Nat) (n : Nat) (x3 : List UInt8) (x6 : Int) (b1 : VSample) : evM TT EE (w98G N) w98lv w98rs 4000 true (w98kL3 (bodyOf 0 Try.f98)) (w98sL3 x3 x6 b1) = (w98TL3 (bodyOf 0 Try.f98) N n x3 x6 b1).map1 := by kernel_rfl
theorem w98nL3 (N : Nat) (n : Nat) (x3 : List UInt8) (x6 : Int) (b1 : VSample) : wire_sample_L3 N (n + 1) x3 x6 b1 = (w98TL3 (bodyOf 0 Try.f98) N n x3 x6 b1).run := by kernel_rfl
theorem w98oL3 {N : Nat} {r : List UInt8} : ∀ (n : Nat) (x3 : List UInt8) (x6 : Int) (b1 : VSample), wire_sample_L3 N n x3 x6 b1 = some r → Ends (Y := TT) EE (w98G N) w98lv w98rs (fun u => u = w98enc r) (w98kL3 (bodyOf 0 Try.f98)) (w98sL3 x3 x6 b1)
  | 0, _, _, _, h => by cases h
  | n + 1, x3, x6, b1, h => tree_use (w98vL3 N n x3 x6 b1) (w98nL3 N n x3 x6 b1) h (show (w98TL3 (bodyOf 0 Try.f98) N n x3 x6 b1).all _ from ⟨fun _ => fun _ => fun h => (w98oL3 n) _ _ _ h, fun _ => fun _ => fun _ => fun _ => retp (enc := w98enc) rfl⟩)
def w98TE0 (c : Code) (N : Nat) (x0 : VSample) : Tree (Lf EE.T × Option (List UInt8)) :=
  .leaf (.go (w98kL3 c) (w98sL3 ([9] : List UInt8) 0 x0), wire_sample_L3 N N ([9] : List UInt8) 0 x0)
theorem w98vE0 (N : Nat) (x0 : VSample) : evM TT EE (w98G N) w98lv w98rs 4000 true (w98kE0 (bodyOf 0 Try.f98)) (w98sE0 x0) = (w98TE0 (bodyOf 0 Try.f98) N x0).map1 := by kernel_rfl
theorem w98nE0 (N : Nat) (x0 : VSample) : wire_sample N x0 = (w98TE0 (bodyOf 0 Try.f98) N x0).run := by kernel_rfl
theorem w98oE0 {N : Nat} {r : List UInt8} (x0 : VSample) (h : wire_sample N x0 = some r) : Ends (Y := TT) EE (w98G N) w98lv w98rs (fun u => u = w98enc r) (w98kE0 (bodyOf 0 Try.f98)) (w98sE0 x0) :=
  tree_use (w98vE0 N x0) (w98nE0 N x0) h (show (w98TE0 (bodyOf 0 Try.f98) N x0).all _ from fun h => w98oL3 N _ _ _ h)
theorem wire_sample_ok {N : Nat} (x0 : VSample) {r : List UInt8} (h : wire_sample N x0 = some r) (ρ : Nat → Nat) : ACalls Try.prog 98 (([.ag (unpT EE (.nam 6) x0)] : List (TV EE.T)).map (TV.to EE.toEnc ρ)) [] (fun out H => out = .ret ((wire_sample_u r).to EE.toEnc ρ) ∧ H = []) :=
  (fn_ok (bodyOf 0 Try.f98) 28 mixed (w98Gok N) Try.func98 (by kernel_rfl) rfl rfl rfl rfl (w98oE0 x0 h) ρ).mono fun out H h => KPost.ret rfl h
def wire_sample_h (N : Nat) : List (TV EE.T) → PV EE.T
  | [u0] => match argS EE 6 u0 with
    | some x0 => .opt (wire_sample N x0) wire_sample_u
    | _ => .bad
  | _ => .bad
theorem wire_sample_hok (N : Nat) (us : List (TV EE.T)) : (wire_sample_h N us).ok fun u => ∀ ρ, ACalls Try.prog 98 (us.map (TV.to EE.toEnc ρ)) [] (fun out H => out = .ret (u.to EE.toEnc ρ) ∧ H = []) := by
  unfold wire_sample_h
  split
  · split
    · rename_i h0
      intro z hz ρ; refine acalls_le ?_ (wire_sample_ok _ hz ρ); exact ⟨argS_le h0 ρ, trivial⟩
    · trivial
  · trivial
/-! ### gleaner/wire.Write -/
def wire_Write_u (r : (List UInt8) × Int) : TV EE.T := .tu [.a (.d .str r.1), .a (.d (.int .i64) r.2)]
def w86enc (r : (List UInt8) × Int) : RL EE.T := .ret (wire_Write_u r) []
def w86lv : Lvs := ⟨[(12, ⟨[(5, false), (7, false), (8, false), (10, false), (18, false), (19, false), (20, false), (25, false), (26, false), (27, false)], [], [(7, (some 9, [])), (10, (some 2, []))]⟩)], [(6, ⟨[(5, false), (18, false), (19, false), (20, false)], [], []⟩), (10, ⟨[(5, false), (7, false), (8, false), (18, false), (19, false), (20, false), (25, false), (26, false), (27, false)], [], [(7, (some 9, []))]⟩), (15, ⟨[(5, false), (8, false), (18, false), (19, false), (20, false), (43, false), (44, false), (45, false)], [], []⟩)], [], [], false, [], []⟩
def w86rs : List ResultVar := [.tmp 2, .tmp 3]
def w86G (N : Nat) : Gam EE := ⟨[⟨96, wire_check_h N⟩, ⟨97, wire_field_h N⟩, ⟨98, wire_sample_h N⟩], EQT, []⟩
theorem w86Gok (N : Nat) : GOk Try.prog TT EE (w86G N) := GOk.cons (wire_check_hok N) (GOk.cons (wire_field_hok N) (GOk.cons (wire_sample_hok N) (GOk.nil EQT_ok)))
def w86kL15 (c : Code) : List It2 := atL 15 c
def w86sL15 (x5 : List UInt8) (x8 : List UInt8) (x18 : List VSeries) (x19 : Int) (x20 : Int) (x43 : List VSample) (x44 : Int) (x45 : Int) : TS EE.T := ⟨64, [(5, .a (.d .str x5)), (8, .a (.d .str x8)), (18, .a (.d (.sl (.nam 9)) x18)), (19, .a (.d (.int .i64) x19)), (20, .a (.d (.int .i64) x20)), (43, .a (.d (.sl (.nam 6)) x43)), (44, .a (.d (.int .i64) x44)), (45, .a (.d (.int .i64) x45))], [], []⟩
def w86kL10 (c : Code) : List It2 := atL 10 c
def w86sL10 (x5 : List UInt8) (x8 : List UInt8) (x18 : List VSeries) (x19 : Int) (x20 : Int) (x25 : List VLabel) (x26 : Int) (x27 : Int) (b7 : VSeries) : TS EE.T := ⟨64, [(5, .a (.d .str x5)), (7, .a (.box 7 0)), (8, .a (.d .str x8)), (18, .a (.d (.sl (.nam 9)) x18)), (19, .a (.d (.int .i64) x19)), (20, .a (.d (.int .i64) x20)), (25, .a (.d (.sl (.nam 2)) x25)), (26, .a (.d (.int .i64) x26)), (27, .a (.d (.int .i64) x27))], [(7, .cs (unpT EE (.nam 9) b7))], []⟩
def w86kL6 (c : Code) : List It2 := atL 6 c
def w86sL6 (x5 : List UInt8) (x18 : List VSeries) (x19 : Int) (x20 : Int) : TS EE.T := ⟨64, [(5, .a (.d .str x5)), (18, .a (.d (.sl (.nam 9)) x18)), (19, .a (.d (.int .i64) x19)), (20, .a (.d (.int .i64) x20))], [], []⟩
def w86kE0 (c : Code) : List It2 := [.c c]
def w86sE0 (x0 : List VSeries) : TS EE.T := ⟨64, [(0, .a (.d (.sl (.nam 9)) x0))], [], []⟩
def w86TL15 (c : Code) (N : Nat) (k6 : (List UInt8) → (List VSeries) → Int → Int → Option ((List UInt8) × Int)) (n : Nat) (x5 : List UInt8) (x8 : List UInt8) (x18 : List VSeries) (x19 : Int) (x20 : Int) (x43 : List VSample) (x44 : Int) (x45 : Int) : Tree (Lf EE.T × Option ((List UInt8) × Int)) :=
  .cond (decide (x45 < x44))
  (
    .bnd (idxC x43 x45) fun z9 =>
    .bnd (wire_sample N z9) fun z10 =>
    .bnd (wire_field N 2 z10) fun z11 =>
    .bnd (catC x8 z11) fun z12 =>
    .leaf (.go (w86kL15 c) (w86sL15 x5 z12 x18 x19 x20 x43 x44 (w64 (x45 + 1))), wire_Write_L15 N k6 n x5 z12 x18 x19 x20 x43 x44 (w64 (x45 + 1))))
  (
    .bnd (wire_field N 1 x8) fun z13 =>
    .bnd (catC x5 z13) fun z14 =>
    .cond (decide ((z14.length : Int) > 20000))
    (
      .leaf (.done (w86enc (([] : List UInt8), 2)), some (([] : List UInt8), 2)))
    (
      .leaf (.go (w86kL6 c) (w86sL6 z14 x18 x19 (w64 (x20 + 1))), k6 z14 x18 x19 (w64 (x20 + 1)))))
theorem w86vL15 (N : Nat) (k6 : (List UInt8) → (List VSeries) → Int → Int → Option ((List UInt8) × Int)) (n : Nat) (x5 : List UInt8) (x8 : List UInt8) (x18 : List VSeries) (x19 : Int) (x20 : Int) (x43 : List VSample) (x44 : Int) (x45 : Int) : evM TT EE (w86G N) w86lv w86rs 4000 true (w86kL15 (bodyOf 0 Try.f86)) (w86sL15 x5 x8 x18 x19 x20 x43 x44 x45) = (w86TL15 (bodyOf 0 Try.f86) N k6 n x5 x8 x18 x19 x20 x43 x44 x45).map1 := by kernel_rfl
theorem w86nL15 (N : Nat) (k6 : (List UInt8) → (List VSeries) → Int → Int → Option ((List UInt8) × Int)) (n : Nat) (x5 : List UInt8) (x8 : List UInt8) (x18 : List VSeries) (x19 : Int) (x20 : Int) (x43 : List VSample) (x44 : Int) (x45 : Int) : wire_Write_L15 N k6 (n + 1) x5 x8 x18 x19 x20 x43 x44 x45 = (w86TL15 (bodyOf 0 Try.f86) N k6 n x5 x8 x18 x19 x20 x43 x44 x45).run := by kernel_rfl
theorem w86oL15 {N : Nat} {r : (List UInt8) × Int} {k6 : (List UInt8) → (List VSeries) → Int → Int → Option ((List UInt8) × Int)} (hk6 : ∀ x5 x18 x19 x20, k6 x5 x18 x19 x20 = some r → Ends (Y := TT) EE (w86G N) w86lv w86rs (fun u => u = w86enc r) (w86kL6 (bodyOf 0 Try.f86)) (w86sL6 x5 x18 x19 x20)) : ∀ (n : Nat) (x5 : List UInt8) (x8 : List UInt8) (x18 : List VSeries) (x19 : Int) (x20 : Int) (x43 : List VSample) (x44 : Int) (x45 : Int), wire_Write_L15 N k6 n x5 x8 x18 x19 x20 x43 x44 x45 = some r → Ends (Y := TT) EE (w86G N) w86lv w86rs (fun u => u = w86enc r) (w86kL15 (bodyOf 0 Try.f86)) (w86sL15 x5 x8 x18 x19 x20 x43 x44 x45)
  | 0, _, _, _, _, _, _, _, _, h => by cases h
  | n + 1, x5, x8, x18, x19, x20, x43, x44, x45, h => tree_use (w86vL15 N k6 n x5 x8 x18 x19 x20 x43 x44 x45) (w86nL15 N k6 n x5 x8 x18 x19 x20 x43 x44 x45) h (show (w86TL15 (bodyOf 0 Try.f86) N k6 n x5 x8 x18 x19 x20 x43 x44 x45).all _ from ⟨fun _ => fun _ => fun _ => fun _ => fun h => (w86oL15 hk6 n) _ _ _ _ _ _ _ _ h, fun _ => fun _ => ⟨retp (enc := w86enc) rfl, fun h => hk6 _ _ _ _ h⟩⟩)
def w86TL10 (c : Code) (N : Nat) (k6 : (List UInt8) → (List VSeries) → Int → Int → Option ((List UInt8) × Int)) (n : Nat) (x5 : List UInt8) (x8 : List UInt8) (x18 : List VSeries) (x19 : Int) (x20 : Int) (x25 : List VLabel) (x26 : Int) (x27 : Int) (b7 : VSeries) : Tree (Lf EE.T × Option ((List UInt8) × Int)) :=
  .cond (decide (x27 < x26))
  (
    .bnd (idxC x25 x27) fun z3 =>
    .bnd (wire_field N 1 z3.Name) fun z4 =>
    .bnd (wire_field N 2 z3.Value) fun z5 =>
    .bnd (catC z4 z5) fun z6 =>
    .bnd (wire_field N 1 z6) fun z7 =>
    .bnd (catC x8 z7) fun z8 =>
    .leaf (.go (w86kL10 c) (w86sL10 x5 z8 x18 x19 x20 x25 x26 (w64 (x27 + 1)) b7), wire_Write_L10 N k6 n x5 z8 x18 x19 x20 x25 x26 (w64 (x27 + 1)) b7))
  (
    .leaf (.go (w86kL15 c) (w86sL15 x5 x8 x18 x19 x20 b7.Samples (b7.Samples.length : Int) 0), wire_Write_L15 N k6 n x5 x8 x18 x19 x20 b7.Samples (b7.Samples.length : Int) 0))
theorem w86vL10 (N : Nat) (k6 : (List UInt8) → (List VSeries) → Int → Int → Option ((List UInt8) × Int)) (n : Nat) (x5 : List UInt8) (x8 : List UInt8) (x18 : List VSeries) (x19 : Int) (x20 : Int) (x25 : List VLabel) (x26 : Int) (x27 : Int) (b7 : VSeries) : evM TT EE (w86G N) w86lv w86rs 4000 true (w86kL10 (bodyOf 0 Try.f86)) (w86sL10 x5 x8 x18 x19 x20 x25 x26 x27 b7) = (w86TL10 (bodyOf 0 Try.f86) N k6 n x5 x8 x18 x19 x20 x25 x26 x27 b7).map1 := by kernel_rfl
theorem w86nL10 (N : Nat) (k6 : (List UInt8) → (List VSeries) → Int → Int → Option ((List UInt8) × Int)) (n : Nat) (x5 : List UInt8) (x8 : List UInt8) (x18 : List VSeries) (x19 : Int) (x20 : Int) (x25 : List VLabel) (x26 : Int) (x27 : Int) (b7 : VSeries) : wire_Write_L10 N k6 (n + 1) x5 x8 x18 x19 x20 x25 x26 x27 b7 = (w86TL10 (bodyOf 0 Try.f86) N k6 n x5 x8 x18 x19 x20 x25 x26 x27 b7).run := by kernel_rfl
theorem w86oL10 {N : Nat} {r : (List UInt8) × Int} {k6 : (List UInt8) → (List VSeries) → Int → Int → Option ((List UInt8) × Int)} (hk6 : ∀ x5 x18 x19 x20, k6 x5 x18 x19 x20 = some r → Ends (Y := TT) EE (w86G N) w86lv w86rs (fun u => u = w86enc r) (w86kL6 (bodyOf 0 Try.f86)) (w86sL6 x5 x18 x19 x20)) : ∀ (n : Nat) (x5 : List UInt8) (x8 : List UInt8) (x18 : List VSeries) (x19 : Int) (x20 : Int) (x25 : List VLabel) (x26 : Int) (x27 : Int) (b7 : VSeries), wire_Write_L10 N k6 n x5 x8 x18 x19 x20 x25 x26 x27 b7 = some r → Ends (Y := TT) EE (w86G N) w86lv w86rs (fun u => u = w86enc r) (w86kL10 (bodyOf 0 Try.f86)) (w86sL10 x5 x8 x18 x19 x20 x25 x26 x27 b7)
  | 0, _, _, _, _, _, _, _, _, _, h => by cases h
  | n + 1, x5, x8, x18, x19, x20, x25, x26, x27, b7, h => tree_use (w86vL10 N k6 n x5 x8 x18 x19 x20 x25 x26 x27 b7) (w86nL10 N k6 n x5 x8 x18 x19 x20 x25 x26 x27 b7) h (show (w86TL10 (bodyOf 0 Try.f86) N k6 n x5 x8 x18 x19 x20 x25 x26 x27 b7).all _ from ⟨fun _ => fun _ => fun _ => fun _ => fun _ => fun _ => fun h => (w86oL10 hk6 n) _ _ _ _ _ _ _ _ _ h, fun h => w86oL15 hk6 n _ _ _ _ _ _ _ _ h⟩)
def w86TL6 (c : Code) (N : Nat) (n : Nat) (x5 : List UInt8) (x18 : List VSeries) (x19 : Int) (x20 : Int) : Tree (Lf EE.T × Option ((List UInt8) × Int)) :=
  .cond (decide (x20 < x19))
  (
    .bnd (idxC x18 x20) fun z2 =>
    .leaf (.go (w86kL10 c) (w86sL10 x5 ([] : List UInt8) x18 x19 x20 z2.Labels (z2.Labels.length : Int) 0 z2), wire_Write_L10 N (wire_Write_L6 N n) n x5 ([] : List UInt8) x18 x19 x20 z2.Labels (z2.Labels.length : Int) 0 z2))
  (
    .leaf (.done (w86enc (x5, 0)), some (x5, 0)))
theorem w86vL6 (N : Nat) (n : Nat) (x5 : List UInt8) (x18 : List VSeries) (x19 : Int) (x20 : Int) : evM TT EE (w86G N) w86lv w86rs 4000 true (w86kL6 (bodyOf 0 Try.f86)) (w86sL6 x5 x18 x19 x20) = (w86TL6 (bodyOf 0 Try.f86) N n x5 x18 x19 x20).map1 := by kernel_rfl
theorem w86nL6 (N : Nat) (n : Nat) (x5 : List UInt8) (x18 : List VSeries) (x19 : Int) (x20 : Int) : wire_Write_L6 N (n + 1) x5 x18 x19 x20 = (w86TL6 (bodyOf 0 Try.f86) N n x5 x18 x19 x20).run := by kernel_rfl
theorem w86oL6 {N : Nat} {r : (List UInt8) × Int} : ∀ (n : Nat) (x5 : List UInt8) (x18 : List VSeries) (x19 : Int) (x20 : Int), wire_Write_L6 N n x5 x18 x19 x20 = some r → Ends (Y := TT) EE (w86G N) w86lv w86rs (fun u => u = w86enc r) (w86kL6 (bodyOf 0 Try.f86)) (w86sL6 x5 x18 x19 x20)
  | 0, _, _, _, _, h => by cases h
  | n + 1, x5, x18, x19, x20, h => tree_use (w86vL6 N n x5 x18 x19 x20) (w86nL6 N n x5 x18 x19 x20) h (show (w86TL6 (bodyOf 0 Try.f86) N n x5 x18 x19 x20).all _ from ⟨fun _ => fun h => w86oL10 (w86oL6 n) n _ _ _ _ _ _ _ _ _ h, retp (enc := w86enc) rfl⟩)
def w86TE0 (c : Code) (N : Nat) (x0 : List VSeries) : Tree (Lf EE.T × Option ((List UInt8) × Int)) :=
  .bnd (wire_check N x0) fun z1 =>
  .cond (z1 != 0)
  (
    .leaf (.done (w86enc (([] : List UInt8), z1)), some (([] : List UInt8), z1)))
  (
    .leaf (.go (w86kL6 c) (w86sL6 ([] : List UInt8) x0 (x0.length : Int) 0), wire_Write_L6 N N ([] : List UInt8) x0 (x0.length : Int) 0))
theorem w86vE0 (N : Nat) (x0 : List VSeries) : evM TT EE (w86G N) w86lv w86rs 4000 true (w86kE0 (bodyOf 0 Try.f86)) (w86sE0 x0) = (w86TE0 (bodyOf 0 Try.f86) N x0).map1 := by kernel_rfl
theorem w86nE0 (N : Nat) (x0 : List VSeries) : wire_Write N x0 = (w86TE0 (bodyOf 0 Try.f86) N x0).run := by kernel_rfl
theorem w86oE0 {N : Nat} {r : (List UInt8) × Int} (x0 : List VSeries) (h : wire_Write N x0 = some r) : Ends (Y := TT) EE (w86G N) w86lv w86rs (fun u => u = w86enc r) (w86kE0 (bodyOf 0 Try.f86)) (w86sE0 x0) :=
  tree_use (w86vE0 N x0) (w86nE0 N x0) h (show (w86TE0 (bodyOf 0 Try.f86) N x0).all _ from fun _ => ⟨retp (enc := w86enc) rfl, fun h => w86oL6 N _ _ _ _ h⟩)
theorem wire_Write_ok {N : Nat} (x0 : List VSeries) {r : (List UInt8) × Int} (h : wire_Write N x0 = some r) (ρ : Nat → Nat) : ACalls Try.prog 86 (([.a (.d (.sl (.nam 9)) x0)] : List (TV EE.T)).map (TV.to EE.toEnc ρ)) [] (fun out H => out = .ret ((wire_Write_u r).to EE.toEnc ρ) ∧ H = []) :=
  (fn_ok (bodyOf 0 Try.f86) 64 mixed (w86Gok N) Try.func86 (by kernel_rfl) rfl rfl rfl rfl (w86oE0 x0 h) ρ).mono fun out H h => KPost.ret rfl h
def wire_Write_h (N : Nat) : List (TV EE.T) → PV EE.T
  | [u0] => match argD (.sl (.nam 9)) u0 with
    | some x0 => .opt (wire_Write N x0) wire_Write_u
    | _ => .bad
  | _ => .bad
theorem wire_Write_hok (N : Nat) (us : List (TV EE.T)) : (wire_Write_h N us).ok fun u => ∀ ρ, ACalls Try.prog 86 (us.map (TV.to EE.toEnc ρ)) [] (fun out H => out = .ret (u.to EE.toEnc ρ) ∧ H = []) := by
  unfold wire_Write_h
  split
  · split
    · rename_i h0
      intro z hz ρ; refine acalls_le ?_ (wire_Write_ok _ hz ρ); exact ⟨argD_le h0 ρ, trivial⟩
    · trivial
  · trivial
/-! ### gleaner/shard.packed -/
def shard_packed_u (r : (List UInt8) × Bool) : TV EE.T := .tu [.a (.d .str r.1), .a (.d .bool r.2)]
def w60enc (r : (List UInt8) × Bool) : RL EE.T := .ret (shard_packed_u r) []
def w60lv : Lvs := ⟨[], [(3, ⟨[(4, false), (9, false), (10, false), (11, false)], [], []⟩)], [], [], false, [], []⟩
def w60rs : List ResultVar := [.tmp 2, .tmp 3]
def w60G (N : Nat) : Gam EE := ⟨[⟨87, press_Pack_h N⟩, ⟨86, wire_Write_h N⟩], EQT, []⟩
theorem w60Gok (N : Nat) : GOk Try.prog TT EE (w60G N) := GOk.cons (press_Pack_hok N) (GOk.cons (wire_Write_hok N) (GOk.nil EQT_ok))
def w60kL3 (c : Code) : List It2 := atL 3 c
def w60sL3 (x4 : List VSeries) (x9 : List VItem) (x10 : Int) (x11 : Int) : TS EE.T := ⟨40, [(4, .a (.own (.nam 9) x4)), (9, .a (.d (.sl (.nam 7)) x9)), (10, .a (.d (.int .i64) x10)), (11, .a (.d (.int .i64) x11))], [], []⟩
def w60kE0 (c : Code) : List It2 := [.c c]
def w60sE0 (x0 : List VItem) : TS EE.T := ⟨40, [(0, .a (.d (.sl (.nam 7)) x0))], [], []⟩
def w60TL3 (c : Code) (N : Nat) (n : Nat) (x4 : List VSeries) (x9 : List VItem) (x10 : Int) (x11 : Int) : Tree (Lf EE.T × Option ((List UInt8) × Bool)) :=
  .cond (decide (x11 < x10))
  (
    .bnd (idxC x9 x11) fun z1 =>
    .bnd (appC 48 x4 ([({ Labels := z1.Labels, Samples := ([z1.Sample] : List VSample) } : VSeries)] : List VSeries)) fun z2 =>
    .leaf (.go (w60kL3 c) (w60sL3 z2 x9 x10 (w64 (x11 + 1))), shard_packed_L3 N n z2 x9 x10 (w64 (x11 + 1))))
  (
    .bnd (wire_Write N x4) fun z3 =>
    .cond (z3.2 != 0)
    (
      .leaf (.done (w60enc (([] : List UInt8), false)), some (([] : List UInt8), false)))
    (
      .bnd (press_Pack N z3.1) fun z4 =>
      .leaf (.done (w60enc (z4.1, z4.2 == 0)), some (z4.1, z4.2 == 0))))
theorem w60vL3 (N : Nat) (n : Nat) (x4 : List VSeries) (x9 : List VItem) (x10 : Int) (x11 : Int) : evM TT EE (w60G N) w60lv w60rs 4000 true (w60kL3 (bodyOf 0 Try.f60)) (w60sL3 x4 x9 x10 x11) = (w60TL3 (bodyOf 0 Try.f60) N n x4 x9 x10 x11).map1 := by kernel_rfl
theorem w60nL3 (N : Nat) (n : Nat) (x4 : List VSeries) (x9 : List VItem) (x10 : Int) (x11 : Int) : shard_packed_L3 N (n + 1) x4 x9 x10 x11 = (w60TL3 (bodyOf 0 Try.f60) N n x4 x9 x10 x11).run := by kernel_rfl
theorem w60oL3 {N : Nat} {r : (List UInt8) × Bool} : ∀ (n : Nat) (x4 : List VSeries) (x9 : List VItem) (x10 : Int) (x11 : Int), shard_packed_L3 N n x4 x9 x10 x11 = some r → Ends (Y := TT) EE (w60G N) w60lv w60rs (fun u => u = w60enc r) (w60kL3 (bodyOf 0 Try.f60)) (w60sL3 x4 x9 x10 x11)
  | 0, _, _, _, _, h => by cases h
  | n + 1, x4, x9, x10, x11, h => tree_use (w60vL3 N n x4 x9 x10 x11) (w60nL3 N n x4 x9 x10 x11) h (show (w60TL3 (bodyOf 0 Try.f60) N n x4 x9 x10 x11).all _ from ⟨fun _ => fun _ => fun h => (w60oL3 n) _ _ _ _ h, fun _ => ⟨retp (enc := w60enc) rfl, fun _ => retp (enc := w60enc) rfl⟩⟩)
def w60TE0 (c : Code) (N : Nat) (x0 : List VItem) : Tree (Lf EE.T × Option ((List UInt8) × Bool)) :=
  .leaf (.go (w60kL3 c) (w60sL3 ([] : List VSeries) x0 (x0.length : Int) 0), shard_packed_L3 N N ([] : List VSeries) x0 (x0.length : Int) 0)
theorem w60vE0 (N : Nat) (x0 : List VItem) : evM TT EE (w60G N) w60lv w60rs 4000 true (w60kE0 (bodyOf 0 Try.f60)) (w60sE0 x0) = (w60TE0 (bodyOf 0 Try.f60) N x0).map1 := by kernel_rfl
theorem w60nE0 (N : Nat) (x0 : List VItem) : shard_packed N x0 = (w60TE0 (bodyOf 0 Try.f60) N x0).run := by kernel_rfl
theorem w60oE0 {N : Nat} {r : (List UInt8) × Bool} (x0 : List VItem) (h : shard_packed N x0 = some r) : Ends (Y := TT) EE (w60G N) w60lv w60rs (fun u => u = w60enc r) (w60kE0 (bodyOf 0 Try.f60)) (w60sE0 x0) :=
  tree_use (w60vE0 N x0) (w60nE0 N x0) h (show (w60TE0 (bodyOf 0 Try.f60) N x0).all _ from fun h => w60oL3 N _ _ _ _ h)
theorem shard_packed_ok {N : Nat} (x0 : List VItem) {r : (List UInt8) × Bool} (h : shard_packed N x0 = some r) (ρ : Nat → Nat) : ACalls Try.prog 60 (([.a (.d (.sl (.nam 7)) x0)] : List (TV EE.T)).map (TV.to EE.toEnc ρ)) [] (fun out H => out = .ret ((shard_packed_u r).to EE.toEnc ρ) ∧ H = []) :=
  (fn_ok (bodyOf 0 Try.f60) 40 mixed (w60Gok N) Try.func60 (by kernel_rfl) rfl rfl rfl rfl (w60oE0 x0 h) ρ).mono fun out H h => KPost.ret rfl h
def shard_packed_h (N : Nat) : List (TV EE.T) → PV EE.T
  | [u0] => match argD (.sl (.nam 7)) u0 with
    | some x0 => .opt (shard_packed N x0) shard_packed_u
    | _ => .bad
  | _ => .bad
theorem shard_packed_hok (N : Nat) (us : List (TV EE.T)) : (shard_packed_h N us).ok fun u => ∀ ρ, ACalls Try.prog 60 (us.map (TV.to EE.toEnc ρ)) [] (fun out H => out = .ret (u.to EE.toEnc ρ) ∧ H = []) := by
  unfold shard_packed_h
  split
  · split
    · rename_i h0
      intro z hz ρ; refine acalls_le ?_ (shard_packed_ok _ hz ρ); exact ⟨argD_le h0 ρ, trivial⟩
    · trivial
  · trivial
/-! ### gleaner/shard.Next -/
def shard_Next_u (r : (List VItem) × (List UInt8) × Int) : TV EE.T := .tu [.a (.d (.sl (.nam 7)) r.1), .a (.d .str r.2.1), .a (.d (.int .i64) r.2.2)]
def w27enc (r : (List VItem) × (List UInt8) × Int) : RL EE.T := .ret (shard_Next_u r) []
def w27lv : Lvs := ⟨[], [(9, ⟨[(2, false), (8, false)], [], [(2, (some 8, []))]⟩)], [], [], false, [], []⟩
def w27rs : List ResultVar := [.tmp 4, .tmp 5, .tmp 6]
def w27G (N : Nat) : Gam EE := ⟨[⟨22, shard_Check_h N⟩, ⟨55, shard_isTime_h N⟩, ⟨59, shard_own_h N⟩, ⟨60, shard_packed_h N⟩], EQT, []⟩
theorem w27Gok (N : Nat) : GOk Try.prog TT EE (w27G N) := GOk.cons (shard_Check_hok N) (GOk.cons (shard_isTime_hok N) (GOk.cons (shard_own_hok N) (GOk.cons (shard_packed_hok N) (GOk.nil EQT_ok))))
def w27kL9 (c : Code) : List It2 := atL 9 c
def w27sL9 (x8 : Int) (b2 : VShard) : TS EE.T := ⟨53, [(2, .a (.box 2 0)), (8, .a (.d (.int .i64) x8))], [(2, .cs (unpT EE (.nam 8) b2))], []⟩
def w27kE0 (c : Code) : List It2 := [.c c]
def w27sE0 (x0 : VShard) (x1 : Int) : TS EE.T := ⟨53, [(0, .ag (unpT EE (.nam 8) x0)), (1, .a (.d (.int .i64) x1))], [], []⟩
def w27TL9 (c : Code) (N : Nat) (n : Nat) (x8 : Int) (b2 : VShard) : Tree (Lf EE.T × Option ((List VItem) × (List UInt8) × Int)) :=
  .cond (decide (x8 > 0))
  (
    .bnd (subC b2.Items 0 x8) fun z3 =>
    .bnd (shard_packed N z3) fun z4 =>
    .cond (z4.2)
    (
      .bnd (subC b2.Items 0 x8) fun z5 =>
      .bnd (shard_own N ({ Items := z5, Batch := b2.Batch, Room := b2.Room, First := b2.First, Most := b2.Most, Waits := b2.Waits, Till := b2.Till } : VShard) 0) fun z6 =>
      .leaf (.done (w27enc (z6.Items, z4.1, 0)), some (z6.Items, z4.1, 0)))
    (
      .bnd (quoC .i64 x8 2) fun z7 =>
      .leaf (.go (w27kL9 c) (w27sL9 z7 b2), shard_Next_L9 N n z7 b2)))
  (
    .leaf (.done (w27enc (([] : List VItem), ([] : List UInt8), 0)), some (([] : List VItem), ([] : List UInt8), 0)))
theorem w27vL9 (N : Nat) (n : Nat) (x8 : Int) (b2 : VShard) : evM TT EE (w27G N) w27lv w27rs 4000 true (w27kL9 (bodyOf 0 Try.f27)) (w27sL9 x8 b2) = (w27TL9 (bodyOf 0 Try.f27) N n x8 b2).map1 := by kernel_rfl
theorem w27nL9 (N : Nat) (n : Nat) (x8 : Int) (b2 : VShard) : shard_Next_L9 N (n + 1) x8 b2 = (w27TL9 (bodyOf 0 Try.f27) N n x8 b2).run := by kernel_rfl
theorem w27oL9 {N : Nat} {r : (List VItem) × (List UInt8) × Int} : ∀ (n : Nat) (x8 : Int) (b2 : VShard), shard_Next_L9 N n x8 b2 = some r → Ends (Y := TT) EE (w27G N) w27lv w27rs (fun u => u = w27enc r) (w27kL9 (bodyOf 0 Try.f27)) (w27sL9 x8 b2)
  | 0, _, _, h => by cases h
  | n + 1, x8, b2, h => tree_use (w27vL9 N n x8 b2) (w27nL9 N n x8 b2) h (show (w27TL9 (bodyOf 0 Try.f27) N n x8 b2).all _ from ⟨fun _ => fun _ => ⟨fun _ => fun _ => retp (enc := w27enc) rfl, fun _ => fun h => (w27oL9 n) _ _ h⟩, retp (enc := w27enc) rfl⟩)
def w27TE0 (c : Code) (N : Nat) (x0 : VShard) (x1 : Int) : Tree (Lf EE.T × Option ((List VItem) × (List UInt8) × Int)) :=
  .bnd (shard_Check N x0) fun z1 =>
  .cond (z1 != 0)
  (
    .leaf (.done (w27enc (([] : List VItem), ([] : List UInt8), z1)), some (([] : List VItem), ([] : List UInt8), z1)))
  (
    .bnd (shard_isTime N x1) fun z2 =>
    .cond (!z2)
    (
      .leaf (.done (w27enc (([] : List VItem), ([] : List UInt8), 3)), some (([] : List VItem), ([] : List UInt8), 3)))
    (
      .cond (decide (x0.Till > x1))
      (
        .leaf (.done (w27enc (([] : List VItem), ([] : List UInt8), 4)), some (([] : List VItem), ([] : List UInt8), 4)))
      (
        .leaf (.go (w27kL9 c) (w27sL9 (if x0.Batch < (x0.Items.length : Int) then x0.Batch else (x0.Items.length : Int)) x0), shard_Next_L9 N N (if x0.Batch < (x0.Items.length : Int) then x0.Batch else (x0.Items.length : Int)) x0))))
theorem w27vE0 (N : Nat) (x0 : VShard) (x1 : Int) : evM TT EE (w27G N) w27lv w27rs 4000 true (w27kE0 (bodyOf 0 Try.f27)) (w27sE0 x0 x1) = (w27TE0 (bodyOf 0 Try.f27) N x0 x1).map1 := by kernel_rfl
theorem w27nE0 (N : Nat) (x0 : VShard) (x1 : Int) : shard_Next N x0 x1 = (w27TE0 (bodyOf 0 Try.f27) N x0 x1).run := by kernel_rfl
theorem w27oE0 {N : Nat} {r : (List VItem) × (List UInt8) × Int} (x0 : VShard) (x1 : Int) (h : shard_Next N x0 x1 = some r) : Ends (Y := TT) EE (w27G N) w27lv w27rs (fun u => u = w27enc r) (w27kE0 (bodyOf 0 Try.f27)) (w27sE0 x0 x1) :=
  tree_use (w27vE0 N x0 x1) (w27nE0 N x0 x1) h (show (w27TE0 (bodyOf 0 Try.f27) N x0 x1).all _ from fun _ => ⟨retp (enc := w27enc) rfl, fun _ => ⟨retp (enc := w27enc) rfl, ⟨retp (enc := w27enc) rfl, fun h => w27oL9 N _ _ h⟩⟩⟩)
theorem shard_Next_ok {N : Nat} (x0 : VShard) (x1 : Int) {r : (List VItem) × (List UInt8) × Int} (h : shard_Next N x0 x1 = some r) (ρ : Nat → Nat) : ACalls Try.prog 27 (([.ag (unpT EE (.nam 8) x0), .a (.d (.int .i64) x1)] : List (TV EE.T)).map (TV.to EE.toEnc ρ)) [] (fun out H => out = .ret ((shard_Next_u r).to EE.toEnc ρ) ∧ H = []) :=
  (fn_ok (bodyOf 0 Try.f27) 53 mixed (w27Gok N) Try.func27 (by kernel_rfl) rfl rfl rfl rfl (w27oE0 x0 x1 h) ρ).mono fun out H h => KPost.ret rfl h
def shard_Next_h (N : Nat) : List (TV EE.T) → PV EE.T
  | [u0, u1] => match argS EE 8 u0, argD (.int .i64) u1 with
    | some x0, some x1 => .opt (shard_Next N x0 x1) shard_Next_u
    | _, _ => .bad
  | _ => .bad
theorem shard_Next_hok (N : Nat) (us : List (TV EE.T)) : (shard_Next_h N us).ok fun u => ∀ ρ, ACalls Try.prog 27 (us.map (TV.to EE.toEnc ρ)) [] (fun out H => out = .ret (u.to EE.toEnc ρ) ∧ H = []) := by
  unfold shard_Next_h
  split
  · split
    · rename_i h0 h1
      intro z hz ρ; refine acalls_le ?_ (shard_Next_ok _ _ hz ρ); exact ⟨argS_le h0 ρ, argD_le h1 ρ, trivial⟩
    · trivial
  · trivial
/-! ### gleaner/gleanerlaw.shardBegun -/
def law_shardBegun_u (r : Bool) : TV EE.T := .a (.d .bool r)
def w21enc (r : Bool) : RL EE.T := .ret (law_shardBegun_u r) []
def w21lv : Lvs := ⟨[], [], [], [], false, [], []⟩
def w21rs : List ResultVar := [.tmp 0]
def w21G (N : Nat) : Gam EE := ⟨[⟨27, shard_Next_h N⟩, ⟨24, shard_Push_h N⟩], EQT, []⟩
theorem w21Gok (N : Nat) : GOk Try.prog TT EE (w21G N) := GOk.cons (shard_Next_hok N) (GOk.cons (shard_Push_hok N) (GOk.nil EQT_ok))
def w21kE0 (c : Code) : List It2 := [.c c]
def w21sE0 : TS EE.T := ⟨35, [], [], []⟩
def w21TE0 (c : Code) (N : Nat) : Tree (Lf EE.T × Option Bool) :=
  .bnd (shard_Push N ({ Items := ([] : List VItem), Batch := 1, Room := 1, First := 1, Most := 2, Waits := 0, Till := 0 } : VShard) ({ Number := 0, Labels := ([({ Name := ([97] : List UInt8), Value := ([98] : List UInt8) } : VLabel)] : List VLabel), Sample := ({ Time := 0, Bits := 0 } : VSample) } : VItem)) fun z1 =>
  .bnd (shard_Next N z1.1 0) fun z2 =>
  .cond (z1.2 == 0)
  (
    .cond (z2.2.2 == 0)
    (
      .cond ((z2.1.length : Int) == 1)
      (
        .leaf (.done (w21enc (!decide (z2.2.1 = ([] : List UInt8)))), some (!decide (z2.2.1 = ([] : List UInt8)))))
      (
        .leaf (.done (w21enc false), some false)))
    (
      .leaf (.done (w21enc false), some false)))
  (
    .leaf (.done (w21enc false), some false))
theorem w21vE0 (N : Nat) : evM TT EE (w21G N) w21lv w21rs 4000 true (w21kE0 (bodyOf 0 Try.f21)) (w21sE0) = (w21TE0 (bodyOf 0 Try.f21) N).map1 := by kernel_rfl
theorem w21nE0 (N : Nat) : law_shardBegun N = (w21TE0 (bodyOf 0 Try.f21) N).run := by kernel_rfl
theorem w21oE0 {N : Nat} {r : Bool} (h : law_shardBegun N = some r) : Ends (Y := TT) EE (w21G N) w21lv w21rs (fun u => u = w21enc r) (w21kE0 (bodyOf 0 Try.f21)) (w21sE0) :=
  tree_use (w21vE0 N) (w21nE0 N) h (show (w21TE0 (bodyOf 0 Try.f21) N).all _ from fun _ => fun _ => ⟨⟨⟨retp (enc := w21enc) rfl, retp (enc := w21enc) rfl⟩, retp (enc := w21enc) rfl⟩, retp (enc := w21enc) rfl⟩)
theorem law_shardBegun_ok {N : Nat} {r : Bool} (h : law_shardBegun N = some r) (ρ : Nat → Nat) : ACalls Try.prog 21 (([] : List (TV EE.T)).map (TV.to EE.toEnc ρ)) [] (fun out H => out = .ret ((law_shardBegun_u r).to EE.toEnc ρ) ∧ H = []) :=
  (fn_ok (bodyOf 0 Try.f21) 35 mixed (w21Gok N) Try.func21 (by kernel_rfl) rfl rfl rfl rfl (w21oE0 h) ρ).mono fun out H h => KPost.ret rfl h
def law_shardBegun_h (N : Nat) : List (TV EE.T) → PV EE.T
  | [] => .opt (law_shardBegun N) law_shardBegun_u
  | _ => .bad
theorem law_shardBegun_hok (N : Nat) (us : List (TV EE.T)) : (law_shardBegun_h N us).ok fun u => ∀ ρ, ACalls Try.prog 21 (us.map (TV.to EE.toEnc ρ)) [] (fun out H => out = .ret (u.to EE.toEnc ρ) ∧ H = []) := by
  unfold law_shardBegun_h
  split
  · intro z hz ρ; exact law_shardBegun_ok hz ρ
  · trivial
/-! ### gleaner/gleanerref.CheckShard$1 -/
def ref_CheckShard_1_u (r : Bool) : TV EE.T := .a (.d .bool r)
def w57enc (r : Bool) : RL EE.T := .ret (ref_CheckShard_1_u r) []
def w57lv : Lvs := ⟨[], [], [], [], false, [], []⟩
def w57rs : List ResultVar := [.tmp 6]
def w57G (N : Nat) : Gam EE := ⟨[], EQT, []⟩
theorem w57Gok (N : Nat) : GOk Try.prog TT EE (w57G N) := GOk.nil EQT_ok
def w57kE0 (c : Code) : List It2 := [.c c]
def w57sE0 (x0 : Int) (x1 : Int) (x2 : Int) : TS EE.T := ⟨15, [(0, .a (.d (.int .i64) x0)), (1, .a (.d (.int .i64) x1)), (2, .a (.d (.int .i64) x2))], [], []⟩
def w57TE0 (c : Code) (N : Nat) (x0 : Int) (x1 : Int) (x2 : Int) : Tree (Lf EE.T × Option Bool) :=
  .cond (decide (x0 ≥ x1))
  (
    .leaf (.done (w57enc (decide (x0 ≤ x2))), some (decide (x0 ≤ x2))))
  (
    .leaf (.done (w57enc false), some false))
theorem w57vE0 (N : Nat) (x0 : Int) (x1 : Int) (x2 : Int) : evM TT EE (w57G N) w57lv w57rs 4000 true (w57kE0 (bodyOf 0 Try.f57)) (w57sE0 x0 x1 x2) = (w57TE0 (bodyOf 0 Try.f57) N x0 x1 x2).map1 := by kernel_rfl
theorem w57nE0 (N : Nat) (x0 : Int) (x1 : Int) (x2 : Int) : ref_CheckShard_1 N x0 x1 x2 = (w57TE0 (bodyOf 0 Try.f57) N x0 x1 x2).run := by kernel_rfl
theorem w57oE0 {N : Nat} {r : Bool} (x0 : Int) (x1 : Int) (x2 : Int) (h : ref_CheckShard_1 N x0 x1 x2 = some r) : Ends (Y := TT) EE (w57G N) w57lv w57rs (fun u => u = w57enc r) (w57kE0 (bodyOf 0 Try.f57)) (w57sE0 x0 x1 x2) :=
  tree_use (w57vE0 N x0 x1 x2) (w57nE0 N x0 x1 x2) h (show (w57TE0 (bodyOf 0 Try.f57) N x0 x1 x2).all _ from ⟨retp (enc := w57enc) rfl, retp (enc := w57enc) rfl⟩)
theorem ref_CheckShard_1_ok {N : Nat} (x0 : Int) (x1 : Int) (x2 : Int) {r : Bool} (h : ref_CheckShard_1 N x0 x1 x2 = some r) (ρ : Nat → Nat) : ACalls Try.prog 57 (([.a (.d (.int .i64) x0), .a (.d (.int .i64) x1), .a (.d (.int .i64) x2)] : List (TV EE.T)).map (TV.to EE.toEnc ρ)) [] (fun out H => out = .ret ((ref_CheckShard_1_u r).to EE.toEnc ρ) ∧ H = []) :=
  (fn_ok (bodyOf 0 Try.f57) 15 mixed (w57Gok N) Try.func57 (by kernel_rfl) rfl rfl rfl rfl (w57oE0 x0 x1 x2 h) ρ).mono fun out H h => KPost.ret rfl h
def ref_CheckShard_1_h (N : Nat) : List (TV EE.T) → PV EE.T
  | [u0, u1, u2] => match argD (.int .i64) u0, argD (.int .i64) u1, argD (.int .i64) u2 with
    | some x0, some x1, some x2 => .opt (ref_CheckShard_1 N x0 x1 x2) ref_CheckShard_1_u
    | _, _, _ => .bad
  | _ => .bad
theorem ref_CheckShard_1_hok (N : Nat) (us : List (TV EE.T)) : (ref_CheckShard_1_h N us).ok fun u => ∀ ρ, ACalls Try.prog 57 (us.map (TV.to EE.toEnc ρ)) [] (fun out H => out = .ret (u.to EE.toEnc ρ) ∧ H = []) := by
  unfold ref_CheckShard_1_h
  split
  · split
    · rename_i h0 h1 h2
      intro z hz ρ; refine acalls_le ?_ (ref_CheckShard_1_ok _ _ _ hz ρ); exact ⟨argD_le h0 ρ, argD_le h1 ρ, argD_le h2 ρ, trivial⟩
    · trivial
  · trivial
/-! ### gleaner/gleanerref.IsTime -/
def ref_IsTime_u (r : Bool) : TV EE.T := .a (.d .bool r)
def w46enc (r : Bool) : RL EE.T := .ret (ref_IsTime_u r) []
def w46lv : Lvs := ⟨[], [], [], [], false, [], []⟩
def w46rs : List ResultVar := [.tmp 2]
def w46G (N : Nat) : Gam EE := ⟨[], EQT, []⟩
theorem w46Gok (N : Nat) : GOk Try.prog TT EE (w46G N) := GOk.nil EQT_ok
def w46kE0 (c : Code) : List It2 := [.c c]
def w46sE0 (x0 : Int) : TS EE.T := ⟨9, [(0, .a (.d (.int .i64) x0))], [], []⟩
def w46TE0 (c : Code) (N : Nat) (x0 : Int) : Tree (Lf EE.T × Option Bool) :=
  .cond (decide (x0 ≥ (-9007199254740991)))
  (
    .leaf (.done (w46enc (decide (x0 ≤ 9007199254740991))), some (decide (x0 ≤ 9007199254740991))))
  (
    .leaf (.done (w46enc false), some false))
theorem w46vE0 (N : Nat) (x0 : Int) : evM TT EE (w46G N) w46lv w46rs 4000 true (w46kE0 (bodyOf 0 Try.f46)) (w46sE0 x0) = (w46TE0 (bodyOf 0 Try.f46) N x0).map1 := by kernel_rfl
theorem w46nE0 (N : Nat) (x0 : Int) : ref_IsTime N x0 = (w46TE0 (bodyOf 0 Try.f46) N x0).run := by kernel_rfl
theorem w46oE0 {N : Nat} {r : Bool} (x0 : Int) (h : ref_IsTime N x0 = some r) : Ends (Y := TT) EE (w46G N) w46lv w46rs (fun u => u = w46enc r) (w46kE0 (bodyOf 0 Try.f46)) (w46sE0 x0) :=
  tree_use (w46vE0 N x0) (w46nE0 N x0) h (show (w46TE0 (bodyOf 0 Try.f46) N x0).all _ from ⟨retp (enc := w46enc) rfl, retp (enc := w46enc) rfl⟩)
theorem ref_IsTime_ok {N : Nat} (x0 : Int) {r : Bool} (h : ref_IsTime N x0 = some r) (ρ : Nat → Nat) : ACalls Try.prog 46 (([.a (.d (.int .i64) x0)] : List (TV EE.T)).map (TV.to EE.toEnc ρ)) [] (fun out H => out = .ret ((ref_IsTime_u r).to EE.toEnc ρ) ∧ H = []) :=
  (fn_ok (bodyOf 0 Try.f46) 9 mixed (w46Gok N) Try.func46 (by kernel_rfl) rfl rfl rfl rfl (w46oE0 x0 h) ρ).mono fun out H h => KPost.ret rfl h
def ref_IsTime_h (N : Nat) : List (TV EE.T) → PV EE.T
  | [u0] => match argD (.int .i64) u0 with
    | some x0 => .opt (ref_IsTime N x0) ref_IsTime_u
    | _ => .bad
  | _ => .bad
theorem ref_IsTime_hok (N : Nat) (us : List (TV EE.T)) : (ref_IsTime_h N us).ok fun u => ∀ ρ, ACalls Try.prog 46 (us.map (TV.to EE.toEnc ρ)) [] (fun out H => out = .ret (u.to EE.toEnc ρ) ∧ H = []) := by
  unfold ref_IsTime_h
  split
  · split
    · rename_i h0
      intro z hz ρ; refine acalls_le ?_ (ref_IsTime_ok _ hz ρ); exact ⟨argD_le h0 ρ, trivial⟩
    · trivial
  · trivial
/-! ### gleaner/gleanerref.IsLetter -/
def ref_IsLetter_u (r : Bool) : TV EE.T := .a (.d .bool r)
def w102enc (r : Bool) : RL EE.T := .ret (ref_IsLetter_u r) []
def w102lv : Lvs := ⟨[], [], [], [], false, [], []⟩
def w102rs : List ResultVar := [.tmp 2]
def w102G (N : Nat) : Gam EE := ⟨[], EQT, []⟩
theorem w102Gok (N : Nat) : GOk Try.prog TT EE (w102G N) := GOk.nil EQT_ok
def w102kE0 (c : Code) : List It2 := [.c c]
def w102sE0 (x0 : UInt8) : TS EE.T := ⟨21, [(0, .a (.d .byte x0))], [], []⟩
def w102TE0 (c : Code) (N : Nat) (x0 : UInt8) : Tree (Lf EE.T × Option Bool) :=
  .cond (decide ((b2i x0) ≥ (b2i 97)))
  (
    .cond (decide ((b2i x0) ≤ (b2i 122)))
    (
      .leaf (.done (w102enc true), some true))
    (
      .cond (decide ((b2i x0) ≥ (b2i 65)))
      (
        .cond (decide ((b2i x0) ≤ (b2i 90)))
        (
          .leaf (.done (w102enc true), some true))
        (
          .leaf (.done (w102enc ((b2i x0) == (b2i 95))), some ((b2i x0) == (b2i 95)))))
      (
        .leaf (.done (w102enc ((b2i x0) == (b2i 95))), some ((b2i x0) == (b2i 95))))))
  (
    .cond (decide ((b2i x0) ≥ (b2i 65)))
    (
      .cond (decide ((b2i x0) ≤ (b2i 90)))
      (
        .leaf (.done (w102enc true), some true))
      (
        .leaf (.done (w102enc ((b2i x0) == (b2i 95))), some ((b2i x0) == (b2i 95)))))
    (
      .leaf (.done (w102enc ((b2i x0) == (b2i 95))), some ((b2i x0) == (b2i 95)))))
theorem w102vE0 (N : Nat) (x0 : UInt8) : evM TT EE (w102G N) w102lv w102rs 4000 true (w102kE0 (bodyOf 0 Try.f102)) (w102sE0 x0) = (w102TE0 (bodyOf 0 Try.f102) N x0).map1 := by kernel_rfl
theorem w102nE0 (N : Nat) (x0 : UInt8) : ref_IsLetter N x0 = (w102TE0 (bodyOf 0 Try.f102) N x0).run := by kernel_rfl
theorem w102oE0 {N : Nat} {r : Bool} (x0 : UInt8) (h : ref_IsLetter N x0 = some r) : Ends (Y := TT) EE (w102G N) w102lv w102rs (fun u => u = w102enc r) (w102kE0 (bodyOf 0 Try.f102)) (w102sE0 x0) :=
  tree_use (w102vE0 N x0) (w102nE0 N x0) h (show (w102TE0 (bodyOf 0 Try.f102) N x0).all _ from ⟨⟨retp (enc := w102enc) rfl, ⟨⟨retp (enc := w102enc) rfl, retp (enc := w102enc) rfl⟩, retp (enc := w102enc) rfl⟩⟩, ⟨⟨retp (enc := w102enc) rfl, retp (enc := w102enc) rfl⟩, retp (enc := w102enc) rfl⟩⟩)
theorem ref_IsLetter_ok {N : Nat} (x0 : UInt8) {r : Bool} (h : ref_IsLetter N x0 = some r) (ρ : Nat → Nat) : ACalls Try.prog 102 (([.a (.d .byte x0)] : List (TV EE.T)).map (TV.to EE.toEnc ρ)) [] (fun out H => out = .ret ((ref_IsLetter_u r).to EE.toEnc ρ) ∧ H = []) :=
  (fn_ok (bodyOf 0 Try.f102) 21 mixed (w102Gok N) Try.func102 (by kernel_rfl) rfl rfl rfl rfl (w102oE0 x0 h) ρ).mono fun out H h => KPost.ret rfl h
def ref_IsLetter_h (N : Nat) : List (TV EE.T) → PV EE.T
  | [u0] => match argD .byte u0 with
    | some x0 => .opt (ref_IsLetter N x0) ref_IsLetter_u
    | _ => .bad
  | _ => .bad
theorem ref_IsLetter_hok (N : Nat) (us : List (TV EE.T)) : (ref_IsLetter_h N us).ok fun u => ∀ ρ, ACalls Try.prog 102 (us.map (TV.to EE.toEnc ρ)) [] (fun out H => out = .ret (u.to EE.toEnc ρ) ∧ H = []) := by
  unfold ref_IsLetter_h
  split
  · split
    · rename_i h0
      intro z hz ρ; refine acalls_le ?_ (ref_IsLetter_ok _ hz ρ); exact ⟨argD_le h0 ρ, trivial⟩
    · trivial
  · trivial
/-! ### gleaner/gleanerref.IsNumeral -/
def ref_IsNumeral_u (r : Bool) : TV EE.T := .a (.d .bool r)
def w103enc (r : Bool) : RL EE.T := .ret (ref_IsNumeral_u r) []
def w103lv : Lvs := ⟨[], [], [], [], false, [], []⟩
def w103rs : List ResultVar := [.tmp 2]
def w103G (N : Nat) : Gam EE := ⟨[], EQT, []⟩
theorem w103Gok (N : Nat) : GOk Try.prog TT EE (w103G N) := GOk.nil EQT_ok
def w103kE0 (c : Code) : List It2 := [.c c]
def w103sE0 (x0 : UInt8) : TS EE.T := ⟨9, [(0, .a (.d .byte x0))], [], []⟩
def w103TE0 (c : Code) (N : Nat) (x0 : UInt8) : Tree (Lf EE.T × Option Bool) :=
  .cond (decide ((b2i x0) ≥ (b2i 48)))
  (
    .leaf (.done (w103enc (decide ((b2i x0) ≤ (b2i 57)))), some (decide ((b2i x0) ≤ (b2i 57)))))
  (
    .leaf (.done (w103enc false), some false))
theorem w103vE0 (N : Nat) (x0 : UInt8) : evM TT EE (w103G N) w103lv w103rs 4000 true (w103kE0 (bodyOf 0 Try.f103)) (w103sE0 x0) = (w103TE0 (bodyOf 0 Try.f103) N x0).map1 := by kernel_rfl
theorem w103nE0 (N : Nat) (x0 : UInt8) : ref_IsNumeral N x0 = (w103TE0 (bodyOf 0 Try.f103) N x0).run := by kernel_rfl
theorem w103oE0 {N : Nat} {r : Bool} (x0 : UInt8) (h : ref_IsNumeral N x0 = some r) : Ends (Y := TT) EE (w103G N) w103lv w103rs (fun u => u = w103enc r) (w103kE0 (bodyOf 0 Try.f103)) (w103sE0 x0) :=
  tree_use (w103vE0 N x0) (w103nE0 N x0) h (show (w103TE0 (bodyOf 0 Try.f103) N x0).all _ from ⟨retp (enc := w103enc) rfl, retp (enc := w103enc) rfl⟩)
theorem ref_IsNumeral_ok {N : Nat} (x0 : UInt8) {r : Bool} (h : ref_IsNumeral N x0 = some r) (ρ : Nat → Nat) : ACalls Try.prog 103 (([.a (.d .byte x0)] : List (TV EE.T)).map (TV.to EE.toEnc ρ)) [] (fun out H => out = .ret ((ref_IsNumeral_u r).to EE.toEnc ρ) ∧ H = []) :=
  (fn_ok (bodyOf 0 Try.f103) 9 mixed (w103Gok N) Try.func103 (by kernel_rfl) rfl rfl rfl rfl (w103oE0 x0 h) ρ).mono fun out H h => KPost.ret rfl h
def ref_IsNumeral_h (N : Nat) : List (TV EE.T) → PV EE.T
  | [u0] => match argD .byte u0 with
    | some x0 => .opt (ref_IsNumeral N x0) ref_IsNumeral_u
    | _ => .bad
  | _ => .bad
theorem ref_IsNumeral_hok (N : Nat) (us : List (TV EE.T)) : (ref_IsNumeral_h N us).ok fun u => ∀ ρ, ACalls Try.prog 103 (us.map (TV.to EE.toEnc ρ)) [] (fun out H => out = .ret (u.to EE.toEnc ρ) ∧ H = []) := by
  unfold ref_IsNumeral_h
  split
  · split
    · rename_i h0
      intro z hz ρ; refine acalls_le ?_ (ref_IsNumeral_ok _ hz ρ); exact ⟨argD_le h0 ρ, trivial⟩
    · trivial
  · trivial
/-! ### gleaner/gleanerref.IsName -/
def ref_IsName_u (r : Bool) : TV EE.T := .a (.d .bool r)
def w91enc (r : Bool) : RL EE.T := .ret (ref_IsName_u r) []
def w91lv : Lvs := ⟨[(3, ⟨[(0, false), (3, false)], [], []⟩)], [(2, ⟨[(0, false), (3, false)], [], []⟩)], [3], [], false, [], []⟩
def w91rs : List ResultVar := [.tmp 2]
def w91G (N : Nat) : Gam EE := ⟨[⟨102, ref_IsLetter_h N⟩, ⟨103, ref_IsNumeral_h N⟩], EQT, []⟩
theorem w91Gok (N : Nat) : GOk Try.prog TT EE (w91G N) := GOk.cons (ref_IsLetter_hok N) (GOk.cons (ref_IsNumeral_hok N) (GOk.nil EQT_ok))
def w91kR3 (c : Code) : List It2 := atR 3 c
def w91sR3 (x0 : List UInt8) (x3 : Int) : TS EE.T := ⟨34, [(0, .a (.d .str x0)), (3, .a (.d (.int .i64) x3))], [], []⟩
def w91kL2 (c : Code) : List It2 := atL 2 c
def w91sL2 (x0 : List UInt8) (x3 : Int) : TS EE.T := ⟨34, [(0, .a (.d .str x0)), (3, .a (.d (.int .i64) x3))], [], []⟩
def w91kE0 (c : Code) : List It2 := [.c c]
def w91sE0 (x0 : List UInt8) : TS EE.T := ⟨34, [(0, .a (.d .str x0))], [], []⟩
def w91TR3 (c : Code) (N : Nat) (k2 : (List UInt8) → Int → Option Bool) (n : Nat) (x0 : List UInt8) (x3 : Int) : Tree (Lf EE.T × Option Bool) :=
  .leaf (.go (w91kL2 c) (w91sL2 x0 (w64 (x3 + 1))), k2 x0 (w64 (x3 + 1)))
theorem w91vR3 (N : Nat) (k2 : (List UInt8) → Int → Option Bool) (n : Nat) (x0 : List UInt8) (x3 : Int) : evM TT EE (w91G N) w91lv w91rs 4000 true (w91kR3 (bodyOf 0 Try.f91)) (w91sR3 x0 x3) = (w91TR3 (bodyOf 0 Try.f91) N k2 n x0 x3).map1 := by kernel_rfl
theorem w91nR3 (N : Nat) (k2 : (List UInt8) → Int → Option Bool) (n : Nat) (x0 : List UInt8) (x3 : Int) : ref_IsName_R3 N k2 n x0 x3 = (w91TR3 (bodyOf 0 Try.f91) N k2 n x0 x3).run := by kernel_rfl
theorem w91oR3 {N : Nat} {r : Bool} {k2 : (List UInt8) → Int → Option Bool} (hk2 : ∀ x0 x3, k2 x0 x3 = some r → Ends (Y := TT) EE (w91G N) w91lv w91rs (fun u => u = w91enc r) (w91kL2 (bodyOf 0 Try.f91)) (w91sL2 x0 x3)) (n : Nat) (x0 : List UInt8) (x3 : Int) (h : ref_IsName_R3 N k2 n x0 x3 = some r) : Ends (Y := TT) EE (w91G N) w91lv w91rs (fun u => u = w91enc r) (w91kR3 (bodyOf 0 Try.f91)) (w91sR3 x0 x3) :=
  tree_use (w91vR3 N k2 n x0 x3) (w91nR3 N k2 n x0 x3) h (show (w91TR3 (bodyOf 0 Try.f91) N k2 n x0 x3).all _ from fun h => hk2 _ _ h)
def w91TL2 (c : Code) (N : Nat) (n : Nat) (x0 : List UInt8) (x3 : Int) : Tree (Lf EE.T × Option Bool) :=
  .cond (decide (x3 < (x0.length : Int)))
  (
    .bnd (idxC x0 x3) fun z1 =>
    .bnd (ref_IsLetter N z1) fun z2 =>
    .cond (!z2)
    (
      .cond (x3 == 0)
      (
        .leaf (.done (w91enc false), some false))
      (
        .bnd (idxC x0 x3) fun z3 =>
        .bnd (ref_IsNumeral N z3) fun z4 =>
        .cond (!z4)
        (
          .leaf (.done (w91enc false), some false))
        (
          .leaf (.go (w91kR3 c) (w91sR3 x0 x3), ref_IsName_R3 N (ref_IsName_L2 N n) n x0 x3))))
    (
      .leaf (.go (w91kR3 c) (w91sR3 x0 x3), ref_IsName_R3 N (ref_IsName_L2 N n) n x0 x3)))
  (
    .cond (decide ((x0.length : Int) ≥ 1))
    (
      .leaf (.done (w91enc (decide ((x0.length : Int) ≤ 40))), some (decide ((x0.length : Int) ≤ 40))))
    (
      .leaf (.done (w91enc false), some false)))
theorem w91vL2 (N : Nat) (n : Nat) (x0 : List UInt8) (x3 : Int) : evM TT EE (w91G N) w91lv w91rs 4000 true (w91kL2 (bodyOf 0 Try.f91)) (w91sL2 x0 x3) = (w91TL2 (bodyOf 0 Try.f91) N n x0 x3).map1 := by kernel_rfl
theorem w91nL2 (N : Nat) (n : Nat) (x0 : List UInt8) (x3 : Int) : ref_IsName_L2 N (n + 1) x0 x3 = (w91TL2 (bodyOf 0 Try.f91) N n x0 x3).run := by kernel_rfl
theorem w91oL2 {N : Nat} {r : Bool} : ∀ (n : Nat) (x0 : List UInt8) (x3 : Int), ref_IsName_L2 N n x0 x3 = some r → Ends (Y := TT) EE (w91G N) w91lv w91rs (fun u => u = w91enc r) (w91kL2 (bodyOf 0 Try.f91)) (w91sL2 x0 x3)
  | 0, _, _, h => by cases h
  | n + 1, x0, x3, h => tree_use (w91vL2 N n x0 x3) (w91nL2 N n x0 x3) h (show (w91TL2 (bodyOf 0 Try.f91) N n x0 x3).all _ from ⟨fun _ => fun _ => ⟨⟨retp (enc := w91enc) rfl, fun _ => fun _ => ⟨retp (enc := w91enc) rfl, fun h => w91oR3 (w91oL2 n) n _ _ h⟩⟩, fun h => w91oR3 (w91oL2 n) n _ _ h⟩, ⟨retp (enc := w91enc) rfl, retp (enc := w91enc) rfl⟩⟩)
def w91TE0 (c : Code) (N : Nat) (x0 : List UInt8) : Tree (Lf EE.T × Option Bool) :=
  .leaf (.go (w91kL2 c) (w91sL2 x0 0), ref_IsName_L2 N N x0 0)
theorem w91vE0 (N : Nat) (x0 : List UInt8) : evM TT EE (w91G N) w91lv w91rs 4000 true (w91kE0 (bodyOf 0 Try.f91)) (w91sE0 x0) = (w91TE0 (bodyOf 0 Try.f91) N x0).map1 := by kernel_rfl
theorem w91nE0 (N : Nat) (x0 : List UInt8) : ref_IsName N x0 = (w91TE0 (bodyOf 0 Try.f91) N x0).run := by kernel_rfl
theorem w91oE0 {N : Nat} {r : Bool} (x0 : List UInt8) (h : ref_IsName N x0 = some r) : Ends (Y := TT) EE (w91G N) w91lv w91rs (fun u => u = w91enc r) (w91kE0 (bodyOf 0 Try.f91)) (w91sE0 x0) :=
  tree_use (w91vE0 N x0) (w91nE0 N x0) h (show (w91TE0 (bodyOf 0 Try.f91) N x0).all _ from fun h => w91oL2 N _ _ h)
theorem ref_IsName_ok {N : Nat} (x0 : List UInt8) {r : Bool} (h : ref_IsName N x0 = some r) (ρ : Nat → Nat) : ACalls Try.prog 91 (([.a (.d .str x0)] : List (TV EE.T)).map (TV.to EE.toEnc ρ)) [] (fun out H => out = .ret ((ref_IsName_u r).to EE.toEnc ρ) ∧ H = []) :=
  (fn_ok (bodyOf 0 Try.f91) 34 mixed (w91Gok N) Try.func91 (by kernel_rfl) rfl rfl rfl rfl (w91oE0 x0 h) ρ).mono fun out H h => KPost.ret rfl h
def ref_IsName_h (N : Nat) : List (TV EE.T) → PV EE.T
  | [u0] => match argD .str u0 with
    | some x0 => .opt (ref_IsName N x0) ref_IsName_u
    | _ => .bad
  | _ => .bad
theorem ref_IsName_hok (N : Nat) (us : List (TV EE.T)) : (ref_IsName_h N us).ok fun u => ∀ ρ, ACalls Try.prog 91 (us.map (TV.to EE.toEnc ρ)) [] (fun out H => out = .ret (u.to EE.toEnc ρ) ∧ H = []) := by
  unfold ref_IsName_h
  split
  · split
    · rename_i h0
      intro z hz ρ; refine acalls_le ?_ (ref_IsName_ok _ hz ρ); exact ⟨argD_le h0 ρ, trivial⟩
    · trivial
  · trivial
/-! ### gleaner/gleanerref.EachLabel -/
def ref_EachLabel_u (r : Int) : TV EE.T := .a (.d (.int .i64) r)
def w69enc (r : Int) : RL EE.T := .ret (ref_EachLabel_u r) []
def w69lv : Lvs := ⟨[(8, ⟨[(0, false), (1, false), (5, false)], [], []⟩), (16, ⟨[(0, false), (6, false), (7, false)], [], []⟩)], [(4, ⟨[(0, false), (1, false), (5, false)], [], []⟩), (11, ⟨[(0, false), (6, false)], [], []⟩), (14, ⟨[(0, false), (6, false), (7, false)], [], []⟩)], [8], [], false, [], []⟩
def w69rs : List ResultVar := [.tmp 4]
def w69G (N : Nat) : Gam EE := ⟨[⟨91, ref_IsName_h N⟩], EQT, []⟩
theorem w69Gok (N : Nat) : GOk Try.prog TT EE (w69G N) := GOk.cons (ref_IsName_hok N) (GOk.nil EQT_ok)
def w69kR8 (c : Code) : List It2 := atR 8 c
def w69sR8 (x0 : List VLabel) (x1 : Bool) (x5 : Int) : TS EE.T := ⟨65, [(0, .a (.d (.sl (.nam 2)) x0)), (1, .a (.d .bool x1)), (5, .a (.d (.int .i64) x5))], [], []⟩
def w69kL14 (c : Code) : List It2 := atL 14 c
def w69sL14 (x0 : List VLabel) (x6 : Int) (x7 : Int) : TS EE.T := ⟨65, [(0, .a (.d (.sl (.nam 2)) x0)), (6, .a (.d (.int .i64) x6)), (7, .a (.d (.int .i64) x7))], [], []⟩
def w69kL11 (c : Code) : List It2 := atL 11 c
def w69sL11 (x0 : List VLabel) (x6 : Int) : TS EE.T := ⟨65, [(0, .a (.d (.sl (.nam 2)) x0)), (6, .a (.d (.int .i64) x6))], [], []⟩
def w69kL4 (c : Code) : List It2 := atL 4 c
def w69sL4 (x0 : List VLabel) (x1 : Bool) (x5 : Int) : TS EE.T := ⟨65, [(0, .a (.d (.sl (.nam 2)) x0)), (1, .a (.d .bool x1)), (5, .a (.d (.int .i64) x5))], [], []⟩
def w69kE0 (c : Code) : List It2 := [.c c]
def w69sE0 (x0 : List VLabel) (x1 : Bool) : TS EE.T := ⟨65, [(0, .a (.d (.sl (.nam 2)) x0)), (1, .a (.d .bool x1))], [], []⟩
def w69TR8 (c : Code) (N : Nat) (k4 : (List VLabel) → Bool → Int → Option Int) (n : Nat) (x0 : List VLabel) (x1 : Bool) (x5 : Int) : Tree (Lf EE.T × Option Int) :=
  .bnd (idxC x0 x5) fun z4 =>
  .cond (decide ((z4.Value.length : Int) > 100))
  (
    .leaf (.done (w69enc 2), some 2))
  (
    .leaf (.go (w69kL4 c) (w69sL4 x0 x1 (w64 (x5 + 1))), k4 x0 x1 (w64 (x5 + 1))))
theorem w69vR8 (N : Nat) (k4 : (List VLabel) → Bool → Int → Option Int) (n : Nat) (x0 : List VLabel) (x1 : Bool) (x5 : Int) : evM TT EE (w69G N) w69lv w69rs 4000 true (w69kR8 (bodyOf 0 Try.f69)) (w69sR8 x0 x1 x5) = (w69TR8 (bodyOf 0 Try.f69) N k4 n x0 x1 x5).map1 := by kernel_rfl
theorem w69nR8 (N : Nat) (k4 : (List VLabel) → Bool → Int → Option Int) (n : Nat) (x0 : List VLabel) (x1 : Bool) (x5 : Int) : ref_EachLabel_R8 N k4 n x0 x1 x5 = (w69TR8 (bodyOf 0 Try.f69) N k4 n x0 x1 x5).run := by kernel_rfl
theorem w69oR8 {N : Nat} {r : Int} {k4 : (List VLabel) → Bool → Int → Option Int} (hk4 : ∀ x0 x1 x5, k4 x0 x1 x5 = some r → Ends (Y := TT) EE (w69G N) w69lv w69rs (fun u => u = w69enc r) (w69kL4 (bodyOf 0 Try.f69)) (w69sL4 x0 x1 x5)) (n : Nat) (x0 : List VLabel) (x1 : Bool) (x5 : Int) (h : ref_EachLabel_R8 N k4 n x0 x1 x5 = some r) : Ends (Y := TT) EE (w69G N) w69lv w69rs (fun u => u = w69enc r) (w69kR8 (bodyOf 0 Try.f69)) (w69sR8 x0 x1 x5) :=
  tree_use (w69vR8 N k4 n x0 x1 x5) (w69nR8 N k4 n x0 x1 x5) h (show (w69TR8 (bodyOf 0 Try.f69) N k4 n x0 x1 x5).all _ from fun _ => ⟨retp (enc := w69enc) rfl, fun h => hk4 _ _ _ h⟩)
def w69TL14 (c : Code) (N : Nat) (k11 : (List VLabel) → Int → Option Int) (n : Nat) (x0 : List VLabel) (x6 : Int) (x7 : Int) : Tree (Lf EE.T × Option Int) :=
  .cond (decide (x7 < x6))
  (
    .bnd (idxC x0 x7) fun z5 =>
    .bnd (idxC x0 x6) fun z6 =>
    .cond (decide (z5.Name = z6.Name))
    (
      .leaf (.done (w69enc 6), some 6))
    (
      .leaf (.go (w69kL14 c) (w69sL14 x0 x6 (w64 (x7 + 1))), ref_EachLabel_L14 N k11 n x0 x6 (w64 (x7 + 1)))))
  (
    .leaf (.go (w69kL11 c) (w69sL11 x0 (w64 (x6 + 1))), k11 x0 (w64 (x6 + 1))))
theorem w69vL14 (N : Nat) (k11 : (List VLabel) → Int → Option Int) (n : Nat) (x0 : List VLabel) (x6 : Int) (x7 : Int) : evM TT EE (w69G N) w69lv w69rs 4000 true (w69kL14 (bodyOf 0 Try.f69)) (w69sL14 x0 x6 x7) = (w69TL14 (bodyOf 0 Try.f69) N k11 n x0 x6 x7).map1 := by kernel_rfl
theorem w69nL14 (N : Nat) (k11 : (List VLabel) → Int → Option Int) (n : Nat) (x0 : List VLabel) (x6 : Int) (x7 : Int) : ref_EachLabel_L14 N k11 (n + 1) x0 x6 x7 = (w69TL14 (bodyOf 0 Try.f69) N k11 n x0 x6 x7).run := by kernel_rfl
theorem w69oL14 {N : Nat} {r : Int} {k11 : (List VLabel) → Int → Option Int} (hk11 : ∀ x0 x6, k11 x0 x6 = some r → Ends (Y := TT) EE (w69G N) w69lv w69rs (fun u => u = w69enc r) (w69kL11 (bodyOf 0 Try.f69)) (w69sL11 x0 x6)) : ∀ (n : Nat) (x0 : List VLabel) (x6 : Int) (x7 : Int), ref_EachLabel_L14 N k11 n x0 x6 x7 = some r → Ends (Y := TT) EE (w69G N) w69lv w69rs (fun u => u = w69enc r) (w69kL14 (bodyOf 0 Try.f69)) (w69sL14 x0 x6 x7)
  | 0, _, _, _, h => by cases h
  | n + 1, x0, x6, x7, h => tree_use (w69vL14 N k11 n x0 x6 x7) (w69nL14 N k11 n x0 x6 x7) h (show (w69TL14 (bodyOf 0 Try.f69) N k11 n x0 x6 x7).all _ from ⟨fun _ => fun _ => ⟨retp (enc := w69enc) rfl, fun h => (w69oL14 hk11 n) _ _ _ h⟩, fun h => hk11 _ _ h⟩)
def w69TL11 (c : Code) (N : Nat) (n : Nat) (x0 : List VLabel) (x6 : Int) : Tree (Lf EE.T × Option Int) :=
  .cond (decide (x6 < (x0.length : Int)))
  (
    .leaf (.go (w69kL14 c) (w69sL14 x0 x6 0), ref_EachLabel_L14 N (ref_EachLabel_L11 N n) n x0 x6 0))
  (
    .leaf (.done (w69enc 0), some 0))
theorem w69vL11 (N : Nat) (n : Nat) (x0 : List VLabel) (x6 : Int) : evM TT EE (w69G N) w69lv w69rs 4000 true (w69kL11 (bodyOf 0 Try.f69)) (w69sL11 x0 x6) = (w69TL11 (bodyOf 0 Try.f69) N n x0 x6).map1 := by kernel_rfl
theorem w69nL11 (N : Nat) (n : Nat) (x0 : List VLabel) (x6 : Int) : ref_EachLabel_L11 N (n + 1) x0 x6 = (w69TL11 (bodyOf 0 Try.f69) N n x0 x6).run := by kernel_rfl
theorem w69oL11 {N : Nat} {r : Int} : ∀ (n : Nat) (x0 : List VLabel) (x6 : Int), ref_EachLabel_L11 N n x0 x6 = some r → Ends (Y := TT) EE (w69G N) w69lv w69rs (fun u => u = w69enc r) (w69kL11 (bodyOf 0 Try.f69)) (w69sL11 x0 x6)
  | 0, _, _, h => by cases h
  | n + 1, x0, x6, h => tree_use (w69vL11 N n x0 x6) (w69nL11 N n x0 x6) h (show (w69TL11 (bodyOf 0 Try.f69) N n x0 x6).all _ from ⟨fun h => w69oL14 (w69oL11 n) n _ _ _ h, retp (enc := w69enc) rfl⟩)
def w69TL4 (c : Code) (N : Nat) (n : Nat) (x0 : List VLabel) (x1 : Bool) (x5 : Int) : Tree (Lf EE.T × Option Int) :=
  .cond (decide (x5 < (x0.length : Int)))
  (
    .bnd (idxC x0 x5) fun z1 =>
    .bnd (ref_IsName N z1.Name) fun z2 =>
    .cond (!z2)
    (
      .leaf (.done (w69enc 1), some 1))
    (
      .bnd (idxC x0 x5) fun z3 =>
      .cond (decide (z3.Value = ([] : List UInt8)))
      (
        .cond (!x1)
        (
          .leaf (.done (w69enc 1), some 1))
        (
          .leaf (.go (w69kR8 c) (w69sR8 x0 x1 x5), ref_EachLabel_R8 N (ref_EachLabel_L4 N n) n x0 x1 x5)))
      (
        .leaf (.go (w69kR8 c) (w69sR8 x0 x1 x5), ref_EachLabel_R8 N (ref_EachLabel_L4 N n) n x0 x1 x5))))
  (
    .leaf (.go (w69kL11 c) (w69sL11 x0 0), ref_EachLabel_L11 N n x0 0))
theorem w69vL4 (N : Nat) (n : Nat) (x0 : List VLabel) (x1 : Bool) (x5 : Int) : evM TT EE (w69G N) w69lv w69rs 4000 true (w69kL4 (bodyOf 0 Try.f69)) (w69sL4 x0 x1 x5) = (w69TL4 (bodyOf 0 Try.f69) N n x0 x1 x5).map1 := by kernel_rfl
theorem w69nL4 (N : Nat) (n : Nat) (x0 : List VLabel) (x1 : Bool) (x5 : Int) : ref_EachLabel_L4 N (n + 1) x0 x1 x5 = (w69TL4 (bodyOf 0 Try.f69) N n x0 x1 x5).run := by kernel_rfl
theorem w69oL4 {N : Nat} {r : Int} : ∀ (n : Nat) (x0 : List VLabel) (x1 : Bool) (x5 : Int), ref_EachLabel_L4 N n x0 x1 x5 = some r → Ends (Y := TT) EE (w69G N) w69lv w69rs (fun u => u = w69enc r) (w69kL4 (bodyOf 0 Try.f69)) (w69sL4 x0 x1 x5)
  | 0, _, _, _, h => by cases h
  | n + 1, x0, x1, x5, h => tree_use (w69vL4 N n x0 x1 x5) (w69nL4 N n x0 x1 x5) h (show (w69TL4 (bodyOf 0 Try.f69) N n x0 x1 x5).all _ from ⟨fun _ => fun _ => ⟨retp (enc := w69enc) rfl, fun _ => ⟨⟨retp (enc := w69enc) rfl, fun h => w69oR8 (w69oL4 n) n _ _ _ h⟩, fun h => w69oR8 (w69oL4 n) n _ _ _ h⟩⟩, fun h => w69oL11 n _ _ h⟩)
def w69TE0 (c : Code) (N : Nat) (x0 : List VLabel) (x1 : Bool) : Tree (Lf EE.T × Option Int) :=
  .cond (decide ((x0.length : Int) > 20))
  (
    .leaf (.done (w69enc 2), some 2))
  (
    .leaf (.go (w69kL4 c) (w69sL4 x0 x1 0), ref_EachLabel_L4 N N x0 x1 0))
theorem w69vE0 (N : Nat) (x0 : List VLabel) (x1 : Bool) : evM TT EE (w69G N) w69lv w69rs 4000 true (w69kE0 (bodyOf 0 Try.f69)) (w69sE0 x0 x1) = (w69TE0 (bodyOf 0 Try.f69) N x0 x1).map1 := by kernel_rfl
theorem w69nE0 (N : Nat) (x0 : List VLabel) (x1 : Bool) : ref_EachLabel N x0 x1 = (w69TE0 (bodyOf 0 Try.f69) N x0 x1).run := by kernel_rfl
theorem w69oE0 {N : Nat} {r : Int} (x0 : List VLabel) (x1 : Bool) (h : ref_EachLabel N x0 x1 = some r) : Ends (Y := TT) EE (w69G N) w69lv w69rs (fun u => u = w69enc r) (w69kE0 (bodyOf 0 Try.f69)) (w69sE0 x0 x1) :=
  tree_use (w69vE0 N x0 x1) (w69nE0 N x0 x1) h (show (w69TE0 (bodyOf 0 Try.f69) N x0 x1).all _ from ⟨retp (enc := w69enc) rfl, fun h => w69oL4 N _ _ _ h⟩)
theorem ref_EachLabel_ok {N : Nat} (x0 : List VLabel) (x1 : Bool) {r : Int} (h : ref_EachLabel N x0 x1 = some r) (ρ : Nat → Nat) : ACalls Try.prog 69 (([.a (.d (.sl (.nam 2)) x0), .a (.d .bool x1)] : List (TV EE.T)).map (TV.to EE.toEnc ρ)) [] (fun out H => out = .ret ((ref_EachLabel_u r).to EE.toEnc ρ) ∧ H = []) :=
  (fn_ok (bodyOf 0 Try.f69) 65 mixed (w69Gok N) Try.func69 (by kernel_rfl) rfl rfl rfl rfl (w69oE0 x0 x1 h) ρ).mono fun out H h => KPost.ret rfl h
def ref_EachLabel_h (N : Nat) : List (TV EE.T) → PV EE.T
  | [u0, u1] => match argD (.sl (.nam 2)) u0, argD .bool u1 with
    | some x0, some x1 => .opt (ref_EachLabel N x0 x1) ref_EachLabel_u
    | _, _ => .bad
  | _ => .bad
theorem ref_EachLabel_hok (N : Nat) (us : List (TV EE.T)) : (ref_EachLabel_h N us).ok fun u => ∀ ρ, ACalls Try.prog 69 (us.map (TV.to EE.toEnc ρ)) [] (fun out H => out = .ret (u.to EE.toEnc ρ) ∧ H = []) := by
  unfold ref_EachLabel_h
  split
  · split
    · rename_i h0 h1
      intro z hz ρ; refine acalls_le ?_ (ref_EachLabel_ok _ _ hz ρ); exact ⟨argD_le h0 ρ, argD_le h1 ρ, trivial⟩
    · trivial
  · trivial
/-! ### gleaner/gleanerref.CheckLabels -/
def ref_CheckLabels_u (r : Int) : TV EE.T := .a (.d (.int .i64) r)
def w37enc (r : Int) : RL EE.T := .ret (ref_CheckLabels_u r) []
def w37lv : Lvs := ⟨[(4, ⟨[(0, false), (3, false), (4, false)], [], []⟩), (5, ⟨[(0, false), (3, false), (4, false)], [], []⟩)], [(3, ⟨[(0, false), (3, false), (4, false)], [], []⟩)], [4], [], false, [], []⟩
def w37rs : List ResultVar := [.tmp 2]
def w37G (N : Nat) : Gam EE := ⟨[⟨69, ref_EachLabel_h N⟩], EQT, []⟩
theorem w37Gok (N : Nat) : GOk Try.prog TT EE (w37G N) := GOk.cons (ref_EachLabel_hok N) (GOk.nil EQT_ok)
def w37kR4 (c : Code) : List It2 := atR 4 c
def w37sR4 (x0 : List VLabel) (x3 : Int) (x4 : Int) : TS EE.T := ⟨30, [(0, .a (.d (.sl (.nam 2)) x0)), (3, .a (.d (.int .i64) x3)), (4, .a (.d (.int .i64) x4))], [], []⟩
def w37kL3 (c : Code) : List It2 := atL 3 c
def w37sL3 (x0 : List VLabel) (x3 : Int) (x4 : Int) : TS EE.T := ⟨30, [(0, .a (.d (.sl (.nam 2)) x0)), (3, .a (.d (.int .i64) x3)), (4, .a (.d (.int .i64) x4))], [], []⟩
def w37kE0 (c : Code) : List It2 := [.c c]
def w37sE0 (x0 : List VLabel) : TS EE.T := ⟨30, [(0, .a (.d (.sl (.nam 2)) x0))], [], []⟩
def w37TR4 (c : Code) (N : Nat) (k3 : (List VLabel) → Int → Int → Option Int) (n : Nat) (x0 : List VLabel) (x3 : Int) (x4 : Int) : Tree (Lf EE.T × Option Int) :=
  .leaf (.go (w37kL3 c) (w37sL3 x0 x3 (w64 (x4 + 1))), k3 x0 x3 (w64 (x4 + 1)))
theorem w37vR4 (N : Nat) (k3 : (List VLabel) → Int → Int → Option Int) (n : Nat) (x0 : List VLabel) (x3 : Int) (x4 : Int) : evM TT EE (w37G N) w37lv w37rs 4000 true (w37kR4 (bodyOf 0 Try.f37)) (w37sR4 x0 x3 x4) = (w37TR4 (bodyOf 0 Try.f37) N k3 n x0 x3 x4).map1 := by kernel_rfl
theorem w37nR4 (N : Nat) (k3 : (List VLabel) → Int → Int → Option Int) (n : Nat) (x0 : List VLabel) (x3 : Int) (x4 : Int) : ref_CheckLabels_R4 N k3 n x0 x3 x4 = (w37TR4 (bodyOf 0 Try.f37) N k3 n x0 x3 x4).run := by kernel_rfl
theorem w37oR4 {N : Nat} {r : Int} {k3 : (List VLabel) → Int → Int → Option Int} (hk3 : ∀ x0 x3 x4, k3 x0 x3 x4 = some r → Ends (Y := TT) EE (w37G N) w37lv w37rs (fun u => u = w37enc r) (w37kL3 (bodyOf 0 Try.f37)) (w37sL3 x0 x3 x4)) (n : Nat) (x0 : List VLabel) (x3 : Int) (x4 : Int) (h : ref_CheckLabels_R4 N k3 n x0 x3 x4 = some r) : Ends (Y := TT) EE (w37G N) w37lv w37rs (fun u => u = w37enc r) (w37kR4 (bodyOf 0 Try.f37)) (w37sR4 x0 x3 x4) :=
  tree_use (w37vR4 N k3 n x0 x3 x4) (w37nR4 N k3 n x0 x3 x4) h (show (w37TR4 (bodyOf 0 Try.f37) N k3 n x0 x3 x4).all _ from fun h => hk3 _ _ _ h)
def w37TL3 (c : Code) (N : Nat) (n : Nat) (x0 : List VLabel) (x3 : Int) (x4 : Int) : Tree (Lf EE.T × Option Int) :=
  .cond (decide (x4 < (x0.length : Int)))
  (
    .cond (x3 == 0)
    (
      .bnd (idxC x0 x4) fun z2 =>
      .bnd (idxC x0 (w64 (x4 - 1))) fun z3 =>
      .cond (Op.bytesLess z2.Name z3.Name)
      (
        .leaf (.go (w37kR4 c) (w37sR4 x0 4 x4), ref_CheckLabels_R4 N (ref_CheckLabels_L3 N n) n x0 4 x4))
      (
        .leaf (.go (w37kR4 c) (w37sR4 x0 x3 x4), ref_CheckLabels_R4 N (ref_CheckLabels_L3 N n) n x0 x3 x4)))
    (
      .leaf (.done (w37enc x3), some x3)))
  (
    .leaf (.done (w37enc x3), some x3))
theorem w37vL3 (N : Nat) (n : Nat) (x0 : List VLabel) (x3 : Int) (x4 : Int) : evM TT EE (w37G N) w37lv w37rs 4000 true (w37kL3 (bodyOf 0 Try.f37)) (w37sL3 x0 x3 x4) = (w37TL3 (bodyOf 0 Try.f37) N n x0 x3 x4).map1 := by kernel_rfl
theorem w37nL3 (N : Nat) (n : Nat) (x0 : List VLabel) (x3 : Int) (x4 : Int) : ref_CheckLabels_L3 N (n + 1) x0 x3 x4 = (w37TL3 (bodyOf 0 Try.f37) N n x0 x3 x4).run := by kernel_rfl
theorem w37oL3 {N : Nat} {r : Int} : ∀ (n : Nat) (x0 : List VLabel) (x3 : Int) (x4 : Int), ref_CheckLabels_L3 N n x0 x3 x4 = some r → Ends (Y := TT) EE (w37G N) w37lv w37rs (fun u => u = w37enc r) (w37kL3 (bodyOf 0 Try.f37)) (w37sL3 x0 x3 x4)
  | 0, _, _, _, h => by cases h
  | n + 1, x0, x3, x4, h => tree_use (w37vL3 N n x0 x3 x4) (w37nL3 N n x0 x3 x4) h (show (w37TL3 (bodyOf 0 Try.f37) N n x0 x3 x4).all _ from ⟨⟨fun _ => fun _ => ⟨fun h => w37oR4 (w37oL3 n) n _ _ _ h, fun h => w37oR4 (w37oL3 n) n _ _ _ h⟩, retp (enc := w37enc) rfl⟩, retp (enc := w37enc) rfl⟩)
def w37TE0 (c : Code) (N : Nat) (x0 : List VLabel) : Tree (Lf EE.T × Option Int) :=
  .bnd (ref_EachLabel N x0 false) fun z1 =>
  .leaf (.go (w37kL3 c) (w37sL3 x0 z1 1), ref_CheckLabels_L3 N N x0 z1 1)
theorem w37vE0 (N : Nat) (x0 : List VLabel) : evM TT EE (w37G N) w37lv w37rs 4000 true (w37kE0 (bodyOf 0 Try.f37)) (w37sE0 x0) = (w37TE0 (bodyOf 0 Try.f37) N x0).map1 := by kernel_rfl
theorem w37nE0 (N : Nat) (x0 : List VLabel) : ref_CheckLabels N x0 = (w37TE0 (bodyOf 0 Try.f37) N x0).run := by kernel_rfl
theorem w37oE0 {N : Nat} {r : Int} (x0 : List VLabel) (h : ref_CheckLabels N x0 = some r) : Ends (Y := TT) EE (w37G N) w37lv w37rs (fun u => u = w37enc r) (w37kE0 (bodyOf 0 Try.f37)) (w37sE0 x0) :=
  tree_use (w37vE0 N x0) (w37nE0 N x0) h (show (w37TE0 (bodyOf 0 Try.f37) N x0).all _ from fun _ => fun h => w37oL3 N _ _ _ h)
theorem ref_CheckLabels_ok {N : Nat} (x0 : List VLabel) {r : Int} (h : ref_CheckLabels N x0 = some r) (ρ : Nat → Nat) : ACalls Try.prog 37 (([.a (.d (.sl (.nam 2)) x0)] : List (TV EE.T)).map (TV.to EE.toEnc ρ)) [] (fun out H => out = .ret ((ref_CheckLabels_u r).to EE.toEnc ρ) ∧ H = []) :=
  (fn_ok (bodyOf 0 Try.f37) 30 mixed (w37Gok N) Try.func37 (by kernel_rfl) rfl rfl rfl rfl (w37oE0 x0 h) ρ).mono fun out H h => KPost.ret rfl h
def ref_CheckLabels_h (N : Nat) : List (TV EE.T) → PV EE.T
  | [u0] => match argD (.sl (.nam 2)) u0 with
    | some x0 => .opt (ref_CheckLabels N x0) ref_CheckLabels_u
    | _ => .bad
  | _ => .bad
theorem ref_CheckLabels_hok (N : Nat) (us : List (TV EE.T)) : (ref_CheckLabels_h N us).ok fun u => ∀ ρ, ACalls Try.prog 37 (us.map (TV.to EE.toEnc ρ)) [] (fun out H => out = .ret (u.to EE.toEnc ρ) ∧ H = []) := by
  unfold ref_CheckLabels_h
  split
  · split
    · rename_i h0
      intro z hz ρ; refine acalls_le ?_ (ref_CheckLabels_ok _ hz ρ); exact ⟨argD_le h0 ρ, trivial⟩
    · trivial
  · trivial
/-! ### gleaner/gleanerref.CheckItem -/
def ref_CheckItem_u (r : Int) : TV EE.T := .a (.d (.int .i64) r)
def w25enc (r : Int) : RL EE.T := .ret (ref_CheckItem_u r) []
def w25lv : Lvs := ⟨[], [], [], [], false, [], []⟩
def w25rs : List ResultVar := [.tmp 2]
def w25G (N : Nat) : Gam EE := ⟨[⟨37, ref_CheckLabels_h N⟩, ⟨46, ref_IsTime_h N⟩], EQT, []⟩
theorem w25Gok (N : Nat) : GOk Try.prog TT EE (w25G N) := GOk.cons (ref_CheckLabels_hok N) (GOk.cons (ref_IsTime_hok N) (GOk.nil EQT_ok))
def w25kE0 (c : Code) : List It2 := [.c c]
def w25sE0 (x0 : VItem) : TS EE.T := ⟨16, [(0, .ag (unpT EE (.nam 7) x0))], [], []⟩
def w25TE0 (c : Code) (N : Nat) (x0 : VItem) : Tree (Lf EE.T × Option Int) :=
  .cond (decide (x0.Number < 0))
  (
    .leaf (.done (w25enc 3), some 3))
  (
    .bnd (ref_IsTime N x0.Sample.Time) fun z1 =>
    .cond (!z1)
    (
      .leaf (.done (w25enc 3), some 3))
    (
      .bnd (ref_CheckLabels N x0.Labels) fun z2 =>
      .leaf (.done (w25enc z2), some z2)))
theorem w25vE0 (N : Nat) (x0 : VItem) : evM TT EE (w25G N) w25lv w25rs 4000 true (w25kE0 (bodyOf 0 Try.f25)) (w25sE0 x0) = (w25TE0 (bodyOf 0 Try.f25) N x0).map1 := by kernel_rfl
theorem w25nE0 (N : Nat) (x0 : VItem) : ref_CheckItem N x0 = (w25TE0 (bodyOf 0 Try.f25) N x0).run := by kernel_rfl
theorem w25oE0 {N : Nat} {r : Int} (x0 : VItem) (h : ref_CheckItem N x0 = some r) : Ends (Y := TT) EE (w25G N) w25lv w25rs (fun u => u = w25enc r) (w25kE0 (bodyOf 0 Try.f25)) (w25sE0 x0) :=
  tree_use (w25vE0 N x0) (w25nE0 N x0) h (show (w25TE0 (bodyOf 0 Try.f25) N x0).all _ from ⟨retp (enc := w25enc) rfl, fun _ => ⟨retp (enc := w25enc) rfl, fun _ => retp (enc := w25enc) rfl⟩⟩)
theorem ref_CheckItem_ok {N : Nat} (x0 : VItem) {r : Int} (h : ref_CheckItem N x0 = some r) (ρ : Nat → Nat) : ACalls Try.prog 25 (([.ag (unpT EE (.nam 7) x0)] : List (TV EE.T)).map (TV.to EE.toEnc ρ)) [] (fun out H => out = .ret ((ref_CheckItem_u r).to EE.toEnc ρ) ∧ H = []) :=
  (fn_ok (bodyOf 0 Try.f25) 16 mixed (w25Gok N) Try.func25 (by kernel_rfl) rfl rfl rfl rfl (w25oE0 x0 h) ρ).mono fun out H h => KPost.ret rfl h
def ref_CheckItem_h (N : Nat) : List (TV EE.T) → PV EE.T
  | [u0] => match argS EE 7 u0 with
    | some x0 => .opt (ref_CheckItem N x0) ref_CheckItem_u
    | _ => .bad
  | _ => .bad
theorem ref_CheckItem_hok (N : Nat) (us : List (TV EE.T)) : (ref_CheckItem_h N us).ok fun u => ∀ ρ, ACalls Try.prog 25 (us.map (TV.to EE.toEnc ρ)) [] (fun out H => out = .ret (u.to EE.toEnc ρ) ∧ H = []) := by
  unfold ref_CheckItem_h
  split
  · split
    · rename_i h0
      intro z hz ρ; refine acalls_le ?_ (ref_CheckItem_ok _ hz ρ); exact ⟨argS_le h0 ρ, trivial⟩
    · trivial
  · trivial
/-! ### gleaner/gleanerref.CheckShard -/
def ref_CheckShard_u (r : Int) : TV EE.T := .a (.d (.int .i64) r)
def w23enc (r : Int) : RL EE.T := .ret (ref_CheckShard_u r) []
def w23lv : Lvs := ⟨[(3, ⟨[], [], []⟩), (4, ⟨[(1, false)], [], [(1, (some 8, []))]⟩), (15, ⟨[(1, false), (6, false)], [], [(1, (some 8, []))]⟩)], [(7, ⟨[(1, false), (4, false)], [], [(1, (some 8, []))]⟩), (13, ⟨[(1, false), (6, false)], [], [(1, (some 8, []))]⟩)], [3, 4], [], false, [], []⟩
def w23rs : List ResultVar := [.tmp 2]
def w23G (N : Nat) : Gam EE := ⟨[⟨25, ref_CheckItem_h N⟩, ⟨46, ref_IsTime_h N⟩], EQT, [⟨57, xOf (ref_CheckShard_1_h N)⟩]⟩
theorem w23Gok (N : Nat) : GOk Try.prog TT EE (w23G N) := GOk.cons (ref_CheckItem_hok N) (GOk.cons (ref_IsTime_hok N) (GOk.consx (xOf_ok (ref_CheckShard_1_hok N)) (GOk.nil EQT_ok)))
def w23kR3 (c : Code) : List It2 := atR 3 c
def w23sR3 : TS EE.T := ⟨98, [], [], []⟩
def w23kL13 (c : Code) : List It2 := atL 13 c
def w23sL13 (x6 : Int) (b1 : VShard) : TS EE.T := ⟨98, [(1, .a (.box 1 0)), (6, .a (.d (.int .i64) x6))], [(1, .cs (unpT EE (.nam 8) b1))], []⟩
def w23kL7 (c : Code) : List It2 := atL 7 c
def w23sL7 (x4 : Int) (b1 : VShard) : TS EE.T := ⟨98, [(1, .a (.box 1 0)), (4, .a (.d (.int .i64) x4))], [(1, .cs (unpT EE (.nam 8) b1))], []⟩
def w23kR4 (c : Code) : List It2 := atR 4 c
def w23sR4 (b1 : VShard) : TS EE.T := ⟨98, [(1, .a (.box 1 0))], [(1, .cs (unpT EE (.nam 8) b1))], []⟩
def w23kE0 (c : Code) : List It2 := [.c c]
def w23sE0 (x0 : VShard) : TS EE.T := ⟨98, [(0, .ag (unpT EE (.nam 8) x0))], [], []⟩
def w23TR3 (c : Code) (N : Nat) (n : Nat) : Tree (Lf EE.T × Option Int) :=
  .leaf (.done (w23enc 3), some 3)
theorem w23vR3 (N : Nat) (n : Nat) : evM TT EE (w23G N) w23lv w23rs 4000 true (w23kR3 (bodyOf 0 Try.f23)) (w23sR3) = (w23TR3 (bodyOf 0 Try.f23) N n).map1 := by kernel_rfl
theorem w23nR3 (N : Nat) (n : Nat) : ref_CheckShard_R3 N n = (w23TR3 (bodyOf 0 Try.f23) N n).run := by kernel_rfl
theorem w23oR3 {N : Nat} {r : Int} (n : Nat) (h : ref_CheckShard_R3 N n = some r) : Ends (Y := TT) EE (w23G N) w23lv w23rs (fun u => u = w23enc r) (w23kR3 (bodyOf 0 Try.f23)) (w23sR3) :=
  tree_use (w23vR3 N n) (w23nR3 N n) h (show (w23TR3 (bodyOf 0 Try.f23) N n).all _ from retp (enc := w23enc) rfl)
def w23TL13 (c : Code) (N : Nat) (n : Nat) (x6 : Int) (b1 : VShard) : Tree (Lf EE.T × Option Int) :=
  .cond (decide (x6 < (b1.Items.length : Int)))
  (
    .bnd (idxC b1.Items x6) fun z9 =>
    .bnd (idxC b1.Items (w64 (x6 - 1))) fun z10 =>
    .cond (decide (z9.Number ≤ z10.Number))
    (
      .leaf (.done (w23enc 4), some 4))
    (
      .leaf (.go (w23kL13 c) (w23sL13 (w64 (x6 + 1)) b1), ref_CheckShard_L13 N n (w64 (x6 + 1)) b1)))
  (
    .leaf (.done (w23enc 0), some 0))
theorem w23vL13 (N : Nat) (n : Nat) (x6 : Int) (b1 : VShard) : evM TT EE (w23G N) w23lv w23rs 4000 true (w23kL13 (bodyOf 0 Try.f23)) (w23sL13 x6 b1) = (w23TL13 (bodyOf 0 Try.f23) N n x6 b1).map1 := by kernel_rfl
theorem w23nL13 (N : Nat) (n : Nat) (x6 : Int) (b1 : VShard) : ref_CheckShard_L13 N (n + 1) x6 b1 = (w23TL13 (bodyOf 0 Try.f23) N n x6 b1).run := by kernel_rfl
theorem w23oL13 {N : Nat} {r : Int} : ∀ (n : Nat) (x6 : Int) (b1 : VShard), ref_CheckShard_L13 N n x6 b1 = some r → Ends (Y := TT) EE (w23G N) w23lv w23rs (fun u => u = w23enc r) (w23kL13 (bodyOf 0 Try.f23)) (w23sL13 x6 b1)
  | 0, _, _, h => by cases h
  | n + 1, x6, b1, h => tree_use (w23vL13 N n x6 b1) (w23nL13 N n x6 b1) h (show (w23TL13 (bodyOf 0 Try.f23) N n x6 b1).all _ from ⟨fun _ => fun _ => ⟨retp (enc := w23enc) rfl, fun h => (w23oL13 n) _ _ h⟩, retp (enc := w23enc) rfl⟩)
def w23TL7 (c : Code) (N : Nat) (n : Nat) (x4 : Int) (b1 : VShard) : Tree (Lf EE.T × Option Int) :=
  .cond (decide (x4 < (b1.Items.length : Int)))
  (
    .bnd (idxC b1.Items x4) fun z7 =>
    .bnd (ref_CheckItem N z7) fun z8 =>
    .cond (z8 != 0)
    (
      .leaf (.done (w23enc z8), some z8))
    (
      .leaf (.go (w23kL7 c) (w23sL7 (w64 (x4 + 1)) b1), ref_CheckShard_L7 N n (w64 (x4 + 1)) b1)))
  (
    .leaf (.go (w23kL13 c) (w23sL13 1 b1), ref_CheckShard_L13 N n 1 b1))
theorem w23vL7 (N : Nat) (n : Nat) (x4 : Int) (b1 : VShard) : evM TT EE (w23G N) w23lv w23rs 4000 true (w23kL7 (bodyOf 0 Try.f23)) (w23sL7 x4 b1) = (w23TL7 (bodyOf 0 Try.f23) N n x4 b1).map1 := by kernel_rfl
theorem w23nL7 (N : Nat) (n : Nat) (x4 : Int) (b1 : VShard) : ref_CheckShard_L7 N (n + 1) x4 b1 = (w23TL7 (bodyOf 0 Try.f23) N n x4 b1).run := by kernel_rfl
theorem w23oL7 {N : Nat} {r : Int} : ∀ (n : Nat) (x4 : Int) (b1 : VShard), ref_CheckShard_L7 N n x4 b1 = some r → Ends (Y := TT) EE (w23G N) w23lv w23rs (fun u => u = w23enc r) (w23kL7 (bodyOf 0 Try.f23)) (w23sL7 x4 b1)
  | 0, _, _, h => by cases h
  | n + 1, x4, b1, h => tree_use (w23vL7 N n x4 b1) (w23nL7 N n x4 b1) h (show (w23TL7 (bodyOf 0 Try.f23) N n x4 b1).all _ from ⟨fun _ => fun _ => ⟨retp (enc := w23enc) rfl, fun h => (w23oL7 n) _ _ h⟩, fun h => w23oL13 n _ _ h⟩)
def w23TR4 (c : Code) (N : Nat) (n : Nat) (b1 : VShard) : Tree (Lf EE.T × Option Int) :=
  .cond (decide ((b1.Items.length : Int) > b1.Room))
  (
    .leaf (.done (w23enc 2), some 2))
  (
    .leaf (.go (w23kL7 c) (w23sL7 0 b1), ref_CheckShard_L7 N n 0 b1))
theorem w23vR4 (N : Nat) (n : Nat) (b1 : VShard) : evM TT EE (w23G N) w23lv w23rs 4000 true (w23kR4 (bodyOf 0 Try.f23)) (w23sR4 b1) = (w23TR4 (bodyOf 0 Try.f23) N n b1).map1 := by kernel_rfl
theorem w23nR4 (N : Nat) (n : Nat) (b1 : VShard) : ref_CheckShard_R4 N n b1 = (w23TR4 (bodyOf 0 Try.f23) N n b1).run := by kernel_rfl
theorem w23oR4 {N : Nat} {r : Int} (n : Nat) (b1 : VShard) (h : ref_CheckShard_R4 N n b1 = some r) : Ends (Y := TT) EE (w23G N) w23lv w23rs (fun u => u = w23enc r) (w23kR4 (bodyOf 0 Try.f23)) (w23sR4 b1) :=
  tree_use (w23vR4 N n b1) (w23nR4 N n b1) h (show (w23TR4 (bodyOf 0 Try.f23) N n b1).all _ from ⟨retp (enc := w23enc) rfl, fun h => w23oL7 n _ _ h⟩)
def w23TE0 (c : Code) (N : Nat) (x0 : VShard) : Tree (Lf EE.T × Option Int) :=
  .bnd (ref_CheckShard_1 N x0.Batch 1 200) fun z1 =>
  .cond (!z1)
  (
    .leaf (.go (w23kR3 c) (w23sR3), ref_CheckShard_R3 N N))
  (
    .bnd (ref_CheckShard_1 N x0.Room 1 100) fun z2 =>
    .cond (!z2)
    (
      .leaf (.go (w23kR3 c) (w23sR3), ref_CheckShard_R3 N N))
    (
      .bnd (ref_CheckShard_1 N x0.First 1 x0.Most) fun z3 =>
      .cond (!z3)
      (
        .leaf (.go (w23kR3 c) (w23sR3), ref_CheckShard_R3 N N))
      (
        .cond (decide (x0.Most > 100000))
        (
          .leaf (.go (w23kR3 c) (w23sR3), ref_CheckShard_R3 N N))
        (
          .cond (x0.Waits != 0)
          (
            .bnd (ref_CheckShard_1 N x0.Waits x0.First x0.Most) fun z4 =>
            .cond (!z4)
            (
              .leaf (.go (w23kR3 c) (w23sR3), ref_CheckShard_R3 N N))
            (
              .bnd (ref_IsTime N x0.Till) fun z5 =>
              .cond (!z5)
              (
                .leaf (.go (w23kR3 c) (w23sR3), ref_CheckShard_R3 N N))
              (
                .leaf (.go (w23kR4 c) (w23sR4 x0), ref_CheckShard_R4 N N x0))))
          (
            .bnd (ref_IsTime N x0.Till) fun z6 =>
            .cond (!z6)
            (
              .leaf (.go (w23kR3 c) (w23sR3), ref_CheckShard_R3 N N))
            (
              .leaf (.go (w23kR4 c) (w23sR4 x0), ref_CheckShard_R4 N N x0)))))))
theorem w23vE0 (N : Nat) (x0 : VShard) : evM TT EE (w23G N) w23lv w23rs 4000 true (w23kE0 (bodyOf 0 Try.f23)) (w23sE0 x0) = (w23TE0 (bodyOf 0 Try.f23) N x0).map1 := by kernel_rfl
theorem w23nE0 (N : Nat) (x0 : VShard) : ref_CheckShard N x0 = (w23TE0 (bodyOf 0 Try.f23) N x0).run := by kernel_rfl
theorem w23oE0 {N : Nat} {r : Int} (x0 : VShard) (h : ref_CheckShard N x0 = some r) : Ends (Y := TT) EE (w23G N) w23lv w23rs (fun u => u = w23enc r) (w23kE0 (bodyOf 0 Try.f23)) (w23sE0 x0) :=
  tree_use (w23vE0 N x0) (w23nE0 N x0) h (show (w23TE0 (bodyOf 0 Try.f23) N x0).all _ from fun _ => ⟨fun h => w23oR3 N h, fun _ => ⟨fun h => w23oR3 N h, fun _ => ⟨fun h => w23oR3 N h, ⟨fun h => w23oR3 N h, ⟨fun _ => ⟨fun h => w23oR3 N h, fun _ => ⟨fun h => w23oR3 N h, fun h => w23oR4 N _ h⟩⟩, fun _ => ⟨fun h => w23oR3 N h, fun h => w23oR4 N _ h⟩⟩⟩⟩⟩⟩)
theorem ref_CheckShard_ok {N : Nat} (x0 : VShard) {r : Int} (h : ref_CheckShard N x0 = some r) (ρ : Nat → Nat) : ACalls Try.prog 23 (([.ag (unpT EE (.nam 8) x0)] : List (TV EE.T)).map (TV.to EE.toEnc ρ)) [] (fun out H => out = .ret ((ref_CheckShard_u r).to EE.toEnc ρ) ∧ H = []) :=
  (fn_ok (bodyOf 0 Try.f23) 98 mixed (w23Gok N) Try.func23 (by kernel_rfl) rfl rfl rfl rfl (w23oE0 x0 h) ρ).mono fun out H h => KPost.ret rfl h
def ref_CheckShard_h (N : Nat) : List (TV EE.T) → PV EE.T
  | [u0] => match argS EE 8 u0 with
    | some x0 => .opt (ref_CheckShard N x0) ref_CheckShard_u
    | _ => .bad
  | _ => .bad
theorem ref_CheckShard_hok (N : Nat) (us : List (TV EE.T)) : (ref_CheckShard_h N us).ok fun u => ∀ ρ, ACalls Try.prog 23 (us.map (TV.to EE.toEnc ρ)) [] (fun out H => out = .ret (u.to EE.toEnc ρ) ∧ H = []) := by
  unfold ref_CheckShard_h
  split
  · split
    · rename_i h0
      intro z hz ρ; refine acalls_le ?_ (ref_CheckShard_ok _ hz ρ); exact ⟨argS_le h0 ρ, trivial⟩
    · trivial
  · trivial
/-! ### gleaner/gleanerlaw.ShardChecks -/
def law_ShardChecks_u (r : Bool) : TV EE.T := .a (.d .bool r)
def w6enc (r : Bool) : RL EE.T := .ret (law_ShardChecks_u r) []
def w6lv : Lvs := ⟨[(1, ⟨[(1, false)], [], [(1, (some 8, []))]⟩)], [], [], [], false, [], []⟩
def w6rs : List ResultVar := [.tmp 2]
def w6G (N : Nat) : Gam EE := ⟨[⟨21, law_shardBegun_h N⟩, ⟨23, ref_CheckShard_h N⟩, ⟨22, shard_Check_h N⟩], EQT, []⟩
theorem w6Gok (N : Nat) : GOk Try.prog TT EE (w6G N) := GOk.cons (law_shardBegun_hok N) (GOk.cons (ref_CheckShard_hok N) (GOk.cons (shard_Check_hok N) (GOk.nil EQT_ok)))
def w6kE0 (c : Code) : List It2 := [.c c]
def w6sE0 (x0 : VShard) : TS EE.T := ⟨11, [(0, .ag (unpT EE (.nam 8) x0))], [], []⟩
def w6TE0 (c : Code) (N : Nat) (x0 : VShard) : Tree (Lf EE.T × Option Bool) :=
  .bnd (law_shardBegun N) fun z1 =>
  .cond (z1)
  (
    .bnd (shard_Check N x0) fun z2 =>
    .bnd (ref_CheckShard N x0) fun z3 =>
    .leaf (.done (w6enc (z2 == z3)), some (z2 == z3)))
  (
    .leaf (.done (w6enc false), some false))
theorem w6vE0 (N : Nat) (x0 : VShard) : evM TT EE (w6G N) w6lv w6rs 4000 true (w6kE0 (bodyOf 0 Try.f6)) (w6sE0 x0) = (w6TE0 (bodyOf 0 Try.f6) N x0).map1 := by kernel_rfl
theorem w6nE0 (N : Nat) (x0 : VShard) : law_ShardChecks N x0 = (w6TE0 (bodyOf 0 Try.f6) N x0).run := by kernel_rfl
theorem w6oE0 {N : Nat} {r : Bool} (x0 : VShard) (h : law_ShardChecks N x0 = some r) : Ends (Y := TT) EE (w6G N) w6lv w6rs (fun u => u = w6enc r) (w6kE0 (bodyOf 0 Try.f6)) (w6sE0 x0) :=
  tree_use (w6vE0 N x0) (w6nE0 N x0) h (show (w6TE0 (bodyOf 0 Try.f6) N x0).all _ from fun _ => ⟨fun _ => fun _ => retp (enc := w6enc) rfl, retp (enc := w6enc) rfl⟩)
theorem law_ShardChecks_ok {N : Nat} (x0 : VShard) {r : Bool} (h : law_ShardChecks N x0 = some r) (ρ : Nat → Nat) : ACalls Try.prog 6 (([.ag (unpT EE (.nam 8) x0)] : List (TV EE.T)).map (TV.to EE.toEnc ρ)) [] (fun out H => out = .ret ((law_ShardChecks_u r).to EE.toEnc ρ) ∧ H = []) :=
  (fn_ok (bodyOf 0 Try.f6) 11 mixed (w6Gok N) Try.func6 (by kernel_rfl) rfl rfl rfl rfl (w6oE0 x0 h) ρ).mono fun out H h => KPost.ret rfl h
def law_ShardChecks_h (N : Nat) : List (TV EE.T) → PV EE.T
  | [u0] => match argS EE 8 u0 with
    | some x0 => .opt (law_ShardChecks N x0) law_ShardChecks_u
    | _ => .bad
  | _ => .bad
theorem law_ShardChecks_hok (N : Nat) (us : List (TV EE.T)) : (law_ShardChecks_h N us).ok fun u => ∀ ρ, ACalls Try.prog 6 (us.map (TV.to EE.toEnc ρ)) [] (fun out H => out = .ret (u.to EE.toEnc ρ) ∧ H = []) := by
  unfold law_ShardChecks_h
  split
  · split
    · rename_i h0
      intro z hz ρ; refine acalls_le ?_ (law_ShardChecks_ok _ hz ρ); exact ⟨argS_le h0 ρ, trivial⟩
    · trivial
  · trivial
/-! ### gleaner/gleanerref.SameLabels -/
def ref_SameLabels_u (r : Bool) : TV EE.T := .a (.d .bool r)
def w61enc (r : Bool) : RL EE.T := .ret (ref_SameLabels_u r) []
def w61lv : Lvs := ⟨[(6, ⟨[(0, false), (1, false), (5, false)], [], []⟩)], [(4, ⟨[(0, false), (1, false), (5, false)], [], []⟩)], [], [], false, [], []⟩
def w61rs : List ResultVar := [.tmp 4]
def w61G (N : Nat) : Gam EE := ⟨[], EQT, []⟩
theorem w61Gok (N : Nat) : GOk Try.prog TT EE (w61G N) := GOk.nil EQT_ok
def w61kL4 (c : Code) : List It2 := atL 4 c
def w61sL4 (x0 : List VLabel) (x1 : List VLabel) (x5 : Int) : TS EE.T := ⟨26, [(0, .a (.d (.sl (.nam 2)) x0)), (1, .a (.d (.sl (.nam 2)) x1)), (5, .a (.d (.int .i64) x5))], [], []⟩
def w61kE0 (c : Code) : List It2 := [.c c]
def w61sE0 (x0 : List VLabel) (x1 : List VLabel) : TS EE.T := ⟨26, [(0, .a (.d (.sl (.nam 2)) x0)), (1, .a (.d (.sl (.nam 2)) x1))], [], []⟩
def w61TL4 (c : Code) (N : Nat) (n : Nat) (x0 : List VLabel) (x1 : List VLabel) (x5 : Int) : Tree (Lf EE.T × Option Bool) :=
  .cond (decide (x5 < (x0.length : Int)))
  (
    .bnd (idxC x0 x5) fun z1 =>
    .bnd (idxC x1 x5) fun z2 =>
    .cond (!(beqS z1.Name z2.Name && (beqS z1.Value z2.Value && true)))
    (
      .leaf (.done (w61enc false), some false))
    (
      .leaf (.go (w61kL4 c) (w61sL4 x0 x1 (w64 (x5 + 1))), ref_SameLabels_L4 N n x0 x1 (w64 (x5 + 1)))))
  (
    .leaf (.done (w61enc true), some true))
theorem w61vL4 (N : Nat) (n : Nat) (x0 : List VLabel) (x1 : List VLabel) (x5 : Int) : evM TT EE (w61G N) w61lv w61rs 4000 true (w61kL4 (bodyOf 0 Try.f61)) (w61sL4 x0 x1 x5) = (w61TL4 (bodyOf 0 Try.f61) N n x0 x1 x5).map1 := by kernel_rfl
theorem w61nL4 (N : Nat) (n : Nat) (x0 : List VLabel) (x1 : List VLabel) (x5 : Int) : ref_SameLabels_L4 N (n + 1) x0 x1 x5 = (w61TL4 (bodyOf 0 Try.f61) N n x0 x1 x5).run := by kernel_rfl
theorem w61oL4 {N : Nat} {r : Bool} : ∀ (n : Nat) (x0 : List VLabel) (x1 : List VLabel) (x5 : Int), ref_SameLabels_L4 N n x0 x1 x5 = some r → Ends (Y := TT) EE (w61G N) w61lv w61rs (fun u => u = w61enc r) (w61kL4 (bodyOf 0 Try.f61)) (w61sL4 x0 x1 x5)
  | 0, _, _, _, h => by cases h
  | n + 1, x0, x1, x5, h => tree_use (w61vL4 N n x0 x1 x5) (w61nL4 N n x0 x1 x5) h (show (w61TL4 (bodyOf 0 Try.f61) N n x0 x1 x5).all _ from ⟨fun _ => fun _ => ⟨retp (enc := w61enc) rfl, fun h => (w61oL4 n) _ _ _ h⟩, retp (enc := w61enc) rfl⟩)
def w61TE0 (c : Code) (N : Nat) (x0 : List VLabel) (x1 : List VLabel) : Tree (Lf EE.T × Option Bool) :=
  .cond ((x0.length : Int) != (x1.length : Int))
  (
    .leaf (.done (w61enc false), some false))
  (
    .leaf (.go (w61kL4 c) (w61sL4 x0 x1 0), ref_SameLabels_L4 N N x0 x1 0))
theorem w61vE0 (N : Nat) (x0 : List VLabel) (x1 : List VLabel) : evM TT EE (w61G N) w61lv w61rs 4000 true (w61kE0 (bodyOf 0 Try.f61)) (w61sE0 x0 x1) = (w61TE0 (bodyOf 0 Try.f61) N x0 x1).map1 := by kernel_rfl
theorem w61nE0 (N : Nat) (x0 : List VLabel) (x1 : List VLabel) : ref_SameLabels N x0 x1 = (w61TE0 (bodyOf 0 Try.f61) N x0 x1).run := by kernel_rfl
theorem w61oE0 {N : Nat} {r : Bool} (x0 : List VLabel) (x1 : List VLabel) (h : ref_SameLabels N x0 x1 = some r) : Ends (Y := TT) EE (w61G N) w61lv w61rs (fun u => u = w61enc r) (w61kE0 (bodyOf 0 Try.f61)) (w61sE0 x0 x1) :=
  tree_use (w61vE0 N x0 x1) (w61nE0 N x0 x1) h (show (w61TE0 (bodyOf 0 Try.f61) N x0 x1).all _ from ⟨retp (enc := w61enc) rfl, fun h => w61oL4 N _ _ _ h⟩)
theorem ref_SameLabels_ok {N : Nat} (x0 : List VLabel) (x1 : List VLabel) {r : Bool} (h : ref_SameLabels N x0 x1 = some r) (ρ : Nat → Nat) : ACalls Try.prog 61 (([.a (.d (.sl (.nam 2)) x0), .a (.d (.sl (.nam 2)) x1)] : List (TV EE.T)).map (TV.to EE.toEnc ρ)) [] (fun out H => out = .ret ((ref_SameLabels_u r).to EE.toEnc ρ) ∧ H = []) :=
  (fn_ok (bodyOf 0 Try.f61) 26 mixed (w61Gok N) Try.func61 (by kernel_rfl) rfl rfl rfl rfl (w61oE0 x0 x1 h) ρ).mono fun out H h => KPost.ret rfl h
def ref_SameLabels_h (N : Nat) : List (TV EE.T) → PV EE.T
  | [u0, u1] => match argD (.sl (.nam 2)) u0, argD (.sl (.nam 2)) u1 with
    | some x0, some x1 => .opt (ref_SameLabels N x0 x1) ref_SameLabels_u
    | _, _ => .bad
  | _ => .bad
theorem ref_SameLabels_hok (N : Nat) (us : List (TV EE.T)) : (ref_SameLabels_h N us).ok fun u => ∀ ρ, ACalls Try.prog 61 (us.map (TV.to EE.toEnc ρ)) [] (fun out H => out = .ret (u.to EE.toEnc ρ) ∧ H = []) := by
  unfold ref_SameLabels_h
  split
  · split
    · rename_i h0 h1
      intro z hz ρ; refine acalls_le ?_ (ref_SameLabels_ok _ _ hz ρ); exact ⟨argD_le h0 ρ, argD_le h1 ρ, trivial⟩
    · trivial
  · trivial
/-! ### gleaner/gleanerref.SameItems -/
def ref_SameItems_u (r : Bool) : TV EE.T := .a (.d .bool r)
def w30enc (r : Bool) : RL EE.T := .ret (ref_SameItems_u r) []
def w30lv : Lvs := ⟨[(6, ⟨[(0, false), (1, false), (5, false)], [], []⟩)], [(4, ⟨[(0, false), (1, false), (5, false)], [], []⟩)], [], [], false, [], []⟩
def w30rs : List ResultVar := [.tmp 4]
def w30G (N : Nat) : Gam EE := ⟨[⟨61, ref_SameLabels_h N⟩], EQT, []⟩
theorem w30Gok (N : Nat) : GOk Try.prog TT EE (w30G N) := GOk.cons (ref_SameLabels_hok N) (GOk.nil EQT_ok)
def w30kL4 (c : Code) : List It2 := atL 4 c
def w30sL4 (x0 : List VItem) (x1 : List VItem) (x5 : Int) : TS EE.T := ⟨55, [(0, .a (.d (.sl (.nam 7)) x0)), (1, .a (.d (.sl (.nam 7)) x1)), (5, .a (.d (.int .i64) x5))], [], []⟩
def w30kE0 (c : Code) : List It2 := [.c c]
def w30sE0 (x0 : List VItem) (x1 : List VItem) : TS EE.T := ⟨55, [(0, .a (.d (.sl (.nam 7)) x0)), (1, .a (.d (.sl (.nam 7)) x1))], [], []⟩
def w30TL4 (c : Code) (N : Nat) (n : Nat) (x0 : List VItem) (x1 : List VItem) (x5 : Int) : Tree (Lf EE.T × Option Bool) :=
  .cond (decide (x5 < (x0.length : Int)))
  (
    .bnd (idxC x0 x5) fun z1 =>
    .bnd (idxC x1 x5) fun z2 =>
    .cond (z1.Number != z2.Number)
    (
      .leaf (.done (w30enc false), some false))
    (
      .bnd (idxC x0 x5) fun z3 =>
      .bnd (idxC x1 x5) fun z4 =>
      .cond (!(beqI z3.Sample.Time z4.Sample.Time && (beqI z3.Sample.Bits z4.Sample.Bits && true)))
      (
        .leaf (.done (w30enc false), some false))
      (
        .bnd (idxC x0 x5) fun z5 =>
        .bnd (idxC x1 x5) fun z6 =>
        .bnd (ref_SameLabels N z5.Labels z6.Labels) fun z7 =>
        .cond (!z7)
        (
          .leaf (.done (w30enc false), some false))
        (
          .leaf (.go (w30kL4 c) (w30sL4 x0 x1 (w64 (x5 + 1))), ref_SameItems_L4 N n x0 x1 (w64 (x5 + 1)))))))
  (
    .leaf (.done (w30enc true), some true))
theorem w30vL4 (N : Nat) (n : Nat) (x0 : List VItem) (x1 : List VItem) (x5 : Int) : evM TT EE (w30G N) w30lv w30rs 4000 true (w30kL4 (bodyOf 0 Try.f30)) (w30sL4 x0 x1 x5) = (w30TL4 (bodyOf 0 Try.f30) N n x0 x1 x5).map1 := by kernel_rfl
theorem w30nL4 (N : Nat) (n : Nat) (x0 : List VItem) (x1 : List VItem) (x5 : Int) : ref_SameItems_L4 N (n + 1) x0 x1 x5 = (w30TL4 (bodyOf 0 Try.f30) N n x0 x1 x5).run := by kernel_rfl
theorem w30oL4 {N : Nat} {r : Bool} : ∀ (n : Nat) (x0 : List VItem) (x1 : List VItem) (x5 : Int), ref_SameItems_L4 N n x0 x1 x5 = some r → Ends (Y := TT) EE (w30G N) w30lv w30rs (fun u => u = w30enc r) (w30kL4 (bodyOf 0 Try.f30)) (w30sL4 x0 x1 x5)
  | 0, _, _, _, h => by cases h
  | n + 1, x0, x1, x5, h => tree_use (w30vL4 N n x0 x1 x5) (w30nL4 N n x0 x1 x5) h (show (w30TL4 (bodyOf 0 Try.f30) N n x0 x1 x5).all _ from ⟨fun _ => fun _ => ⟨retp (enc := w30enc) rfl, fun _ => fun _ => ⟨retp (enc := w30enc) rfl, fun _ => fun _ => fun _ => ⟨retp (enc := w30enc) rfl, fun h => (w30oL4 n) _ _ _ h⟩⟩⟩, retp (enc := w30enc) rfl⟩)
def w30TE0 (c : Code) (N : Nat) (x0 : List VItem) (x1 : List VItem) : Tree (Lf EE.T × Option Bool) :=
  .cond ((x0.length : Int) != (x1.length : Int))
  (
    .leaf (.done (w30enc false), some false))
  (
    .leaf (.go (w30kL4 c) (w30sL4 x0 x1 0), ref_SameItems_L4 N N x0 x1 0))
theorem w30vE0 (N : Nat) (x0 : List VItem) (x1 : List VItem) : evM TT EE (w30G N) w30lv w30rs 4000 true (w30kE0 (bodyOf 0 Try.f30)) (w30sE0 x0 x1) = (w30TE0 (bodyOf 0 Try.f30) N x0 x1).map1 := by kernel_rfl
theorem w30nE0 (N : Nat) (x0 : List VItem) (x1 : List VItem) : ref_SameItems N x0 x1 = (w30TE0 (bodyOf 0 Try.f30) N x0 x1).run := by kernel_rfl
theorem w30oE0 {N : Nat} {r : Bool} (x0 : List VItem) (x1 : List VItem) (h : ref_SameItems N x0 x1 = some r) : Ends (Y := TT) EE (w30G N) w30lv w30rs (fun u => u = w30enc r) (w30kE0 (bodyOf 0 Try.f30)) (w30sE0 x0 x1) :=
  tree_use (w30vE0 N x0 x1) (w30nE0 N x0 x1) h (show (w30TE0 (bodyOf 0 Try.f30) N x0 x1).all _ from ⟨retp (enc := w30enc) rfl, fun h => w30oL4 N _ _ _ h⟩)
theorem ref_SameItems_ok {N : Nat} (x0 : List VItem) (x1 : List VItem) {r : Bool} (h : ref_SameItems N x0 x1 = some r) (ρ : Nat → Nat) : ACalls Try.prog 30 (([.a (.d (.sl (.nam 7)) x0), .a (.d (.sl (.nam 7)) x1)] : List (TV EE.T)).map (TV.to EE.toEnc ρ)) [] (fun out H => out = .ret ((ref_SameItems_u r).to EE.toEnc ρ) ∧ H = []) :=
  (fn_ok (bodyOf 0 Try.f30) 55 mixed (w30Gok N) Try.func30 (by kernel_rfl) rfl rfl rfl rfl (w30oE0 x0 x1 h) ρ).mono fun out H h => KPost.ret rfl h
def ref_SameItems_h (N : Nat) : List (TV EE.T) → PV EE.T
  | [u0, u1] => match argD (.sl (.nam 7)) u0, argD (.sl (.nam 7)) u1 with
    | some x0, some x1 => .opt (ref_SameItems N x0 x1) ref_SameItems_u
    | _, _ => .bad
  | _ => .bad
theorem ref_SameItems_hok (N : Nat) (us : List (TV EE.T)) : (ref_SameItems_h N us).ok fun u => ∀ ρ, ACalls Try.prog 30 (us.map (TV.to EE.toEnc ρ)) [] (fun out H => out = .ret (u.to EE.toEnc ρ) ∧ H = []) := by
  unfold ref_SameItems_h
  split
  · split
    · rename_i h0 h1
      intro z hz ρ; refine acalls_le ?_ (ref_SameItems_ok _ _ hz ρ); exact ⟨argD_le h0 ρ, argD_le h1 ρ, trivial⟩
    · trivial
  · trivial
/-! ### gleaner/gleanerref.SameShard -/
def ref_SameShard_u (r : Bool) : TV EE.T := .a (.d .bool r)
def w26enc (r : Bool) : RL EE.T := .ret (ref_SameShard_u r) []
def w26lv : Lvs := ⟨[], [], [], [], false, [], []⟩
def w26rs : List ResultVar := [.tmp 4]
def w26G (N : Nat) : Gam EE := ⟨[⟨30, ref_SameItems_h N⟩], EQT, []⟩
theorem w26Gok (N : Nat) : GOk Try.prog TT EE (w26G N) := GOk.cons (ref_SameItems_hok N) (GOk.nil EQT_ok)
def w26kE0 (c : Code) : List It2 := [.c c]
def w26sE0 (x0 : VShard) (x1 : VShard) : TS EE.T := ⟨52, [(0, .ag (unpT EE (.nam 8) x0)), (1, .ag (unpT EE (.nam 8) x1))], [], []⟩
def w26TE0 (c : Code) (N : Nat) (x0 : VShard) (x1 : VShard) : Tree (Lf EE.T × Option Bool) :=
  .bnd (ref_SameItems N x0.Items x1.Items) fun z1 =>
  .cond (z1)
  (
    .cond (x0.Batch == x1.Batch)
    (
      .cond (x0.Room == x1.Room)
      (
        .cond (x0.First == x1.First)
        (
          .cond (x0.Most == x1.Most)
          (
            .cond (x0.Waits == x1.Waits)
            (
              .leaf (.done (w26enc (x0.Till == x1.Till)), some (x0.Till == x1.Till)))
            (
              .leaf (.done (w26enc false), some false)))
          (
            .leaf (.done (w26enc false), some false)))
        (
          .leaf (.done (w26enc false), some false)))
      (
        .leaf (.done (w26enc false), some false)))
    (
      .leaf (.done (w26enc false), some false)))
  (
    .leaf (.done (w26enc false), some false))
theorem w26vE0 (N : Nat) (x0 : VShard) (x1 : VShard) : evM TT EE (w26G N) w26lv w26rs 4000 true (w26kE0 (bodyOf 0 Try.f26)) (w26sE0 x0 x1) = (w26TE0 (bodyOf 0 Try.f26) N x0 x1).map1 := by kernel_rfl
theorem w26nE0 (N : Nat) (x0 : VShard) (x1 : VShard) : ref_SameShard N x0 x1 = (w26TE0 (bodyOf 0 Try.f26) N x0 x1).run := by kernel_rfl
theorem w26oE0 {N : Nat} {r : Bool} (x0 : VShard) (x1 : VShard) (h : ref_SameShard N x0 x1 = some r) : Ends (Y := TT) EE (w26G N) w26lv w26rs (fun u => u = w26enc r) (w26kE0 (bodyOf 0 Try.f26)) (w26sE0 x0 x1) :=
  tree_use (w26vE0 N x0 x1) (w26nE0 N x0 x1) h (show (w26TE0 (bodyOf 0 Try.f26) N x0 x1).all _ from fun _ => ⟨⟨⟨⟨⟨⟨retp (enc := w26enc) rfl, retp (enc := w26enc) rfl⟩, retp (enc := w26enc) rfl⟩, retp (enc := w26enc) rfl⟩, retp (enc := w26enc) rfl⟩, retp (enc := w26enc) rfl⟩, retp (enc := w26enc) rfl⟩)
theorem ref_SameShard_ok {N : Nat} (x0 : VShard) (x1 : VShard) {r : Bool} (h : ref_SameShard N x0 x1 = some r) (ρ : Nat → Nat) : ACalls Try.prog 26 (([.ag (unpT EE (.nam 8) x0), .ag (unpT EE (.nam 8) x1)] : List (TV EE.T)).map (TV.to EE.toEnc ρ)) [] (fun out H => out = .ret ((ref_SameShard_u r).to EE.toEnc ρ) ∧ H = []) :=
  (fn_ok (bodyOf 0 Try.f26) 52 mixed (w26Gok N) Try.func26 (by kernel_rfl) rfl rfl rfl rfl (w26oE0 x0 x1 h) ρ).mono fun out H h => KPost.ret rfl h
def ref_SameShard_h (N : Nat) : List (TV EE.T) → PV EE.T
  | [u0, u1] => match argS EE 8 u0, argS EE 8 u1 with
    | some x0, some x1 => .opt (ref_SameShard N x0 x1) ref_SameShard_u
    | _, _ => .bad
  | _ => .bad
theorem ref_SameShard_hok (N : Nat) (us : List (TV EE.T)) : (ref_SameShard_h N us).ok fun u => ∀ ρ, ACalls Try.prog 26 (us.map (TV.to EE.toEnc ρ)) [] (fun out H => out = .ret (u.to EE.toEnc ρ) ∧ H = []) := by
  unfold ref_SameShard_h
  split
  · split
    · rename_i h0 h1
      intro z hz ρ; refine acalls_le ?_ (ref_SameShard_ok _ _ hz ρ); exact ⟨argS_le h0 ρ, argS_le h1 ρ, trivial⟩
    · trivial
  · trivial
end Go.Proofs.Ytofidfkojmbdoaa
