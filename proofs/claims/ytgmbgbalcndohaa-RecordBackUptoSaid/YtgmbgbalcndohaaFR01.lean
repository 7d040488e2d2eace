-- slim: written by gen/slim.py from XFR01.r.lean.tpl
/- The walks that prove plain functions right, written by gen/tgl.py. -/
import Derived.Test.YtgmbgbalcndohaaFR01p
import Derived.Test.YtgmbgbalcndohaaIN2
import Derived.Test.YtgmbgbalcndohaaNR
namespace Go.Proofs.Ytgmbgbalcndohaa
open Go.RowKit P
set_option linter.unusedVariables false
set_option linter.unusedSimpArgs false
set_option maxRecDepth 100000
/-! ### gleaner/record.isRef -/
def record_isRef_u (r : Bool) : TV EE.T := .a (.d .bool r)
def w30enc (r : Bool) : RL EE.T := .ret (record_isRef_u r) []
def w30lv : Lvs := ⟨[], [], [], [], false, [], []⟩
def w30rs : List ResultVar := [.tmp 2]
def w30G (N : Nat) : Gam EE := ⟨[], EQT, [], []⟩
theorem w30Gok (N : Nat) : GOk Try.prog TT EE (w30G N) := GOk.nil EQT_ok
def w30kE0 (c : Code) : List It2 := [.c c]
def w30sE0 (x0 : Int) : TS EE.T := ⟨9, [(0, .a (.d (.int .i64) x0))], [], []⟩
def w30TE0 (c : Code) (N : Nat) (x0 : Int) : Tree (Lf EE.T × Option Bool) :=
  .cond (decide (x0 ≥ 1))
  (
    .leaf (.done (w30enc (decide (x0 ≤ 1000000))), some (decide (x0 ≤ 1000000))))
  (
    .leaf (.done (w30enc false), some false))
theorem w30vE0 (N : Nat) (x0 : Int) : evM TT EE (w30G N) w30lv w30rs 4000 true (w30kE0 (bodyOf 0 Try.f30)) (w30sE0 x0) = (w30TE0 (bodyOf 0 Try.f30) N x0).map1 := by kernel_rfl
theorem w30nE0 (N : Nat) (x0 : Int) : record_isRef N x0 = (w30TE0 (bodyOf 0 Try.f30) N x0).run := by kernel_rfl
theorem w30oE0 {N : Nat} {r : Bool} (x0 : Int) (h : record_isRef N x0 = some r) : Ends (Y := TT) EE (w30G N) w30lv w30rs (fun u => u = w30enc r) (w30kE0 (bodyOf 0 Try.f30)) (w30sE0 x0) :=
  tree_use (w30vE0 N x0) (w30nE0 N x0) h (show (w30TE0 (bodyOf 0 Try.f30) N x0).all _ from ⟨retp (enc := w30enc) rfl, retp (enc := w30enc) rfl⟩)
theorem record_isRef_ok {N : Nat} (x0 : Int) {r : Bool} (h : record_isRef N x0 = some r) (ρ : Nat → Nat) : ACalls Try.prog 30 (([.a (.d (.int .i64) x0)] : List (TV EE.T)).map (TV.to EE.toEnc ρ)) [] (fun out H => out = .ret ((record_isRef_u r).to EE.toEnc ρ) ∧ H = []) :=
  (fn_ok (bodyOf 0 Try.f30) 9 mixed (w30Gok N) Try.func30 (by kernel_rfl) rfl rfl rfl rfl (w30oE0 x0 h) ρ).mono fun out H h => KPost.ret rfl h
def record_isRef_h (N : Nat) : List (TV EE.T) → PV EE.T
  | [u0] => match argD (.int .i64) u0 with
    | some x0 => .opt (record_isRef N x0) record_isRef_u
    | _ => .bad
  | _ => .bad
theorem record_isRef_hok (N : Nat) (us : List (TV EE.T)) : (record_isRef_h N us).ok fun u => ∀ ρ, ACalls Try.prog 30 (us.map (TV.to EE.toEnc ρ)) [] (fun out H => out = .ret (u.to EE.toEnc ρ) ∧ H = []) := by
  unfold record_isRef_h
  split
  · split
    · rename_i h0
      intro z hz ρ; refine acalls_le ?_ (record_isRef_ok _ hz ρ); exact ⟨argD_le h0 ρ, trivial⟩
    · trivial
  · trivial
/-! ### gleaner/labels.each -/
def labels_each_u (r : Int) : TV EE.T := .a (.d (.int .i64) r)
def w47enc (r : Int) : RL EE.T := .ret (labels_each_u r) []
def w47lv : Lvs := ⟨[(9, ⟨[(0, false), (1, false), (6, false), (13, false), (14, false), (15, false)], [], [(6, (some 2, []))]⟩)], [(4, ⟨[(0, false), (1, false), (13, false), (14, false), (15, false)], [], []⟩), (14, ⟨[(7, false), (38, false), (39, false), (40, false)], [], [(37, (none, []))]⟩)], [9], [], false, [], []⟩
def w47rs : List ResultVar := [.tmp 4]
def w47G (N : Nat) : Gam EE := ⟨[⟨51, labels_IsName_h N⟩], EQT, [], []⟩
theorem w47Gok (N : Nat) : GOk Try.prog TT EE (w47G N) := GOk.cons (labels_IsName_hok N) (GOk.nil EQT_ok)
def w47kR9 (c : Code) : List It2 := atR 9 c
def w47sR9 (x0 : List VLabel) (x1 : Bool) (x13 : List VLabel) (x14 : Int) (x15 : Int) (b6 : VLabel) : TS EE.T := ⟨52, [(0, .a (.d (.sl (.nam 2)) x0)), (1, .a (.d .bool x1)), (6, .a (.box 6 0)), (13, .a (.d (.sl (.nam 2)) x13)), (14, .a (.d (.int .i64) x14)), (15, .a (.d (.int .i64) x15))], [(6, .cs (unpT EE (.nam 2) b6))], []⟩
def w47kL14 (c : Code) : List It2 := atL 14 c
def w47sL14 (x38 : List VLabel) (x39 : Int) (x40 : Int) (b37 : List (List UInt8 × Bool)) : TS EE.T := ⟨52, [(7, .a (.mpr 37)), (38, .a (.d (.sl (.nam 2)) x38)), (39, .a (.d (.int .i64) x39)), (40, .a (.d (.int .i64) x40))], [(37, .smap .bool b37)], []⟩
def w47kL4 (c : Code) : List It2 := atL 4 c
def w47sL4 (x0 : List VLabel) (x1 : Bool) (x13 : List VLabel) (x14 : Int) (x15 : Int) : TS EE.T := ⟨52, [(0, .a (.d (.sl (.nam 2)) x0)), (1, .a (.d .bool x1)), (13, .a (.d (.sl (.nam 2)) x13)), (14, .a (.d (.int .i64) x14)), (15, .a (.d (.int .i64) x15))], [], []⟩
def w47kE0 (c : Code) : List It2 := [.c c]
def w47sE0 (x0 : List VLabel) (x1 : Bool) : TS EE.T := ⟨52, [(0, .a (.d (.sl (.nam 2)) x0)), (1, .a (.d .bool x1))], [], []⟩
def w47TR9 (c : Code) (N : Nat) (k4 : (List VLabel) → Bool → (List VLabel) → Int → Int → Option Int) (n : Nat) (x0 : List VLabel) (x1 : Bool) (x13 : List VLabel) (x14 : Int) (x15 : Int) (b6 : VLabel) : Tree (Lf EE.T × Option Int) :=
  .cond (decide ((b6.Value.length : Int) > 100))
  (
    .leaf (.done (w47enc 2), some 2))
  (
    .leaf (.go (w47kL4 c) (w47sL4 x0 x1 x13 x14 (w64 (x15 + 1))), k4 x0 x1 x13 x14 (w64 (x15 + 1))))
theorem w47vR9 (N : Nat) (k4 : (List VLabel) → Bool → (List VLabel) → Int → Int → Option Int) (n : Nat) (x0 : List VLabel) (x1 : Bool) (x13 : List VLabel) (x14 : Int) (x15 : Int) (b6 : VLabel) : evM TT EE (w47G N) w47lv w47rs 4000 true (w47kR9 (bodyOf 0 Try.f47)) (w47sR9 x0 x1 x13 x14 x15 b6) = (w47TR9 (bodyOf 0 Try.f47) N k4 n x0 x1 x13 x14 x15 b6).map1 := by kernel_rfl
theorem w47nR9 (N : Nat) (k4 : (List VLabel) → Bool → (List VLabel) → Int → Int → Option Int) (n : Nat) (x0 : List VLabel) (x1 : Bool) (x13 : List VLabel) (x14 : Int) (x15 : Int) (b6 : VLabel) : labels_each_R9 N k4 n x0 x1 x13 x14 x15 b6 = (w47TR9 (bodyOf 0 Try.f47) N k4 n x0 x1 x13 x14 x15 b6).run := by kernel_rfl
theorem w47oR9 {N : Nat} {r : Int} {k4 : (List VLabel) → Bool → (List VLabel) → Int → Int → Option Int} (hk4 : ∀ x0 x1 x13 x14 x15, k4 x0 x1 x13 x14 x15 = some r → Ends (Y := TT) EE (w47G N) w47lv w47rs (fun u => u = w47enc r) (w47kL4 (bodyOf 0 Try.f47)) (w47sL4 x0 x1 x13 x14 x15)) (n : Nat) (x0 : List VLabel) (x1 : Bool) (x13 : List VLabel) (x14 : Int) (x15 : Int) (b6 : VLabel) (h : labels_each_R9 N k4 n x0 x1 x13 x14 x15 b6 = some r) : Ends (Y := TT) EE (w47G N) w47lv w47rs (fun u => u = w47enc r) (w47kR9 (bodyOf 0 Try.f47)) (w47sR9 x0 x1 x13 x14 x15 b6) :=
  tree_use (w47vR9 N k4 n x0 x1 x13 x14 x15 b6) (w47nR9 N k4 n x0 x1 x13 x14 x15 b6) h (show (w47TR9 (bodyOf 0 Try.f47) N k4 n x0 x1 x13 x14 x15 b6).all _ from ⟨retp (enc := w47enc) rfl, fun h => hk4 _ _ _ _ _ h⟩)
def w47TL14 (c : Code) (N : Nat) (n : Nat) (x38 : List VLabel) (x39 : Int) (x40 : Int) (b37 : List (List UInt8 × Bool)) : Tree (Lf EE.T × Option Int) :=
  .cond (decide (x40 < x39))
  (
    .bnd (idxC x38 x40) fun z3 =>
    .cond ((mget b37 z3.Name).getD false)
    (
      .leaf (.done (w47enc 6), some 6))
    (
      .leaf (.go (w47kL14 c) (w47sL14 x38 x39 (w64 (x40 + 1)) (mset b37 z3.Name true)), labels_each_L14 N n x38 x39 (w64 (x40 + 1)) (mset b37 z3.Name true))))
  (
    .leaf (.done (w47enc 0), some 0))
theorem w47vL14 (N : Nat) (n : Nat) (x38 : List VLabel) (x39 : Int) (x40 : Int) (b37 : List (List UInt8 × Bool)) : evM TT EE (w47G N) w47lv w47rs 4000 true (w47kL14 (bodyOf 0 Try.f47)) (w47sL14 x38 x39 x40 b37) = (w47TL14 (bodyOf 0 Try.f47) N n x38 x39 x40 b37).map1 := by kernel_rfl
theorem w47nL14 (N : Nat) (n : Nat) (x38 : List VLabel) (x39 : Int) (x40 : Int) (b37 : List (List UInt8 × Bool)) : labels_each_L14 N (n + 1) x38 x39 x40 b37 = (w47TL14 (bodyOf 0 Try.f47) N n x38 x39 x40 b37).run := by kernel_rfl
theorem w47oL14 {N : Nat} {r : Int} : ∀ (n : Nat) (x38 : List VLabel) (x39 : Int) (x40 : Int) (b37 : List (List UInt8 × Bool)), labels_each_L14 N n x38 x39 x40 b37 = some r → Ends (Y := TT) EE (w47G N) w47lv w47rs (fun u => u = w47enc r) (w47kL14 (bodyOf 0 Try.f47)) (w47sL14 x38 x39 x40 b37)
  | 0, _, _, _, _, h => by cases h
  | n + 1, x38, x39, x40, b37, h => tree_use (w47vL14 N n x38 x39 x40 b37) (w47nL14 N n x38 x39 x40 b37) h (show (w47TL14 (bodyOf 0 Try.f47) N n x38 x39 x40 b37).all _ from ⟨fun _ => ⟨retp (enc := w47enc) rfl, fun h => (w47oL14 n) _ _ _ _ h⟩, retp (enc := w47enc) rfl⟩)
def w47TL4 (c : Code) (N : Nat) (n : Nat) (x0 : List VLabel) (x1 : Bool) (x13 : List VLabel) (x14 : Int) (x15 : Int) : Tree (Lf EE.T × Option Int) :=
  .cond (decide (x15 < x14))
  (
    .bnd (idxC x13 x15) fun z1 =>
    .bnd (labels_IsName N z1.Name) fun z2 =>
    .cond (!z2)
    (
      .leaf (.done (w47enc 1), some 1))
    (
      .cond (decide (z1.Value = ([] : List UInt8)))
      (
        .cond (!x1)
        (
          .leaf (.done (w47enc 1), some 1))
        (
          .leaf (.go (w47kR9 c) (w47sR9 x0 x1 x13 x14 x15 z1), labels_each_R9 N (labels_each_L4 N n) n x0 x1 x13 x14 x15 z1)))
      (
        .leaf (.go (w47kR9 c) (w47sR9 x0 x1 x13 x14 x15 z1), labels_each_R9 N (labels_each_L4 N n) n x0 x1 x13 x14 x15 z1))))
  (
    .leaf (.go (w47kL14 c) (w47sL14 x0 (x0.length : Int) 0 ([] : List (List UInt8 × Bool))), labels_each_L14 N n x0 (x0.length : Int) 0 ([] : List (List UInt8 × Bool))))
theorem w47vL4 (N : Nat) (n : Nat) (x0 : List VLabel) (x1 : Bool) (x13 : List VLabel) (x14 : Int) (x15 : Int) : evM TT EE (w47G N) w47lv w47rs 4000 true (w47kL4 (bodyOf 0 Try.f47)) (w47sL4 x0 x1 x13 x14 x15) = (w47TL4 (bodyOf 0 Try.f47) N n x0 x1 x13 x14 x15).map1 := by kernel_rfl
theorem w47nL4 (N : Nat) (n : Nat) (x0 : List VLabel) (x1 : Bool) (x13 : List VLabel) (x14 : Int) (x15 : Int) : labels_each_L4 N (n + 1) x0 x1 x13 x14 x15 = (w47TL4 (bodyOf 0 Try.f47) N n x0 x1 x13 x14 x15).run := by kernel_rfl
theorem w47oL4 {N : Nat} {r : Int} : ∀ (n : Nat) (x0 : List VLabel) (x1 : Bool) (x13 : List VLabel) (x14 : Int) (x15 : Int), labels_each_L4 N n x0 x1 x13 x14 x15 = some r → Ends (Y := TT) EE (w47G N) w47lv w47rs (fun u => u = w47enc r) (w47kL4 (bodyOf 0 Try.f47)) (w47sL4 x0 x1 x13 x14 x15)
  | 0, _, _, _, _, _, h => by cases h
  | n + 1, x0, x1, x13, x14, x15, h => tree_use (w47vL4 N n x0 x1 x13 x14 x15) (w47nL4 N n x0 x1 x13 x14 x15) h (show (w47TL4 (bodyOf 0 Try.f47) N n x0 x1 x13 x14 x15).all _ from ⟨fun _ => fun _ => ⟨retp (enc := w47enc) rfl, ⟨⟨retp (enc := w47enc) rfl, fun h => w47oR9 (w47oL4 n) n _ _ _ _ _ _ h⟩, fun h => w47oR9 (w47oL4 n) n _ _ _ _ _ _ h⟩⟩, fun h => w47oL14 n _ _ _ _ h⟩)
def w47TE0 (c : Code) (N : Nat) (x0 : List VLabel) (x1 : Bool) : Tree (Lf EE.T × Option Int) :=
  .cond (decide ((x0.length : Int) > 20))
  (
    .leaf (.done (w47enc 2), some 2))
  (
    .leaf (.go (w47kL4 c) (w47sL4 x0 x1 x0 (x0.length : Int) 0), labels_each_L4 N N x0 x1 x0 (x0.length : Int) 0))
theorem w47vE0 (N : Nat) (x0 : List VLabel) (x1 : Bool) : evM TT EE (w47G N) w47lv w47rs 4000 true (w47kE0 (bodyOf 0 Try.f47)) (w47sE0 x0 x1) = (w47TE0 (bodyOf 0 Try.f47) N x0 x1).map1 := by kernel_rfl
theorem w47nE0 (N : Nat) (x0 : List VLabel) (x1 : Bool) : labels_each N x0 x1 = (w47TE0 (bodyOf 0 Try.f47) N x0 x1).run := by kernel_rfl
theorem w47oE0 {N : Nat} {r : Int} (x0 : List VLabel) (x1 : Bool) (h : labels_each N x0 x1 = some r) : Ends (Y := TT) EE (w47G N) w47lv w47rs (fun u => u = w47enc r) (w47kE0 (bodyOf 0 Try.f47)) (w47sE0 x0 x1) :=
  tree_use (w47vE0 N x0 x1) (w47nE0 N x0 x1) h (show (w47TE0 (bodyOf 0 Try.f47) N x0 x1).all _ from ⟨retp (enc := w47enc) rfl, fun h => w47oL4 N _ _ _ _ _ h⟩)
theorem labels_each_ok {N : Nat} (x0 : List VLabel) (x1 : Bool) {r : Int} (h : labels_each N x0 x1 = some r) (ρ : Nat → Nat) : ACalls Try.prog 47 (([.a (.d (.sl (.nam 2)) x0), .a (.d .bool x1)] : List (TV EE.T)).map (TV.to EE.toEnc ρ)) [] (fun out H => out = .ret ((labels_each_u r).to EE.toEnc ρ) ∧ H = []) :=
  (fn_ok (bodyOf 0 Try.f47) 52 mixed (w47Gok N) Try.func47 (by kernel_rfl) rfl rfl rfl rfl (w47oE0 x0 x1 h) ρ).mono fun out H h => KPost.ret rfl h
def labels_each_h (N : Nat) : List (TV EE.T) → PV EE.T
  | [u0, u1] => match argD (.sl (.nam 2)) u0, argD .bool u1 with
    | some x0, some x1 => .opt (labels_each N x0 x1) labels_each_u
    | _, _ => .bad
  | _ => .bad
theorem labels_each_hok (N : Nat) (us : List (TV EE.T)) : (labels_each_h N us).ok fun u => ∀ ρ, ACalls Try.prog 47 (us.map (TV.to EE.toEnc ρ)) [] (fun out H => out = .ret (u.to EE.toEnc ρ) ∧ H = []) := by
  unfold labels_each_h
  split
  · split
    · rename_i h0 h1
      intro z hz ρ; refine acalls_le ?_ (labels_each_ok _ _ hz ρ); exact ⟨argD_le h0 ρ, argD_le h1 ρ, trivial⟩
    · trivial
  · trivial
/-! ### cmp.isNaN[string] -/
def cmp_isNaN_string__u (r : Bool) : TV EE.T := .a (.d .bool r)
def w55enc (r : Bool) : RL EE.T := .ret (cmp_isNaN_string__u r) []
def w55lv : Lvs := ⟨[], [], [], [], false, [], []⟩
def w55rs : List ResultVar := [.tmp 2]
def w55G (N : Nat) : Gam EE := ⟨[], EQT, [], []⟩
theorem w55Gok (N : Nat) : GOk Try.prog TT EE (w55G N) := GOk.nil EQT_ok
def w55kE0 (c : Code) : List It2 := [.c c]
def w55sE0 (x0 : List UInt8) : TS EE.T := ⟨6, [(0, .a (.d .str x0))], [], []⟩
def w55TE0 (c : Code) (N : Nat) (x0 : List UInt8) : Tree (Lf EE.T × Option Bool) :=
  .leaf (.done (w55enc (!decide (x0 = x0))), some (!decide (x0 = x0)))
theorem w55vE0 (N : Nat) (x0 : List UInt8) : evM TT EE (w55G N) w55lv w55rs 4000 true (w55kE0 (bodyOf 0 Try.f55)) (w55sE0 x0) = (w55TE0 (bodyOf 0 Try.f55) N x0).map1 := by kernel_rfl
theorem w55nE0 (N : Nat) (x0 : List UInt8) : cmp_isNaN_string_ N x0 = (w55TE0 (bodyOf 0 Try.f55) N x0).run := by kernel_rfl
theorem w55oE0 {N : Nat} {r : Bool} (x0 : List UInt8) (h : cmp_isNaN_string_ N x0 = some r) : Ends (Y := TT) EE (w55G N) w55lv w55rs (fun u => u = w55enc r) (w55kE0 (bodyOf 0 Try.f55)) (w55sE0 x0) :=
  tree_use (w55vE0 N x0) (w55nE0 N x0) h (show (w55TE0 (bodyOf 0 Try.f55) N x0).all _ from retp (enc := w55enc) rfl)
theorem cmp_isNaN_string__ok {N : Nat} (x0 : List UInt8) {r : Bool} (h : cmp_isNaN_string_ N x0 = some r) (ρ : Nat → Nat) : ACalls Try.prog 55 (([.a (.d .str x0)] : List (TV EE.T)).map (TV.to EE.toEnc ρ)) [] (fun out H => out = .ret ((cmp_isNaN_string__u r).to EE.toEnc ρ) ∧ H = []) :=
  (fn_ok (bodyOf 0 Try.f55) 6 mixed (w55Gok N) Try.func55 (by kernel_rfl) rfl rfl rfl rfl (w55oE0 x0 h) ρ).mono fun out H h => KPost.ret rfl h
def cmp_isNaN_string__h (N : Nat) : List (TV EE.T) → PV EE.T
  | [u0] => match argD .str u0 with
    | some x0 => .opt (cmp_isNaN_string_ N x0) cmp_isNaN_string__u
    | _ => .bad
  | _ => .bad
theorem cmp_isNaN_string__hok (N : Nat) (us : List (TV EE.T)) : (cmp_isNaN_string__h N us).ok fun u => ∀ ρ, ACalls Try.prog 55 (us.map (TV.to EE.toEnc ρ)) [] (fun out H => out = .ret (u.to EE.toEnc ρ) ∧ H = []) := by
  unfold cmp_isNaN_string__h
  split
  · split
    · rename_i h0
      intro z hz ρ; refine acalls_le ?_ (cmp_isNaN_string__ok _ hz ρ); exact ⟨argD_le h0 ρ, trivial⟩
    · trivial
  · trivial
/-! ### cmp.Compare[string] -/
def cmp_Compare_string__u (r : Int) : TV EE.T := .a (.d (.int .i64) r)
def w52enc (r : Int) : RL EE.T := .ret (cmp_Compare_string__u r) []
def w52lv : Lvs := ⟨[], [], [], [], false, [], []⟩
def w52rs : List ResultVar := [.tmp 4]
def w52G (N : Nat) : Gam EE := ⟨[⟨55, cmp_isNaN_string__h N⟩], EQT, [], []⟩
theorem w52Gok (N : Nat) : GOk Try.prog TT EE (w52G N) := GOk.cons (cmp_isNaN_string__hok N) (GOk.nil EQT_ok)
def w52kE0 (c : Code) : List It2 := [.c c]
def w52sE0 (x0 : List UInt8) (x1 : List UInt8) : TS EE.T := ⟨20, [(0, .a (.d .str x0)), (1, .a (.d .str x1))], [], []⟩
def w52TE0 (c : Code) (N : Nat) (x0 : List UInt8) (x1 : List UInt8) : Tree (Lf EE.T × Option Int) :=
  .bnd (cmp_isNaN_string_ N x0) fun z1 =>
  .bnd (cmp_isNaN_string_ N x1) fun z2 =>
  .cond (z1)
  (
    .cond (z2)
    (
      .leaf (.done (w52enc 0), some 0))
    (
      .leaf (.done (w52enc (-1)), some (-1))))
  (
    .cond (z2)
    (
      .leaf (.done (w52enc 1), some 1))
    (
      .cond (Op.bytesLess x0 x1)
      (
        .leaf (.done (w52enc (-1)), some (-1)))
      (
        .cond (!(Op.bytesLess x0 x1 || decide (x0 = x1)))
        (
          .leaf (.done (w52enc 1), some 1))
        (
          .leaf (.done (w52enc 0), some 0)))))
theorem w52vE0 (N : Nat) (x0 : List UInt8) (x1 : List UInt8) : evM TT EE (w52G N) w52lv w52rs 4000 true (w52kE0 (bodyOf 0 Try.f52)) (w52sE0 x0 x1) = (w52TE0 (bodyOf 0 Try.f52) N x0 x1).map1 := by kernel_rfl
theorem w52nE0 (N : Nat) (x0 : List UInt8) (x1 : List UInt8) : cmp_Compare_string_ N x0 x1 = (w52TE0 (bodyOf 0 Try.f52) N x0 x1).run := by kernel_rfl
theorem w52oE0 {N : Nat} {r : Int} (x0 : List UInt8) (x1 : List UInt8) (h : cmp_Compare_string_ N x0 x1 = some r) : Ends (Y := TT) EE (w52G N) w52lv w52rs (fun u => u = w52enc r) (w52kE0 (bodyOf 0 Try.f52)) (w52sE0 x0 x1) :=
  tree_use (w52vE0 N x0 x1) (w52nE0 N x0 x1) h (show (w52TE0 (bodyOf 0 Try.f52) N x0 x1).all _ from fun _ => fun _ => ⟨⟨retp (enc := w52enc) rfl, retp (enc := w52enc) rfl⟩, ⟨retp (enc := w52enc) rfl, ⟨retp (enc := w52enc) rfl, ⟨retp (enc := w52enc) rfl, retp (enc := w52enc) rfl⟩⟩⟩⟩)
theorem cmp_Compare_string__ok {N : Nat} (x0 : List UInt8) (x1 : List UInt8) {r : Int} (h : cmp_Compare_string_ N x0 x1 = some r) (ρ : Nat → Nat) : ACalls Try.prog 52 (([.a (.d .str x0), .a (.d .str x1)] : List (TV EE.T)).map (TV.to EE.toEnc ρ)) [] (fun out H => out = .ret ((cmp_Compare_string__u r).to EE.toEnc ρ) ∧ H = []) :=
  (fn_ok (bodyOf 0 Try.f52) 20 mixed (w52Gok N) Try.func52 (by kernel_rfl) rfl rfl rfl rfl (w52oE0 x0 x1 h) ρ).mono fun out H h => KPost.ret rfl h
def cmp_Compare_string__h (N : Nat) : List (TV EE.T) → PV EE.T
  | [u0, u1] => match argD .str u0, argD .str u1 with
    | some x0, some x1 => .opt (cmp_Compare_string_ N x0 x1) cmp_Compare_string__u
    | _, _ => .bad
  | _ => .bad
theorem cmp_Compare_string__hok (N : Nat) (us : List (TV EE.T)) : (cmp_Compare_string__h N us).ok fun u => ∀ ρ, ACalls Try.prog 52 (us.map (TV.to EE.toEnc ρ)) [] (fun out H => out = .ret (u.to EE.toEnc ρ) ∧ H = []) := by
  unfold cmp_Compare_string__h
  split
  · split
    · rename_i h0 h1
      intro z hz ρ; refine acalls_le ?_ (cmp_Compare_string__ok _ _ hz ρ); exact ⟨argD_le h0 ρ, argD_le h1 ρ, trivial⟩
    · trivial
  · trivial
/-! ### gleaner/labels.byName -/
def labels_byName_u (r : Int) : TV EE.T := .a (.d (.int .i64) r)
def w49enc (r : Int) : RL EE.T := .ret (labels_byName_u r) []
def w49lv : Lvs := ⟨[], [], [], [], false, [], []⟩
def w49rs : List ResultVar := [.tmp 4]
def w49G (N : Nat) : Gam EE := ⟨[⟨52, cmp_Compare_string__h N⟩], EQT, [], []⟩
theorem w49Gok (N : Nat) : GOk Try.prog TT EE (w49G N) := GOk.cons (cmp_Compare_string__hok N) (GOk.nil EQT_ok)
def w49kE0 (c : Code) : List It2 := [.c c]
def w49sE0 (x0 : VLabel) (x1 : VLabel) : TS EE.T := ⟨10, [(0, .ag (unpT EE (.nam 2) x0)), (1, .ag (unpT EE (.nam 2) x1))], [], []⟩
def w49TE0 (c : Code) (N : Nat) (x0 : VLabel) (x1 : VLabel) : Tree (Lf EE.T × Option Int) :=
  .bnd (cmp_Compare_string_ N x0.Name x1.Name) fun z1 =>
  .leaf (.done (w49enc z1), some z1)
theorem w49vE0 (N : Nat) (x0 : VLabel) (x1 : VLabel) : evM TT EE (w49G N) w49lv w49rs 4000 true (w49kE0 (bodyOf 0 Try.f49)) (w49sE0 x0 x1) = (w49TE0 (bodyOf 0 Try.f49) N x0 x1).map1 := by kernel_rfl
theorem w49nE0 (N : Nat) (x0 : VLabel) (x1 : VLabel) : labels_byName N x0 x1 = (w49TE0 (bodyOf 0 Try.f49) N x0 x1).run := by kernel_rfl
theorem w49oE0 {N : Nat} {r : Int} (x0 : VLabel) (x1 : VLabel) (h : labels_byName N x0 x1 = some r) : Ends (Y := TT) EE (w49G N) w49lv w49rs (fun u => u = w49enc r) (w49kE0 (bodyOf 0 Try.f49)) (w49sE0 x0 x1) :=
  tree_use (w49vE0 N x0 x1) (w49nE0 N x0 x1) h (show (w49TE0 (bodyOf 0 Try.f49) N x0 x1).all _ from fun _ => retp (enc := w49enc) rfl)
theorem labels_byName_ok {N : Nat} (x0 : VLabel) (x1 : VLabel) {r : Int} (h : labels_byName N x0 x1 = some r) (ρ : Nat → Nat) : ACalls Try.prog 49 (([.ag (unpT EE (.nam 2) x0), .ag (unpT EE (.nam 2) x1)] : List (TV EE.T)).map (TV.to EE.toEnc ρ)) [] (fun out H => out = .ret ((labels_byName_u r).to EE.toEnc ρ) ∧ H = []) :=
  (fn_ok (bodyOf 0 Try.f49) 10 mixed (w49Gok N) Try.func49 (by kernel_rfl) rfl rfl rfl rfl (w49oE0 x0 x1 h) ρ).mono fun out H h => KPost.ret rfl h
def labels_byName_h (N : Nat) : List (TV EE.T) → PV EE.T
  | [u0, u1] => match argS EE 2 u0, argS EE 2 u1 with
    | some x0, some x1 => .opt (labels_byName N x0 x1) labels_byName_u
    | _, _ => .bad
  | _ => .bad
theorem labels_byName_hok (N : Nat) (us : List (TV EE.T)) : (labels_byName_h N us).ok fun u => ∀ ρ, ACalls Try.prog 49 (us.map (TV.to EE.toEnc ρ)) [] (fun out H => out = .ret (u.to EE.toEnc ρ) ∧ H = []) := by
  unfold labels_byName_h
  split
  · split
    · rename_i h0 h1
      intro z hz ρ; refine acalls_le ?_ (labels_byName_ok _ _ hz ρ); exact ⟨argS_le h0 ρ, argS_le h1 ρ, trivial⟩
    · trivial
  · trivial
/-! ### slices.IsSortedFunc[[]gleaner/api.Label,gleaner/api.Label] -/
def slices_IsSortedFunc_api_Label_api_Label__i0_u (r : Bool) : TV EE.T := .a (.d .bool r)
def w48i0hh (r : Bool) : List (Nat × TB EE.T) := []
def w48i0enc (r : Bool) : RL EE.T := .ret (slices_IsSortedFunc_api_Label_api_Label__i0_u r) (w48i0hh r)
def w48i0lv : Lvs := ⟨[(4, ⟨[(0, false), (1, false), (5, false)], [], []⟩)], [(2, ⟨[(0, false), (1, false), (5, false)], [], []⟩)], [], [], false, [], []⟩
def w48i0rs : List ResultVar := [.tmp 4]
def w48i0G (N : Nat) : Gam EE := ⟨[⟨49, labels_byName_h N⟩], EQT, [], []⟩
theorem w48i0Gok (N : Nat) : GOk Try.prog TT EE (w48i0G N) := GOk.cons (labels_byName_hok N) (GOk.nil EQT_ok)
def w48i0kL2 (c : Code) : List It2 := atL 2 c
def w48i0sL2 (x0 : List VLabel) (x5 : Int) : TS EE.T := ⟨25, [(0, .a (.d (.sl (.nam 2)) x0)), (1, .fn 49 []), (5, .a (.d (.int .i64) x5))], [], []⟩
def w48i0kE0 (c : Code) : List It2 := [.c c]
def w48i0sE0 (x0 : List VLabel) : TS EE.T := ⟨25, [(0, .a (.d (.sl (.nam 2)) x0)), (1, .fn 49 [])], [], []⟩
def w48i0TL2 (c : Code) (N : Nat) (n : Nat) (x0 : List VLabel) (x5 : Int) : Tree (Lf EE.T × Option Bool) :=
  .cond (decide (x5 > 0))
  (
    .bnd (idxC x0 x5) fun z1 =>
    .bnd (idxC x0 (w64 (x5 - 1))) fun z2 =>
    .bnd (labels_byName N z1 z2) fun z3 =>
    .cond (decide (z3 < 0))
    (
      .leaf (.done (w48i0enc false), some false))
    (
      .leaf (.go (w48i0kL2 c) (w48i0sL2 x0 (w64 (x5 - 1))), slices_IsSortedFunc_api_Label_api_Label__i0_L2 N n x0 (w64 (x5 - 1)))))
  (
    .leaf (.done (w48i0enc true), some true))
theorem w48i0vL2 (N : Nat) (n : Nat) (x0 : List VLabel) (x5 : Int) : evM TT EE (w48i0G N) w48i0lv w48i0rs 4000 true (w48i0kL2 (bodyOf 0 Try.f48)) (w48i0sL2 x0 x5) = (w48i0TL2 (bodyOf 0 Try.f48) N n x0 x5).map1 := by kernel_rfl
theorem w48i0nL2 (N : Nat) (n : Nat) (x0 : List VLabel) (x5 : Int) : slices_IsSortedFunc_api_Label_api_Label__i0_L2 N (n + 1) x0 x5 = (w48i0TL2 (bodyOf 0 Try.f48) N n x0 x5).run := by kernel_rfl
theorem w48i0oL2 {N : Nat} {r : Bool} : ∀ (n : Nat) (x0 : List VLabel) (x5 : Int), slices_IsSortedFunc_api_Label_api_Label__i0_L2 N n x0 x5 = some r → Ends (Y := TT) EE (w48i0G N) w48i0lv w48i0rs (fun u => u = w48i0enc r) (w48i0kL2 (bodyOf 0 Try.f48)) (w48i0sL2 x0 x5)
  | 0, _, _, h => by cases h
  | n + 1, x0, x5, h => tree_use (w48i0vL2 N n x0 x5) (w48i0nL2 N n x0 x5) h (show (w48i0TL2 (bodyOf 0 Try.f48) N n x0 x5).all _ from ⟨fun _ => fun _ => fun _ => ⟨retp (enc := w48i0enc) rfl, fun h => (w48i0oL2 n) _ _ h⟩, retp (enc := w48i0enc) rfl⟩)
def w48i0TE0 (c : Code) (N : Nat) (x0 : List VLabel) : Tree (Lf EE.T × Option Bool) :=
  .leaf (.go (w48i0kL2 c) (w48i0sL2 x0 (w64 ((x0.length : Int) - 1))), slices_IsSortedFunc_api_Label_api_Label__i0_L2 N N x0 (w64 ((x0.length : Int) - 1)))
theorem w48i0vE0 (N : Nat) (x0 : List VLabel) : evM TT EE (w48i0G N) w48i0lv w48i0rs 4000 true (w48i0kE0 (bodyOf 0 Try.f48)) (w48i0sE0 x0) = (w48i0TE0 (bodyOf 0 Try.f48) N x0).map1 := by kernel_rfl
theorem w48i0nE0 (N : Nat) (x0 : List VLabel) : slices_IsSortedFunc_api_Label_api_Label__i0 N x0 = (w48i0TE0 (bodyOf 0 Try.f48) N x0).run := by kernel_rfl
theorem w48i0oE0 {N : Nat} {r : Bool} (x0 : List VLabel) (h : slices_IsSortedFunc_api_Label_api_Label__i0 N x0 = some r) : Ends (Y := TT) EE (w48i0G N) w48i0lv w48i0rs (fun u => u = w48i0enc r) (w48i0kE0 (bodyOf 0 Try.f48)) (w48i0sE0 x0) :=
  tree_use (w48i0vE0 N x0) (w48i0nE0 N x0) h (show (w48i0TE0 (bodyOf 0 Try.f48) N x0).all _ from fun h => w48i0oL2 N _ _ h)
def w48i0us (x0 : List VLabel) : List (TV EE.T) := [.a (.d (.sl (.nam 2)) x0), .fn 49 []]
def w48i0h0 (x0 : List VLabel) : List (Nat × TB EE.T) := []
theorem slices_IsSortedFunc_api_Label_api_Label__i0_ok {N : Nat} (x0 : List VLabel) {r : Bool} (h : slices_IsSortedFunc_api_Label_api_Label__i0 N x0 = some r) (ρ : Nat → Nat) (hi : Inj ρ (w48i0h0 x0)) : ACalls Try.prog 48 ((w48i0us x0).map (TV.to EE.toEnc ρ)) (hTo EE.toEnc ρ (w48i0h0 x0)) (fun out H => out = .ret ((slices_IsSortedFunc_api_Label_api_Label__i0_u r).to EE.toEnc ρ) ∧ H = hTo EE.toEnc ρ (w48i0hh r)) :=
  (fn_okH (bodyOf 0 Try.f48) 25 mixed (w48i0Gok N) Try.func48 (by kernel_rfl) rfl rfl rfl rfl (w48i0oE0 x0 h) ρ hi).mono fun out H h => KPost.retH rfl rfl h
def slices_IsSortedFunc_api_Label_api_Label__i0_h (N : Nat) (us : List (TV EE.T)) (hs : List (Nat × TB EE.T)) : XR EE.T :=
  gdX (lenX us 2) <|
  bnX (aD (.sl (.nam 2)) us 0) fun x0 =>
  bnX (aF 49 us 1) fun c1 =>
  bnX (cbs c1) fun s1 =>
  gdX (lenX s1 0) <|
  gdX (goodIds hs []) <|
  .ret (slices_IsSortedFunc_api_Label_api_Label__i0 N x0) [] slices_IsSortedFunc_api_Label_api_Label__i0_u (w48i0hh)
theorem slices_IsSortedFunc_api_Label_api_Label__i0_hok (N : Nat) : XOk Try.prog EE 48 (slices_IsSortedFunc_api_Label_api_Label__i0_h N) := fun us hs =>
  gdX_ok fun h1 => bnX_ok fun x0 h2 => bnX_ok fun c1 h3 => bnX_ok fun s1 h4 => gdX_ok fun h5 => gdX_ok fun h6 => fun z hz => ⟨rfl, fun ρ hi => xcall (us' := w48i0us x0) (h0 := w48i0h0 x0) (ρ' := rhoS ρ []) ⟨aD_le h2, aF_le (js := []) h3 h4 (by rw [lis0 (lenX_ok h5)];  kernel_rfl), lenX_ok h1⟩ trivial (slices_IsSortedFunc_api_Label_api_Label__i0_ok x0 hz _ (rhoS_inj hi h6 _ (by kernel_rfl))) (fun out H h => ⟨h.1.trans (by kernel_rfl), h.2.trans (by kernel_rfl)⟩)⟩
/-! ### gleaner/labels.Check -/
def labels_Check_u (r : Int) : TV EE.T := .a (.d (.int .i64) r)
def w44enc (r : Int) : RL EE.T := .ret (labels_Check_u r) []
def w44lv : Lvs := ⟨[], [], [], [], false, [], []⟩
def w44rs : List ResultVar := [.tmp 2]
def w44G (N : Nat) : Gam EE := ⟨[⟨47, labels_each_h N⟩], EQT, [⟨48, slices_IsSortedFunc_api_Label_api_Label__i0_h N⟩], []⟩
theorem w44Gok (N : Nat) : GOk Try.prog TT EE (w44G N) := GOk.cons (labels_each_hok N) (GOk.consx (slices_IsSortedFunc_api_Label_api_Label__i0_hok N) (GOk.nil EQT_ok))
def w44kE0 (c : Code) : List It2 := [.c c]
def w44sE0 (x0 : List VLabel) : TS EE.T := ⟨12, [(0, .a (.d (.sl (.nam 2)) x0))], [], []⟩
def w44TE0 (c : Code) (N : Nat) (x0 : List VLabel) : Tree (Lf EE.T × Option Int) :=
  .bnd (labels_each N x0 false) fun z1 =>
  .cond (z1 != 0)
  (
    .leaf (.done (w44enc z1), some z1))
  (
    .bnd (slices_IsSortedFunc_api_Label_api_Label__i0 N x0) fun z2 =>
    .cond (!z2)
    (
      .leaf (.done (w44enc 4), some 4))
    (
      .leaf (.done (w44enc 0), some 0)))
theorem w44vE0 (N : Nat) (x0 : List VLabel) : evM TT EE (w44G N) w44lv w44rs 4000 true (w44kE0 (bodyOf 0 Try.f44)) (w44sE0 x0) = (w44TE0 (bodyOf 0 Try.f44) N x0).map1 := by kernel_rfl
theorem w44nE0 (N : Nat) (x0 : List VLabel) : labels_Check N x0 = (w44TE0 (bodyOf 0 Try.f44) N x0).run := by kernel_rfl
theorem w44oE0 {N : Nat} {r : Int} (x0 : List VLabel) (h : labels_Check N x0 = some r) : Ends (Y := TT) EE (w44G N) w44lv w44rs (fun u => u = w44enc r) (w44kE0 (bodyOf 0 Try.f44)) (w44sE0 x0) :=
  tree_use (w44vE0 N x0) (w44nE0 N x0) h (show (w44TE0 (bodyOf 0 Try.f44) N x0).all _ from fun _ => ⟨retp (enc := w44enc) rfl, fun _ => ⟨retp (enc := w44enc) rfl, retp (enc := w44enc) rfl⟩⟩)
theorem labels_Check_ok {N : Nat} (x0 : List VLabel) {r : Int} (h : labels_Check N x0 = some r) (ρ : Nat → Nat) : ACalls Try.prog 44 (([.a (.d (.sl (.nam 2)) x0)] : List (TV EE.T)).map (TV.to EE.toEnc ρ)) [] (fun out H => out = .ret ((labels_Check_u r).to EE.toEnc ρ) ∧ H = []) :=
  (fn_ok (bodyOf 0 Try.f44) 12 mixed (w44Gok N) Try.func44 (by kernel_rfl) rfl rfl rfl rfl (w44oE0 x0 h) ρ).mono fun out H h => KPost.ret rfl h
def labels_Check_h (N : Nat) : List (TV EE.T) → PV EE.T
  | [u0] => match argD (.sl (.nam 2)) u0 with
    | some x0 => .opt (labels_Check N x0) labels_Check_u
    | _ => .bad
  | _ => .bad
theorem labels_Check_hok (N : Nat) (us : List (TV EE.T)) : (labels_Check_h N us).ok fun u => ∀ ρ, ACalls Try.prog 44 (us.map (TV.to EE.toEnc ρ)) [] (fun out H => out = .ret (u.to EE.toEnc ρ) ∧ H = []) := by
  unfold labels_Check_h
  split
  · split
    · rename_i h0
      intro z hz ρ; refine acalls_le ?_ (labels_Check_ok _ hz ρ); exact ⟨argD_le h0 ρ, trivial⟩
    · trivial
  · trivial
/-! ### gleaner/record.checkRef -/
def record_checkRef_u (r : Int) : TV EE.T := .a (.d (.int .i64) r)
def w29enc (r : Int) : RL EE.T := .ret (record_checkRef_u r) []
def w29lv : Lvs := ⟨[], [], [], [], false, [], []⟩
def w29rs : List ResultVar := [.tmp 2]
def w29G (N : Nat) : Gam EE := ⟨[⟨44, labels_Check_h N⟩, ⟨30, record_isRef_h N⟩], EQT, [], []⟩
theorem w29Gok (N : Nat) : GOk Try.prog TT EE (w29G N) := GOk.cons (labels_Check_hok N) (GOk.cons (record_isRef_hok N) (GOk.nil EQT_ok))
def w29kE0 (c : Code) : List It2 := [.c c]
def w29sE0 (x0 : VRef) : TS EE.T := ⟨14, [(0, .ag (unpT EE (.nam 3) x0))], [], []⟩
def w29TE0 (c : Code) (N : Nat) (x0 : VRef) : Tree (Lf EE.T × Option Int) :=
  .bnd (record_isRef N x0.Ref) fun z1 =>
  .cond (!z1)
  (
    .leaf (.done (w29enc 3), some 3))
  (
    .cond ((x0.Labels.length : Int) == 0)
    (
      .leaf (.done (w29enc 1), some 1))
    (
      .bnd (labels_Check N x0.Labels) fun z2 =>
      .leaf (.done (w29enc z2), some z2)))
theorem w29vE0 (N : Nat) (x0 : VRef) : evM TT EE (w29G N) w29lv w29rs 4000 true (w29kE0 (bodyOf 0 Try.f29)) (w29sE0 x0) = (w29TE0 (bodyOf 0 Try.f29) N x0).map1 := by kernel_rfl
theorem w29nE0 (N : Nat) (x0 : VRef) : record_checkRef N x0 = (w29TE0 (bodyOf 0 Try.f29) N x0).run := by kernel_rfl
theorem w29oE0 {N : Nat} {r : Int} (x0 : VRef) (h : record_checkRef N x0 = some r) : Ends (Y := TT) EE (w29G N) w29lv w29rs (fun u => u = w29enc r) (w29kE0 (bodyOf 0 Try.f29)) (w29sE0 x0) :=
  tree_use (w29vE0 N x0) (w29nE0 N x0) h (show (w29TE0 (bodyOf 0 Try.f29) N x0).all _ from fun _ => ⟨retp (enc := w29enc) rfl, ⟨retp (enc := w29enc) rfl, fun _ => retp (enc := w29enc) rfl⟩⟩)
theorem record_checkRef_ok {N : Nat} (x0 : VRef) {r : Int} (h : record_checkRef N x0 = some r) (ρ : Nat → Nat) : ACalls Try.prog 29 (([.ag (unpT EE (.nam 3) x0)] : List (TV EE.T)).map (TV.to EE.toEnc ρ)) [] (fun out H => out = .ret ((record_checkRef_u r).to EE.toEnc ρ) ∧ H = []) :=
  (fn_ok (bodyOf 0 Try.f29) 14 mixed (w29Gok N) Try.func29 (by kernel_rfl) rfl rfl rfl rfl (w29oE0 x0 h) ρ).mono fun out H h => KPost.ret rfl h
def record_checkRef_h (N : Nat) : List (TV EE.T) → PV EE.T
  | [u0] => match argS EE 3 u0 with
    | some x0 => .opt (record_checkRef N x0) record_checkRef_u
    | _ => .bad
  | _ => .bad
theorem record_checkRef_hok (N : Nat) (us : List (TV EE.T)) : (record_checkRef_h N us).ok fun u => ∀ ρ, ACalls Try.prog 29 (us.map (TV.to EE.toEnc ρ)) [] (fun out H => out = .ret (u.to EE.toEnc ρ) ∧ H = []) := by
  unfold record_checkRef_h
  split
  · split
    · rename_i h0
      intro z hz ρ; refine acalls_le ?_ (record_checkRef_ok _ hz ρ); exact ⟨argS_le h0 ρ, trivial⟩
    · trivial
  · trivial
/-! ### gleaner/record.isTime -/
def record_isTime_u (r : Bool) : TV EE.T := .a (.d .bool r)
def w31enc (r : Bool) : RL EE.T := .ret (record_isTime_u r) []
def w31lv : Lvs := ⟨[], [], [], [], false, [], []⟩
def w31rs : List ResultVar := [.tmp 2]
def w31G (N : Nat) : Gam EE := ⟨[], EQT, [], []⟩
theorem w31Gok (N : Nat) : GOk Try.prog TT EE (w31G N) := GOk.nil EQT_ok
def w31kE0 (c : Code) : List It2 := [.c c]
def w31sE0 (x0 : Int) : TS EE.T := ⟨9, [(0, .a (.d (.int .i64) x0))], [], []⟩
def w31TE0 (c : Code) (N : Nat) (x0 : Int) : Tree (Lf EE.T × Option Bool) :=
  .cond (decide (x0 ≥ (-9007199254740991)))
  (
    .leaf (.done (w31enc (decide (x0 ≤ 9007199254740991))), some (decide (x0 ≤ 9007199254740991))))
  (
    .leaf (.done (w31enc false), some false))
theorem w31vE0 (N : Nat) (x0 : Int) : evM TT EE (w31G N) w31lv w31rs 4000 true (w31kE0 (bodyOf 0 Try.f31)) (w31sE0 x0) = (w31TE0 (bodyOf 0 Try.f31) N x0).map1 := by kernel_rfl
theorem w31nE0 (N : Nat) (x0 : Int) : record_isTime N x0 = (w31TE0 (bodyOf 0 Try.f31) N x0).run := by kernel_rfl
theorem w31oE0 {N : Nat} {r : Bool} (x0 : Int) (h : record_isTime N x0 = some r) : Ends (Y := TT) EE (w31G N) w31lv w31rs (fun u => u = w31enc r) (w31kE0 (bodyOf 0 Try.f31)) (w31sE0 x0) :=
  tree_use (w31vE0 N x0) (w31nE0 N x0) h (show (w31TE0 (bodyOf 0 Try.f31) N x0).all _ from ⟨retp (enc := w31enc) rfl, retp (enc := w31enc) rfl⟩)
theorem record_isTime_ok {N : Nat} (x0 : Int) {r : Bool} (h : record_isTime N x0 = some r) (ρ : Nat → Nat) : ACalls Try.prog 31 (([.a (.d (.int .i64) x0)] : List (TV EE.T)).map (TV.to EE.toEnc ρ)) [] (fun out H => out = .ret ((record_isTime_u r).to EE.toEnc ρ) ∧ H = []) :=
  (fn_ok (bodyOf 0 Try.f31) 9 mixed (w31Gok N) Try.func31 (by kernel_rfl) rfl rfl rfl rfl (w31oE0 x0 h) ρ).mono fun out H h => KPost.ret rfl h
def record_isTime_h (N : Nat) : List (TV EE.T) → PV EE.T
  | [u0] => match argD (.int .i64) u0 with
    | some x0 => .opt (record_isTime N x0) record_isTime_u
    | _ => .bad
  | _ => .bad
theorem record_isTime_hok (N : Nat) (us : List (TV EE.T)) : (record_isTime_h N us).ok fun u => ∀ ρ, ACalls Try.prog 31 (us.map (TV.to EE.toEnc ρ)) [] (fun out H => out = .ret (u.to EE.toEnc ρ) ∧ H = []) := by
  unfold record_isTime_h
  split
  · split
    · rename_i h0
      intro z hz ρ; refine acalls_le ?_ (record_isTime_ok _ hz ρ); exact ⟨argD_le h0 ρ, trivial⟩
    · trivial
  · trivial
/-! ### gleaner/record.check -/
def record_check_u (r : Int) : TV EE.T := .a (.d (.int .i64) r)
def w14enc (r : Int) : RL EE.T := .ret (record_check_u r) []
def w14lv : Lvs := ⟨[(3, ⟨[(1, false)], [], [(1, (some 5, []))]⟩), (5, ⟨[(1, false)], [], [(1, (some 5, []))]⟩)], [(8, ⟨[(1, false), (50, false), (51, false), (52, false)], [], [(1, (some 5, []))]⟩), (15, ⟨[(63, false), (64, false), (65, false)], [], []⟩)], [3, 5], [], false, [], []⟩
def w14rs : List ResultVar := [.tmp 2]
def w14G (N : Nat) : Gam EE := ⟨[⟨29, record_checkRef_h N⟩, ⟨30, record_isRef_h N⟩, ⟨31, record_isTime_h N⟩], EQT, [], []⟩
theorem w14Gok (N : Nat) : GOk Try.prog TT EE (w14G N) := GOk.cons (record_checkRef_hok N) (GOk.cons (record_isRef_hok N) (GOk.cons (record_isTime_hok N) (GOk.nil EQT_ok)))
def w14kL15 (c : Code) : List It2 := atL 15 c
def w14sL15 (x63 : List VPoint) (x64 : Int) (x65 : Int) : TS EE.T := ⟨80, [(63, .a (.d (.sl (.nam 4)) x63)), (64, .a (.d (.int .i64) x64)), (65, .a (.d (.int .i64) x65))], [], []⟩
def w14kL8 (c : Code) : List It2 := atL 8 c
def w14sL8 (x50 : List VRef) (x51 : Int) (x52 : Int) (b1 : VRecord) : TS EE.T := ⟨80, [(1, .a (.box 1 0)), (50, .a (.d (.sl (.nam 3)) x50)), (51, .a (.d (.int .i64) x51)), (52, .a (.d (.int .i64) x52))], [(1, .cs (unpT EE (.nam 5) b1))], []⟩
def w14kR5 (c : Code) : List It2 := atR 5 c
def w14sR5 (b1 : VRecord) : TS EE.T := ⟨80, [(1, .a (.box 1 0))], [(1, .cs (unpT EE (.nam 5) b1))], []⟩
def w14kR3 (c : Code) : List It2 := atR 3 c
def w14sR3 (b1 : VRecord) : TS EE.T := ⟨80, [(1, .a (.box 1 0))], [(1, .cs (unpT EE (.nam 5) b1))], []⟩
def w14kE0 (c : Code) : List It2 := [.c c]
def w14sE0 (x0 : VRecord) : TS EE.T := ⟨80, [(0, .ag (unpT EE (.nam 5) x0))], [], []⟩
def w14TL15 (c : Code) (N : Nat) (n : Nat) (x63 : List VPoint) (x64 : Int) (x65 : Int) : Tree (Lf EE.T × Option Int) :=
  .cond (decide (x65 < x64))
  (
    .bnd (idxC x63 x65) fun z3 =>
    .bnd (record_isRef N z3.Ref) fun z4 =>
    .cond (!z4)
    (
      .leaf (.done (w14enc 3), some 3))
    (
      .bnd (record_isTime N z3.Time) fun z5 =>
      .cond (!z5)
      (
        .leaf (.done (w14enc 3), some 3))
      (
        .leaf (.go (w14kL15 c) (w14sL15 x63 x64 (w64 (x65 + 1))), record_check_L15 N n x63 x64 (w64 (x65 + 1))))))
  (
    .leaf (.done (w14enc 0), some 0))
theorem w14vL15 (N : Nat) (n : Nat) (x63 : List VPoint) (x64 : Int) (x65 : Int) : evM TT EE (w14G N) w14lv w14rs 4000 true (w14kL15 (bodyOf 0 Try.f14)) (w14sL15 x63 x64 x65) = (w14TL15 (bodyOf 0 Try.f14) N n x63 x64 x65).map1 := by kernel_rfl
theorem w14nL15 (N : Nat) (n : Nat) (x63 : List VPoint) (x64 : Int) (x65 : Int) : record_check_L15 N (n + 1) x63 x64 x65 = (w14TL15 (bodyOf 0 Try.f14) N n x63 x64 x65).run := by kernel_rfl
theorem w14oL15 {N : Nat} {r : Int} : ∀ (n : Nat) (x63 : List VPoint) (x64 : Int) (x65 : Int), record_check_L15 N n x63 x64 x65 = some r → Ends (Y := TT) EE (w14G N) w14lv w14rs (fun u => u = w14enc r) (w14kL15 (bodyOf 0 Try.f14)) (w14sL15 x63 x64 x65)
  | 0, _, _, _, h => by cases h
  | n + 1, x63, x64, x65, h => tree_use (w14vL15 N n x63 x64 x65) (w14nL15 N n x63 x64 x65) h (show (w14TL15 (bodyOf 0 Try.f14) N n x63 x64 x65).all _ from ⟨fun _ => fun _ => ⟨retp (enc := w14enc) rfl, fun _ => ⟨retp (enc := w14enc) rfl, fun h => (w14oL15 n) _ _ _ h⟩⟩, retp (enc := w14enc) rfl⟩)
def w14TL8 (c : Code) (N : Nat) (n : Nat) (x50 : List VRef) (x51 : Int) (x52 : Int) (b1 : VRecord) : Tree (Lf EE.T × Option Int) :=
  .cond (decide (x52 < x51))
  (
    .bnd (idxC x50 x52) fun z1 =>
    .bnd (record_checkRef N z1) fun z2 =>
    .cond (z2 != 0)
    (
      .leaf (.done (w14enc z2), some z2))
    (
      .leaf (.go (w14kL8 c) (w14sL8 x50 x51 (w64 (x52 + 1)) b1), record_check_L8 N n x50 x51 (w64 (x52 + 1)) b1)))
  (
    .leaf (.go (w14kL15 c) (w14sL15 b1.Points (b1.Points.length : Int) 0), record_check_L15 N n b1.Points (b1.Points.length : Int) 0))
theorem w14vL8 (N : Nat) (n : Nat) (x50 : List VRef) (x51 : Int) (x52 : Int) (b1 : VRecord) : evM TT EE (w14G N) w14lv w14rs 4000 true (w14kL8 (bodyOf 0 Try.f14)) (w14sL8 x50 x51 x52 b1) = (w14TL8 (bodyOf 0 Try.f14) N n x50 x51 x52 b1).map1 := by kernel_rfl
theorem w14nL8 (N : Nat) (n : Nat) (x50 : List VRef) (x51 : Int) (x52 : Int) (b1 : VRecord) : record_check_L8 N (n + 1) x50 x51 x52 b1 = (w14TL8 (bodyOf 0 Try.f14) N n x50 x51 x52 b1).run := by kernel_rfl
theorem w14oL8 {N : Nat} {r : Int} : ∀ (n : Nat) (x50 : List VRef) (x51 : Int) (x52 : Int) (b1 : VRecord), record_check_L8 N n x50 x51 x52 b1 = some r → Ends (Y := TT) EE (w14G N) w14lv w14rs (fun u => u = w14enc r) (w14kL8 (bodyOf 0 Try.f14)) (w14sL8 x50 x51 x52 b1)
  | 0, _, _, _, _, h => by cases h
  | n + 1, x50, x51, x52, b1, h => tree_use (w14vL8 N n x50 x51 x52 b1) (w14nL8 N n x50 x51 x52 b1) h (show (w14TL8 (bodyOf 0 Try.f14) N n x50 x51 x52 b1).all _ from ⟨fun _ => fun _ => ⟨retp (enc := w14enc) rfl, fun h => (w14oL8 n) _ _ _ _ h⟩, fun h => w14oL15 n _ _ _ h⟩)
def w14TR5 (c : Code) (N : Nat) (n : Nat) (b1 : VRecord) : Tree (Lf EE.T × Option Int) :=
  .cond (decide ((b1.Refs.length : Int) > 200))
  (
    .leaf (.done (w14enc 2), some 2))
  (
    .cond (decide ((b1.Points.length : Int) > 200))
    (
      .leaf (.done (w14enc 2), some 2))
    (
      .leaf (.go (w14kL8 c) (w14sL8 b1.Refs (b1.Refs.length : Int) 0 b1), record_check_L8 N n b1.Refs (b1.Refs.length : Int) 0 b1)))
theorem w14vR5 (N : Nat) (n : Nat) (b1 : VRecord) : evM TT EE (w14G N) w14lv w14rs 4000 true (w14kR5 (bodyOf 0 Try.f14)) (w14sR5 b1) = (w14TR5 (bodyOf 0 Try.f14) N n b1).map1 := by kernel_rfl
theorem w14nR5 (N : Nat) (n : Nat) (b1 : VRecord) : record_check_R5 N n b1 = (w14TR5 (bodyOf 0 Try.f14) N n b1).run := by kernel_rfl
theorem w14oR5 {N : Nat} {r : Int} (n : Nat) (b1 : VRecord) (h : record_check_R5 N n b1 = some r) : Ends (Y := TT) EE (w14G N) w14lv w14rs (fun u => u = w14enc r) (w14kR5 (bodyOf 0 Try.f14)) (w14sR5 b1) :=
  tree_use (w14vR5 N n b1) (w14nR5 N n b1) h (show (w14TR5 (bodyOf 0 Try.f14) N n b1).all _ from ⟨retp (enc := w14enc) rfl, ⟨retp (enc := w14enc) rfl, fun h => w14oL8 n _ _ _ _ h⟩⟩)
def w14TR3 (c : Code) (N : Nat) (n : Nat) (b1 : VRecord) : Tree (Lf EE.T × Option Int) :=
  .cond (b1.Kind == 1)
  (
    .cond (decide ((b1.Points.length : Int) > 0))
    (
      .leaf (.done (w14enc 1), some 1))
    (
      .cond (b1.Kind == 2)
      (
        .cond (decide ((b1.Refs.length : Int) > 0))
        (
          .leaf (.done (w14enc 1), some 1))
        (
          .leaf (.go (w14kR5 c) (w14sR5 b1), record_check_R5 N n b1)))
      (
        .leaf (.go (w14kR5 c) (w14sR5 b1), record_check_R5 N n b1))))
  (
    .cond (b1.Kind == 2)
    (
      .cond (decide ((b1.Refs.length : Int) > 0))
      (
        .leaf (.done (w14enc 1), some 1))
      (
        .leaf (.go (w14kR5 c) (w14sR5 b1), record_check_R5 N n b1)))
    (
      .leaf (.go (w14kR5 c) (w14sR5 b1), record_check_R5 N n b1)))
theorem w14vR3 (N : Nat) (n : Nat) (b1 : VRecord) : evM TT EE (w14G N) w14lv w14rs 4000 true (w14kR3 (bodyOf 0 Try.f14)) (w14sR3 b1) = (w14TR3 (bodyOf 0 Try.f14) N n b1).map1 := by kernel_rfl
theorem w14nR3 (N : Nat) (n : Nat) (b1 : VRecord) : record_check_R3 N n b1 = (w14TR3 (bodyOf 0 Try.f14) N n b1).run := by kernel_rfl
theorem w14oR3 {N : Nat} {r : Int} (n : Nat) (b1 : VRecord) (h : record_check_R3 N n b1 = some r) : Ends (Y := TT) EE (w14G N) w14lv w14rs (fun u => u = w14enc r) (w14kR3 (bodyOf 0 Try.f14)) (w14sR3 b1) :=
  tree_use (w14vR3 N n b1) (w14nR3 N n b1) h (show (w14TR3 (bodyOf 0 Try.f14) N n b1).all _ from ⟨⟨retp (enc := w14enc) rfl, ⟨⟨retp (enc := w14enc) rfl, fun h => w14oR5 n _ h⟩, fun h => w14oR5 n _ h⟩⟩, ⟨⟨retp (enc := w14enc) rfl, fun h => w14oR5 n _ h⟩, fun h => w14oR5 n _ h⟩⟩)
def w14TE0 (c : Code) (N : Nat) (x0 : VRecord) : Tree (Lf EE.T × Option Int) :=
  .cond (x0.Kind != 1)
  (
    .cond (x0.Kind != 2)
    (
      .leaf (.done (w14enc 7), some 7))
    (
      .leaf (.go (w14kR3 c) (w14sR3 x0), record_check_R3 N N x0)))
  (
    .leaf (.go (w14kR3 c) (w14sR3 x0), record_check_R3 N N x0))
theorem w14vE0 (N : Nat) (x0 : VRecord) : evM TT EE (w14G N) w14lv w14rs 4000 true (w14kE0 (bodyOf 0 Try.f14)) (w14sE0 x0) = (w14TE0 (bodyOf 0 Try.f14) N x0).map1 := by kernel_rfl
theorem w14nE0 (N : Nat) (x0 : VRecord) : record_check N x0 = (w14TE0 (bodyOf 0 Try.f14) N x0).run := by kernel_rfl
theorem w14oE0 {N : Nat} {r : Int} (x0 : VRecord) (h : record_check N x0 = some r) : Ends (Y := TT) EE (w14G N) w14lv w14rs (fun u => u = w14enc r) (w14kE0 (bodyOf 0 Try.f14)) (w14sE0 x0) :=
  tree_use (w14vE0 N x0) (w14nE0 N x0) h (show (w14TE0 (bodyOf 0 Try.f14) N x0).all _ from ⟨⟨retp (enc := w14enc) rfl, fun h => w14oR3 N _ h⟩, fun h => w14oR3 N _ h⟩)
theorem record_check_ok {N : Nat} (x0 : VRecord) {r : Int} (h : record_check N x0 = some r) (ρ : Nat → Nat) : ACalls Try.prog 14 (([.ag (unpT EE (.nam 5) x0)] : List (TV EE.T)).map (TV.to EE.toEnc ρ)) [] (fun out H => out = .ret ((record_check_u r).to EE.toEnc ρ) ∧ H = []) :=
  (fn_ok (bodyOf 0 Try.f14) 80 mixed (w14Gok N) Try.func14 (by kernel_rfl) rfl rfl rfl rfl (w14oE0 x0 h) ρ).mono fun out H h => KPost.ret rfl h
def record_check_h (N : Nat) : List (TV EE.T) → PV EE.T
  | [u0] => match argS EE 5 u0 with
    | some x0 => .opt (record_check N x0) record_check_u
    | _ => .bad
  | _ => .bad
theorem record_check_hok (N : Nat) (us : List (TV EE.T)) : (record_check_h N us).ok fun u => ∀ ρ, ACalls Try.prog 14 (us.map (TV.to EE.toEnc ρ)) [] (fun out H => out = .ret (u.to EE.toEnc ρ) ∧ H = []) := by
  unfold record_check_h
  split
  · split
    · rename_i h0
      intro z hz ρ; refine acalls_le ?_ (record_check_ok _ hz ρ); exact ⟨argS_le h0 ρ, trivial⟩
    · trivial
  · trivial
/-! ### gleaner/record.number -/
def record_number_u (r : List UInt8) : TV EE.T := .a (.d .str r)
def w15enc (r : List UInt8) : RL EE.T := .ret (record_number_u r) []
def w15lv : Lvs := ⟨[], [], [], [], false, [], []⟩
def w15rs : List ResultVar := [.tmp 2]
def w15G (N : Nat) : Gam EE := ⟨[⟨32, wire_Number_h N⟩], EQT, [], []⟩
theorem w15Gok (N : Nat) : GOk Try.prog TT EE (w15G N) := GOk.cons (wire_Number_hok N) (GOk.nil EQT_ok)
def w15kE0 (c : Code) : List It2 := [.c c]
def w15sE0 (x0 : Int) : TS EE.T := ⟨6, [(0, .a (.d (.int .i64) x0))], [], []⟩
def w15TE0 (c : Code) (N : Nat) (x0 : Int) : Tree (Lf EE.T × Option (List UInt8)) :=
  .bnd (wire_Number N (IntKind.wrap .u64 x0)) fun z1 =>
  .leaf (.done (w15enc z1), some z1)
theorem w15vE0 (N : Nat) (x0 : Int) : evM TT EE (w15G N) w15lv w15rs 4000 true (w15kE0 (bodyOf 0 Try.f15)) (w15sE0 x0) = (w15TE0 (bodyOf 0 Try.f15) N x0).map1 := by kernel_rfl
theorem w15nE0 (N : Nat) (x0 : Int) : record_number N x0 = (w15TE0 (bodyOf 0 Try.f15) N x0).run := by kernel_rfl
theorem w15oE0 {N : Nat} {r : List UInt8} (x0 : Int) (h : record_number N x0 = some r) : Ends (Y := TT) EE (w15G N) w15lv w15rs (fun u => u = w15enc r) (w15kE0 (bodyOf 0 Try.f15)) (w15sE0 x0) :=
  tree_use (w15vE0 N x0) (w15nE0 N x0) h (show (w15TE0 (bodyOf 0 Try.f15) N x0).all _ from fun _ => retp (enc := w15enc) rfl)
theorem record_number_ok {N : Nat} (x0 : Int) {r : List UInt8} (h : record_number N x0 = some r) (ρ : Nat → Nat) : ACalls Try.prog 15 (([.a (.d (.int .i64) x0)] : List (TV EE.T)).map (TV.to EE.toEnc ρ)) [] (fun out H => out = .ret ((record_number_u r).to EE.toEnc ρ) ∧ H = []) :=
  (fn_ok (bodyOf 0 Try.f15) 6 mixed (w15Gok N) Try.func15 (by kernel_rfl) rfl rfl rfl rfl (w15oE0 x0 h) ρ).mono fun out H h => KPost.ret rfl h
def record_number_h (N : Nat) : List (TV EE.T) → PV EE.T
  | [u0] => match argD (.int .i64) u0 with
    | some x0 => .opt (record_number N x0) record_number_u
    | _ => .bad
  | _ => .bad
theorem record_number_hok (N : Nat) (us : List (TV EE.T)) : (record_number_h N us).ok fun u => ∀ ρ, ACalls Try.prog 15 (us.map (TV.to EE.toEnc ρ)) [] (fun out H => out = .ret (u.to EE.toEnc ρ) ∧ H = []) := by
  unfold record_number_h
  split
  · split
    · rename_i h0
      intro z hz ρ; refine acalls_le ?_ (record_number_ok _ hz ρ); exact ⟨argD_le h0 ρ, trivial⟩
    · trivial
  · trivial
/-! ### gleaner/record.text -/
def record_text_u (r : List UInt8) : TV EE.T := .a (.d .str r)
def w16enc (r : List UInt8) : RL EE.T := .ret (record_text_u r) []
def w16lv : Lvs := ⟨[], [], [], [], false, [], []⟩
def w16rs : List ResultVar := [.tmp 2]
def w16G (N : Nat) : Gam EE := ⟨[⟨15, record_number_h N⟩], EQT, [], []⟩
theorem w16Gok (N : Nat) : GOk Try.prog TT EE (w16G N) := GOk.cons (record_number_hok N) (GOk.nil EQT_ok)
def w16kE0 (c : Code) : List It2 := [.c c]
def w16sE0 (x0 : List UInt8) : TS EE.T := ⟨8, [(0, .a (.d .str x0))], [], []⟩
def w16TE0 (c : Code) (N : Nat) (x0 : List UInt8) : Tree (Lf EE.T × Option (List UInt8)) :=
  .bnd (record_number N (x0.length : Int)) fun z1 =>
  .bnd (catC z1 x0) fun z2 =>
  .leaf (.done (w16enc z2), some z2)
theorem w16vE0 (N : Nat) (x0 : List UInt8) : evM TT EE (w16G N) w16lv w16rs 4000 true (w16kE0 (bodyOf 0 Try.f16)) (w16sE0 x0) = (w16TE0 (bodyOf 0 Try.f16) N x0).map1 := by kernel_rfl
theorem w16nE0 (N : Nat) (x0 : List UInt8) : record_text N x0 = (w16TE0 (bodyOf 0 Try.f16) N x0).run := by kernel_rfl
theorem w16oE0 {N : Nat} {r : List UInt8} (x0 : List UInt8) (h : record_text N x0 = some r) : Ends (Y := TT) EE (w16G N) w16lv w16rs (fun u => u = w16enc r) (w16kE0 (bodyOf 0 Try.f16)) (w16sE0 x0) :=
  tree_use (w16vE0 N x0) (w16nE0 N x0) h (show (w16TE0 (bodyOf 0 Try.f16) N x0).all _ from fun _ => fun _ => retp (enc := w16enc) rfl)
theorem record_text_ok {N : Nat} (x0 : List UInt8) {r : List UInt8} (h : record_text N x0 = some r) (ρ : Nat → Nat) : ACalls Try.prog 16 (([.a (.d .str x0)] : List (TV EE.T)).map (TV.to EE.toEnc ρ)) [] (fun out H => out = .ret ((record_text_u r).to EE.toEnc ρ) ∧ H = []) :=
  (fn_ok (bodyOf 0 Try.f16) 8 mixed (w16Gok N) Try.func16 (by kernel_rfl) rfl rfl rfl rfl (w16oE0 x0 h) ρ).mono fun out H h => KPost.ret rfl h
def record_text_h (N : Nat) : List (TV EE.T) → PV EE.T
  | [u0] => match argD .str u0 with
    | some x0 => .opt (record_text N x0) record_text_u
    | _ => .bad
  | _ => .bad
theorem record_text_hok (N : Nat) (us : List (TV EE.T)) : (record_text_h N us).ok fun u => ∀ ρ, ACalls Try.prog 16 (us.map (TV.to EE.toEnc ρ)) [] (fun out H => out = .ret (u.to EE.toEnc ρ) ∧ H = []) := by
  unfold record_text_h
  split
  · split
    · rename_i h0
      intro z hz ρ; refine acalls_le ?_ (record_text_ok _ hz ρ); exact ⟨argD_le h0 ρ, trivial⟩
    · trivial
  · trivial
/-! ### gleaner/record.signed -/
def record_signed_u (r : List UInt8) : TV EE.T := .a (.d .str r)
def w17enc (r : List UInt8) : RL EE.T := .ret (record_signed_u r) []
def w17lv : Lvs := ⟨[], [], [], [], false, [], []⟩
def w17rs : List ResultVar := [.tmp 2]
def w17G (N : Nat) : Gam EE := ⟨[⟨15, record_number_h N⟩], EQT, [], []⟩
theorem w17Gok (N : Nat) : GOk Try.prog TT EE (w17G N) := GOk.cons (record_number_hok N) (GOk.nil EQT_ok)
def w17kE0 (c : Code) : List It2 := [.c c]
def w17sE0 (x0 : Int) : TS EE.T := ⟨12, [(0, .a (.d (.int .i64) x0))], [], []⟩
def w17TE0 (c : Code) (N : Nat) (x0 : Int) : Tree (Lf EE.T × Option (List UInt8)) :=
  .cond (decide (x0 < 0))
  (
    .bnd (record_number N (w64 ((w64 ((-2) * x0)) - 1))) fun z1 =>
    .leaf (.done (w17enc z1), some z1))
  (
    .bnd (record_number N (w64 (2 * x0))) fun z2 =>
    .leaf (.done (w17enc z2), some z2))
theorem w17vE0 (N : Nat) (x0 : Int) : evM TT EE (w17G N) w17lv w17rs 4000 true (w17kE0 (bodyOf 0 Try.f17)) (w17sE0 x0) = (w17TE0 (bodyOf 0 Try.f17) N x0).map1 := by kernel_rfl
theorem w17nE0 (N : Nat) (x0 : Int) : record_signed N x0 = (w17TE0 (bodyOf 0 Try.f17) N x0).run := by kernel_rfl
theorem w17oE0 {N : Nat} {r : List UInt8} (x0 : Int) (h : record_signed N x0 = some r) : Ends (Y := TT) EE (w17G N) w17lv w17rs (fun u => u = w17enc r) (w17kE0 (bodyOf 0 Try.f17)) (w17sE0 x0) :=
  tree_use (w17vE0 N x0) (w17nE0 N x0) h (show (w17TE0 (bodyOf 0 Try.f17) N x0).all _ from ⟨fun _ => retp (enc := w17enc) rfl, fun _ => retp (enc := w17enc) rfl⟩)
theorem record_signed_ok {N : Nat} (x0 : Int) {r : List UInt8} (h : record_signed N x0 = some r) (ρ : Nat → Nat) : ACalls Try.prog 17 (([.a (.d (.int .i64) x0)] : List (TV EE.T)).map (TV.to EE.toEnc ρ)) [] (fun out H => out = .ret ((record_signed_u r).to EE.toEnc ρ) ∧ H = []) :=
  (fn_ok (bodyOf 0 Try.f17) 12 mixed (w17Gok N) Try.func17 (by kernel_rfl) rfl rfl rfl rfl (w17oE0 x0 h) ρ).mono fun out H h => KPost.ret rfl h
def record_signed_h (N : Nat) : List (TV EE.T) → PV EE.T
  | [u0] => match argD (.int .i64) u0 with
    | some x0 => .opt (record_signed N x0) record_signed_u
    | _ => .bad
  | _ => .bad
theorem record_signed_hok (N : Nat) (us : List (TV EE.T)) : (record_signed_h N us).ok fun u => ∀ ρ, ACalls Try.prog 17 (us.map (TV.to EE.toEnc ρ)) [] (fun out H => out = .ret (u.to EE.toEnc ρ) ∧ H = []) := by
  unfold record_signed_h
  split
  · split
    · rename_i h0
      intro z hz ρ; refine acalls_le ?_ (record_signed_ok _ hz ρ); exact ⟨argD_le h0 ρ, trivial⟩
    · trivial
  · trivial
/-! ### gleaner/record.word -/
def record_word_u (r : List UInt8) : TV EE.T := .a (.d .str r)
def w18enc (r : List UInt8) : RL EE.T := .ret (record_word_u r) []
def w18lv : Lvs := ⟨[], [(3, ⟨[(0, false), (3, false), (5, false)], [], [(3, (none, []))]⟩)], [], [], false, [], []⟩
def w18rs : List ResultVar := [.tmp 2]
def w18G (N : Nat) : Gam EE := ⟨[], EQT, [], []⟩
theorem w18Gok (N : Nat) : GOk Try.prog TT EE (w18G N) := GOk.nil EQT_ok
def w18kL3 (c : Code) : List It2 := atL 3 c
def w18sL3 (x0 : Int) (x5 : Int) (b3 : List UInt8) : TS EE.T := ⟨18, [(0, .a (.d (.int .u64) x0)), (3, .a (.box 3 0)), (5, .a (.d (.int .i64) x5))], [(3, .row .byte b3)], []⟩
def w18kE0 (c : Code) : List It2 := [.c c]
def w18sE0 (x0 : Int) : TS EE.T := ⟨18, [(0, .a (.d (.int .u64) x0))], [], []⟩
def w18TL3 (c : Code) (N : Nat) (n : Nat) (x0 : Int) (x5 : Int) (b3 : List UInt8) : Tree (Lf EE.T × Option (List UInt8)) :=
  .cond (decide (x5 < 8))
  (
    .bnd (shrC .u64 x0 (w64 (8 * x5))) fun z1 =>
    .bnd (idxN 8 x5) fun z2 =>
    .bnd (setA b3 (0 + z2) (toB (IntKind.wrap .u8 z1))) fun z3 =>
    .leaf (.go (w18kL3 c) (w18sL3 x0 (w64 (x5 + 1)) z3), record_word_L3 N n x0 (w64 (x5 + 1)) z3))
  (
    .bnd (subN 8 0 (8 : Int)) fun z4 =>
    .bnd (fullC (offN 0 8 z4.1) (z4.2 - z4.1) b3) fun z5 =>
    .leaf (.done (w18enc z5), some z5))
theorem w18vL3 (N : Nat) (n : Nat) (x0 : Int) (x5 : Int) (b3 : List UInt8) : evM TT EE (w18G N) w18lv w18rs 4000 true (w18kL3 (bodyOf 0 Try.f18)) (w18sL3 x0 x5 b3) = (w18TL3 (bodyOf 0 Try.f18) N n x0 x5 b3).map1 := by kernel_rfl
theorem w18nL3 (N : Nat) (n : Nat) (x0 : Int) (x5 : Int) (b3 : List UInt8) : record_word_L3 N (n + 1) x0 x5 b3 = (w18TL3 (bodyOf 0 Try.f18) N n x0 x5 b3).run := by kernel_rfl
theorem w18oL3 {N : Nat} {r : List UInt8} : ∀ (n : Nat) (x0 : Int) (x5 : Int) (b3 : List UInt8), record_word_L3 N n x0 x5 b3 = some r → Ends (Y := TT) EE (w18G N) w18lv w18rs (fun u => u = w18enc r) (w18kL3 (bodyOf 0 Try.f18)) (w18sL3 x0 x5 b3)
  | 0, _, _, _, h => by cases h
  | n + 1, x0, x5, b3, h => tree_use (w18vL3 N n x0 x5 b3) (w18nL3 N n x0 x5 b3) h (show (w18TL3 (bodyOf 0 Try.f18) N n x0 x5 b3).all _ from ⟨fun _ => fun _ => fun _ => fun h => (w18oL3 n) _ _ _ h, fun _ => fun _ => retp (enc := w18enc) rfl⟩)
def w18TE0 (c : Code) (N : Nat) (x0 : Int) : Tree (Lf EE.T × Option (List UInt8)) :=
  .leaf (.go (w18kL3 c) (w18sL3 x0 0 ([0, 0, 0, 0, 0, 0, 0, 0] : List UInt8)), record_word_L3 N N x0 0 ([0, 0, 0, 0, 0, 0, 0, 0] : List UInt8))
theorem w18vE0 (N : Nat) (x0 : Int) : evM TT EE (w18G N) w18lv w18rs 4000 true (w18kE0 (bodyOf 0 Try.f18)) (w18sE0 x0) = (w18TE0 (bodyOf 0 Try.f18) N x0).map1 := by kernel_rfl
theorem w18nE0 (N : Nat) (x0 : Int) : record_word N x0 = (w18TE0 (bodyOf 0 Try.f18) N x0).run := by kernel_rfl
theorem w18oE0 {N : Nat} {r : List UInt8} (x0 : Int) (h : record_word N x0 = some r) : Ends (Y := TT) EE (w18G N) w18lv w18rs (fun u => u = w18enc r) (w18kE0 (bodyOf 0 Try.f18)) (w18sE0 x0) :=
  tree_use (w18vE0 N x0) (w18nE0 N x0) h (show (w18TE0 (bodyOf 0 Try.f18) N x0).all _ from fun h => w18oL3 N _ _ _ h)
theorem record_word_ok {N : Nat} (x0 : Int) {r : List UInt8} (h : record_word N x0 = some r) (ρ : Nat → Nat) : ACalls Try.prog 18 (([.a (.d (.int .u64) x0)] : List (TV EE.T)).map (TV.to EE.toEnc ρ)) [] (fun out H => out = .ret ((record_word_u r).to EE.toEnc ρ) ∧ H = []) :=
  (fn_ok (bodyOf 0 Try.f18) 18 mixed (w18Gok N) Try.func18 (by kernel_rfl) rfl rfl rfl rfl (w18oE0 x0 h) ρ).mono fun out H h => KPost.ret rfl h
def record_word_h (N : Nat) : List (TV EE.T) → PV EE.T
  | [u0] => match argD (.int .u64) u0 with
    | some x0 => .opt (record_word N x0) record_word_u
    | _ => .bad
  | _ => .bad
theorem record_word_hok (N : Nat) (us : List (TV EE.T)) : (record_word_h N us).ok fun u => ∀ ρ, ACalls Try.prog 18 (us.map (TV.to EE.toEnc ρ)) [] (fun out H => out = .ret (u.to EE.toEnc ρ) ∧ H = []) := by
  unfold record_word_h
  split
  · split
    · rename_i h0
      intro z hz ρ; refine acalls_le ?_ (record_word_ok _ hz ρ); exact ⟨argD_le h0 ρ, trivial⟩
    · trivial
  · trivial
/-! ### gleaner/record.Pack -/
def record_Pack_u (r : (List UInt8) × Int) : TV EE.T := .tu [.a (.d .str r.1), .a (.d (.int .i64) r.2)]
def w6enc (r : (List UInt8) × Int) : RL EE.T := .ret (record_Pack_u r) []
def w6lv : Lvs := ⟨[(10, ⟨[(5, false), (7, false), (32, false), (33, false), (34, false)], [], [(7, (some 3, []))]⟩), (14, ⟨[(5, false), (9, false), (32, false), (33, false), (34, false), (49, false), (50, false), (51, false)], [], [(9, (some 2, []))]⟩), (22, ⟨[(5, false), (11, false), (74, false), (75, false), (76, false)], [], [(11, (some 4, []))]⟩)], [(8, ⟨[(5, false), (32, false), (33, false), (34, false)], [], []⟩), (12, ⟨[(5, false), (32, false), (33, false), (34, false), (49, false), (50, false), (51, false)], [], []⟩), (20, ⟨[(5, false), (74, false), (75, false), (76, false)], [], []⟩)], [], [], false, [], []⟩
def w6rs : List ResultVar := [.tmp 2, .tmp 3]
def w6G (N : Nat) : Gam EE := ⟨[⟨14, record_check_h N⟩, ⟨15, record_number_h N⟩, ⟨17, record_signed_h N⟩, ⟨16, record_text_h N⟩, ⟨18, record_word_h N⟩], EQT, [], []⟩
theorem w6Gok (N : Nat) : GOk Try.prog TT EE (w6G N) := GOk.cons (record_check_hok N) (GOk.cons (record_number_hok N) (GOk.cons (record_signed_hok N) (GOk.cons (record_text_hok N) (GOk.cons (record_word_hok N) (GOk.nil EQT_ok)))))
def w6kL12 (c : Code) : List It2 := atL 12 c
def w6sL12 (x5 : List UInt8) (x32 : List VRef) (x33 : Int) (x34 : Int) (x49 : List VLabel) (x50 : Int) (x51 : Int) : TS EE.T := ⟨95, [(5, .a (.d .str x5)), (32, .a (.d (.sl (.nam 3)) x32)), (33, .a (.d (.int .i64) x33)), (34, .a (.d (.int .i64) x34)), (49, .a (.d (.sl (.nam 2)) x49)), (50, .a (.d (.int .i64) x50)), (51, .a (.d (.int .i64) x51))], [], []⟩
def w6kL8 (c : Code) : List It2 := atL 8 c
def w6sL8 (x5 : List UInt8) (x32 : List VRef) (x33 : Int) (x34 : Int) : TS EE.T := ⟨95, [(5, .a (.d .str x5)), (32, .a (.d (.sl (.nam 3)) x32)), (33, .a (.d (.int .i64) x33)), (34, .a (.d (.int .i64) x34))], [], []⟩
def w6kL20 (c : Code) : List It2 := atL 20 c
def w6sL20 (x5 : List UInt8) (x74 : List VPoint) (x75 : Int) (x76 : Int) : TS EE.T := ⟨95, [(5, .a (.d .str x5)), (74, .a (.d (.sl (.nam 4)) x74)), (75, .a (.d (.int .i64) x75)), (76, .a (.d (.int .i64) x76))], [], []⟩
def w6kE0 (c : Code) : List It2 := [.c c]
def w6sE0 (x0 : VRecord) : TS EE.T := ⟨95, [(0, .ag (unpT EE (.nam 5) x0))], [], []⟩
def w6TL12 (c : Code) (N : Nat) (k8 : (List UInt8) → (List VRef) → Int → Int → Option ((List UInt8) × Int)) (n : Nat) (x5 : List UInt8) (x32 : List VRef) (x33 : Int) (x34 : Int) (x49 : List VLabel) (x50 : Int) (x51 : Int) : Tree (Lf EE.T × Option ((List UInt8) × Int)) :=
  .cond (decide (x51 < x50))
  (
    .bnd (idxC x49 x51) fun z18 =>
    .bnd (record_text N z18.Name) fun z19 =>
    .bnd (record_text N z18.Value) fun z20 =>
    .bnd (catC z19 z20) fun z21 =>
    .bnd (catC x5 z21) fun z22 =>
    .leaf (.go (w6kL12 c) (w6sL12 z22 x32 x33 x34 x49 x50 (w64 (x51 + 1))), record_Pack_L12 N k8 n z22 x32 x33 x34 x49 x50 (w64 (x51 + 1))))
  (
    .leaf (.go (w6kL8 c) (w6sL8 x5 x32 x33 (w64 (x34 + 1))), k8 x5 x32 x33 (w64 (x34 + 1))))
theorem w6vL12 (N : Nat) (k8 : (List UInt8) → (List VRef) → Int → Int → Option ((List UInt8) × Int)) (n : Nat) (x5 : List UInt8) (x32 : List VRef) (x33 : Int) (x34 : Int) (x49 : List VLabel) (x50 : Int) (x51 : Int) : evM TT EE (w6G N) w6lv w6rs 4000 true (w6kL12 (bodyOf 0 Try.f6)) (w6sL12 x5 x32 x33 x34 x49 x50 x51) = (w6TL12 (bodyOf 0 Try.f6) N k8 n x5 x32 x33 x34 x49 x50 x51).map1 := by kernel_rfl
theorem w6nL12 (N : Nat) (k8 : (List UInt8) → (List VRef) → Int → Int → Option ((List UInt8) × Int)) (n : Nat) (x5 : List UInt8) (x32 : List VRef) (x33 : Int) (x34 : Int) (x49 : List VLabel) (x50 : Int) (x51 : Int) : record_Pack_L12 N k8 (n + 1) x5 x32 x33 x34 x49 x50 x51 = (w6TL12 (bodyOf 0 Try.f6) N k8 n x5 x32 x33 x34 x49 x50 x51).run := by kernel_rfl
theorem w6oL12 {N : Nat} {r : (List UInt8) × Int} {k8 : (List UInt8) → (List VRef) → Int → Int → Option ((List UInt8) × Int)} (hk8 : ∀ x5 x32 x33 x34, k8 x5 x32 x33 x34 = some r → Ends (Y := TT) EE (w6G N) w6lv w6rs (fun u => u = w6enc r) (w6kL8 (bodyOf 0 Try.f6)) (w6sL8 x5 x32 x33 x34)) : ∀ (n : Nat) (x5 : List UInt8) (x32 : List VRef) (x33 : Int) (x34 : Int) (x49 : List VLabel) (x50 : Int) (x51 : Int), record_Pack_L12 N k8 n x5 x32 x33 x34 x49 x50 x51 = some r → Ends (Y := TT) EE (w6G N) w6lv w6rs (fun u => u = w6enc r) (w6kL12 (bodyOf 0 Try.f6)) (w6sL12 x5 x32 x33 x34 x49 x50 x51)
  | 0, _, _, _, _, _, _, _, h => by cases h
  | n + 1, x5, x32, x33, x34, x49, x50, x51, h => tree_use (w6vL12 N k8 n x5 x32 x33 x34 x49 x50 x51) (w6nL12 N k8 n x5 x32 x33 x34 x49 x50 x51) h (show (w6TL12 (bodyOf 0 Try.f6) N k8 n x5 x32 x33 x34 x49 x50 x51).all _ from ⟨fun _ => fun _ => fun _ => fun _ => fun _ => fun h => (w6oL12 hk8 n) _ _ _ _ _ _ _ h, fun h => hk8 _ _ _ _ h⟩)
def w6TL8 (c : Code) (N : Nat) (n : Nat) (x5 : List UInt8) (x32 : List VRef) (x33 : Int) (x34 : Int) : Tree (Lf EE.T × Option ((List UInt8) × Int)) :=
  .cond (decide (x34 < x33))
  (
    .bnd (idxC x32 x34) fun z6 =>
    .bnd (record_number N z6.Ref) fun z7 =>
    .bnd (record_number N (z6.Labels.length : Int)) fun z8 =>
    .bnd (catC z7 z8) fun z9 =>
    .bnd (catC x5 z9) fun z10 =>
    .leaf (.go (w6kL12 c) (w6sL12 z10 x32 x33 x34 z6.Labels (z6.Labels.length : Int) 0), record_Pack_L12 N (record_Pack_L8 N n) n z10 x32 x33 x34 z6.Labels (z6.Labels.length : Int) 0))
  (
    .leaf (.done (w6enc (x5, 0)), some (x5, 0)))
theorem w6vL8 (N : Nat) (n : Nat) (x5 : List UInt8) (x32 : List VRef) (x33 : Int) (x34 : Int) : evM TT EE (w6G N) w6lv w6rs 4000 true (w6kL8 (bodyOf 0 Try.f6)) (w6sL8 x5 x32 x33 x34) = (w6TL8 (bodyOf 0 Try.f6) N n x5 x32 x33 x34).map1 := by kernel_rfl
theorem w6nL8 (N : Nat) (n : Nat) (x5 : List UInt8) (x32 : List VRef) (x33 : Int) (x34 : Int) : record_Pack_L8 N (n + 1) x5 x32 x33 x34 = (w6TL8 (bodyOf 0 Try.f6) N n x5 x32 x33 x34).run := by kernel_rfl
theorem w6oL8 {N : Nat} {r : (List UInt8) × Int} : ∀ (n : Nat) (x5 : List UInt8) (x32 : List VRef) (x33 : Int) (x34 : Int), record_Pack_L8 N n x5 x32 x33 x34 = some r → Ends (Y := TT) EE (w6G N) w6lv w6rs (fun u => u = w6enc r) (w6kL8 (bodyOf 0 Try.f6)) (w6sL8 x5 x32 x33 x34)
  | 0, _, _, _, _, h => by cases h
  | n + 1, x5, x32, x33, x34, h => tree_use (w6vL8 N n x5 x32 x33 x34) (w6nL8 N n x5 x32 x33 x34) h (show (w6TL8 (bodyOf 0 Try.f6) N n x5 x32 x33 x34).all _ from ⟨fun _ => fun _ => fun _ => fun _ => fun _ => fun h => w6oL12 (w6oL8 n) n _ _ _ _ _ _ _ h, retp (enc := w6enc) rfl⟩)
def w6TL20 (c : Code) (N : Nat) (n : Nat) (x5 : List UInt8) (x74 : List VPoint) (x75 : Int) (x76 : Int) : Tree (Lf EE.T × Option ((List UInt8) × Int)) :=
  .cond (decide (x76 < x75))
  (
    .bnd (idxC x74 x76) fun z11 =>
    .bnd (record_number N z11.Ref) fun z12 =>
    .bnd (record_signed N z11.Time) fun z13 =>
    .bnd (catC z12 z13) fun z14 =>
    .bnd (record_word N z11.Bits) fun z15 =>
    .bnd (catC z14 z15) fun z16 =>
    .bnd (catC x5 z16) fun z17 =>
    .leaf (.go (w6kL20 c) (w6sL20 z17 x74 x75 (w64 (x76 + 1))), record_Pack_L20 N n z17 x74 x75 (w64 (x76 + 1))))
  (
    .leaf (.done (w6enc (x5, 0)), some (x5, 0)))
theorem w6vL20 (N : Nat) (n : Nat) (x5 : List UInt8) (x74 : List VPoint) (x75 : Int) (x76 : Int) : evM TT EE (w6G N) w6lv w6rs 4000 true (w6kL20 (bodyOf 0 Try.f6)) (w6sL20 x5 x74 x75 x76) = (w6TL20 (bodyOf 0 Try.f6) N n x5 x74 x75 x76).map1 := by kernel_rfl
theorem w6nL20 (N : Nat) (n : Nat) (x5 : List UInt8) (x74 : List VPoint) (x75 : Int) (x76 : Int) : record_Pack_L20 N (n + 1) x5 x74 x75 x76 = (w6TL20 (bodyOf 0 Try.f6) N n x5 x74 x75 x76).run := by kernel_rfl
theorem w6oL20 {N : Nat} {r : (List UInt8) × Int} : ∀ (n : Nat) (x5 : List UInt8) (x74 : List VPoint) (x75 : Int) (x76 : Int), record_Pack_L20 N n x5 x74 x75 x76 = some r → Ends (Y := TT) EE (w6G N) w6lv w6rs (fun u => u = w6enc r) (w6kL20 (bodyOf 0 Try.f6)) (w6sL20 x5 x74 x75 x76)
  | 0, _, _, _, _, h => by cases h
  | n + 1, x5, x74, x75, x76, h => tree_use (w6vL20 N n x5 x74 x75 x76) (w6nL20 N n x5 x74 x75 x76) h (show (w6TL20 (bodyOf 0 Try.f6) N n x5 x74 x75 x76).all _ from ⟨fun _ => fun _ => fun _ => fun _ => fun _ => fun _ => fun _ => fun h => (w6oL20 n) _ _ _ _ h, retp (enc := w6enc) rfl⟩)
def w6TE0 (c : Code) (N : Nat) (x0 : VRecord) : Tree (Lf EE.T × Option ((List UInt8) × Int)) :=
  .bnd (record_check N x0) fun z1 =>
  .cond (z1 != 0)
  (
    .leaf (.done (w6enc (([] : List UInt8), z1)), some (([] : List UInt8), z1)))
  (
    .cond (x0.Kind == 1)
    (
      .bnd (record_number N (x0.Refs.length : Int)) fun z2 =>
      .bnd (catC ([toB (IntKind.wrap .u8 x0.Kind)] : List UInt8) z2) fun z3 =>
      .leaf (.go (w6kL8 c) (w6sL8 z3 x0.Refs (x0.Refs.length : Int) 0), record_Pack_L8 N N z3 x0.Refs (x0.Refs.length : Int) 0))
    (
      .bnd (record_number N (x0.Points.length : Int)) fun z4 =>
      .bnd (catC ([toB (IntKind.wrap .u8 x0.Kind)] : List UInt8) z4) fun z5 =>
      .leaf (.go (w6kL20 c) (w6sL20 z5 x0.Points (x0.Points.length : Int) 0), record_Pack_L20 N N z5 x0.Points (x0.Points.length : Int) 0)))
theorem w6vE0 (N : Nat) (x0 : VRecord) : evM TT EE (w6G N) w6lv w6rs 4000 true (w6kE0 (bodyOf 0 Try.f6)) (w6sE0 x0) = (w6TE0 (bodyOf 0 Try.f6) N x0).map1 := by kernel_rfl
theorem w6nE0 (N : Nat) (x0 : VRecord) : record_Pack N x0 = (w6TE0 (bodyOf 0 Try.f6) N x0).run := by kernel_rfl
theorem w6oE0 {N : Nat} {r : (List UInt8) × Int} (x0 : VRecord) (h : record_Pack N x0 = some r) : Ends (Y := TT) EE (w6G N) w6lv w6rs (fun u => u = w6enc r) (w6kE0 (bodyOf 0 Try.f6)) (w6sE0 x0) :=
  tree_use (w6vE0 N x0) (w6nE0 N x0) h (show (w6TE0 (bodyOf 0 Try.f6) N x0).all _ from fun _ => ⟨retp (enc := w6enc) rfl, ⟨fun _ => fun _ => fun h => w6oL8 N _ _ _ _ h, fun _ => fun _ => fun h => w6oL20 N _ _ _ _ h⟩⟩)
theorem record_Pack_ok {N : Nat} (x0 : VRecord) {r : (List UInt8) × Int} (h : record_Pack N x0 = some r) (ρ : Nat → Nat) : ACalls Try.prog 6 (([.ag (unpT EE (.nam 5) x0)] : List (TV EE.T)).map (TV.to EE.toEnc ρ)) [] (fun out H => out = .ret ((record_Pack_u r).to EE.toEnc ρ) ∧ H = []) :=
  (fn_ok (bodyOf 0 Try.f6) 95 mixed (w6Gok N) Try.func6 (by kernel_rfl) rfl rfl rfl rfl (w6oE0 x0 h) ρ).mono fun out H h => KPost.ret rfl h
def record_Pack_h (N : Nat) : List (TV EE.T) → PV EE.T
  | [u0] => match argS EE 5 u0 with
    | some x0 => .opt (record_Pack N x0) record_Pack_u
    | _ => .bad
  | _ => .bad
theorem record_Pack_hok (N : Nat) (us : List (TV EE.T)) : (record_Pack_h N us).ok fun u => ∀ ρ, ACalls Try.prog 6 (us.map (TV.to EE.toEnc ρ)) [] (fun out H => out = .ret (u.to EE.toEnc ρ) ∧ H = []) := by
  unfold record_Pack_h
  split
  · split
    · rename_i h0
      intro z hz ρ; refine acalls_le ?_ (record_Pack_ok _ hz ρ); exact ⟨argS_le h0 ρ, trivial⟩
    · trivial
  · trivial
/-! ### (*gleaner/record.reader).take -/
def record_reader_take_i0_u (r : (List UInt8) × Vreader) : TV EE.T := .a (.d .str r.1)
def w35i0hh (i0 : Nat) (r : (List UInt8) × Vreader) : List (Nat × TB EE.T) := [(i0, .cs (unpT EE (.nam 6) r.2))]
def w35i0enc (r : PR ((List UInt8) × Vreader)) : RL EE.T := match r with
  | .ok z => .ret (record_reader_take_i0_u z) (w35i0hh 100000 z)
  | .pan v => .pan v
def w35i0lv : Lvs := ⟨[(2, ⟨[(0, false), (1, false)], [], [(100000, (some 6, []))]⟩)], [], [2], [], false, [(100000, (some 6, []))], [100000]⟩
def w35i0rs : List ResultVar := [.tmp 4]
def w35i0G (N : Nat) : Gam EE := ⟨[], EQT, [], []⟩
theorem w35i0Gok (N : Nat) : GOk Try.prog TT EE (w35i0G N) := GOk.nil EQT_ok
def w35i0kR2 (c : Code) : List It2 := atR 2 c
def w35i0sR2 (x1 : Int) (b100000 : Vreader) : TS EE.T := ⟨35, [(0, .a (.box 100000 0)), (1, .a (.d (.int .i64) x1))], [(100000, .cs (unpT EE (.nam 6) b100000))], []⟩
def w35i0kE0 (c : Code) : List It2 := [.c c]
def w35i0sE0 (x1 : Int) (y0 : Vreader) : TS EE.T := ⟨35, [(0, .a (.box 100000 0)), (1, .a (.d (.int .i64) x1))], [(100000, .cs (unpT EE (.nam 6) y0))], []⟩
def w35i0TR2 (c : Code) (N : Nat) (n : Nat) (x1 : Int) (b100000 : Vreader) : Tree (Lf EE.T × Option (PR ((List UInt8) × Vreader))) :=
  .leaf (.done (.pan (Value.iface 54 (.agg #[]))), some (.pan (Value.iface 54 (.agg #[]))))
theorem w35i0vR2 (N : Nat) (n : Nat) (x1 : Int) (b100000 : Vreader) : evM TT EE (w35i0G N) w35i0lv w35i0rs 4000 true (w35i0kR2 (bodyOf 0 Try.f35)) (w35i0sR2 x1 b100000) = (w35i0TR2 (bodyOf 0 Try.f35) N n x1 b100000).map1 := by kernel_rfl
theorem w35i0nR2 (N : Nat) (n : Nat) (x1 : Int) (b100000 : Vreader) : record_reader_take_i0_R2 N n x1 b100000 = (w35i0TR2 (bodyOf 0 Try.f35) N n x1 b100000).run := by kernel_rfl
theorem w35i0oR2 {N : Nat} {r : PR ((List UInt8) × Vreader)} (n : Nat) (x1 : Int) (b100000 : Vreader) (h : record_reader_take_i0_R2 N n x1 b100000 = some r) : Ends (Y := TT) EE (w35i0G N) w35i0lv w35i0rs (fun u => u = w35i0enc r) (w35i0kR2 (bodyOf 0 Try.f35)) (w35i0sR2 x1 b100000) :=
  tree_use (w35i0vR2 N n x1 b100000) (w35i0nR2 N n x1 b100000) h (show (w35i0TR2 (bodyOf 0 Try.f35) N n x1 b100000).all _ from retp (enc := w35i0enc) rfl)
def w35i0TE0 (c : Code) (N : Nat) (x1 : Int) (y0 : Vreader) : Tree (Lf EE.T × Option (PR ((List UInt8) × Vreader))) :=
  .cond (decide (x1 < 0))
  (
    .leaf (.go (w35i0kR2 c) (w35i0sR2 x1 y0), record_reader_take_i0_R2 N N x1 y0))
  (
    .cond (decide (x1 > (y0.s.length : Int)))
    (
      .leaf (.go (w35i0kR2 c) (w35i0sR2 x1 y0), record_reader_take_i0_R2 N N x1 y0))
    (
      .bnd (subC y0.s 0 x1) fun z1 =>
      .bnd (subC y0.s x1 (y0.s.length : Int)) fun z2 =>
      .leaf (.done (w35i0enc (.ok (z1, ({ s := z2 } : Vreader)))), some (.ok (z1, ({ s := z2 } : Vreader))))))
theorem w35i0vE0 (N : Nat) (x1 : Int) (y0 : Vreader) : evM TT EE (w35i0G N) w35i0lv w35i0rs 4000 true (w35i0kE0 (bodyOf 0 Try.f35)) (w35i0sE0 x1 y0) = (w35i0TE0 (bodyOf 0 Try.f35) N x1 y0).map1 := by kernel_rfl
theorem w35i0nE0 (N : Nat) (x1 : Int) (y0 : Vreader) : record_reader_take_i0 N x1 y0 = (w35i0TE0 (bodyOf 0 Try.f35) N x1 y0).run := by kernel_rfl
theorem w35i0oE0 {N : Nat} {r : PR ((List UInt8) × Vreader)} (x1 : Int) (y0 : Vreader) (h : record_reader_take_i0 N x1 y0 = some r) : Ends (Y := TT) EE (w35i0G N) w35i0lv w35i0rs (fun u => u = w35i0enc r) (w35i0kE0 (bodyOf 0 Try.f35)) (w35i0sE0 x1 y0) :=
  tree_use (w35i0vE0 N x1 y0) (w35i0nE0 N x1 y0) h (show (w35i0TE0 (bodyOf 0 Try.f35) N x1 y0).all _ from ⟨fun h => w35i0oR2 N _ _ h, ⟨fun h => w35i0oR2 N _ _ h, fun _ => fun _ => retp (enc := w35i0enc) rfl⟩⟩)
def w35i0us (x1 : Int) (y0 : Vreader) : List (TV EE.T) := [.a (.box 100000 0), .a (.d (.int .i64) x1)]
def w35i0h0 (x1 : Int) (y0 : Vreader) : List (Nat × TB EE.T) := [(100000, .cs (unpT EE (.nam 6) y0))]
theorem record_reader_take_i0_ok {N : Nat} (x1 : Int) (y0 : Vreader) {r : PR ((List UInt8) × Vreader)} (h : record_reader_take_i0 N x1 y0 = some r) (ρ : Nat → Nat) (hi : Inj ρ (w35i0h0 x1 y0)) : ACalls Try.prog 35 ((w35i0us x1 y0).map (TV.to EE.toEnc ρ)) (hTo EE.toEnc ρ (w35i0h0 x1 y0)) (fun out H => match r with | .ok z => out = .ret ((record_reader_take_i0_u z).to EE.toEnc ρ) ∧ H = hTo EE.toEnc ρ (w35i0hh 100000 z) | .pan v => out = .pan v) :=
  (fn_okH (bodyOf 0 Try.f35) 35 mixed (w35i0Gok N) Try.func35 (by kernel_rfl) rfl rfl rfl rfl (w35i0oE0 x1 y0 h) ρ hi).mono fun out H h => by cases r with | ok z => exact KPost.retH rfl rfl h | pan v => exact KPost.pan h
def record_reader_take_i0_h (N : Nat) (us : List (TV EE.T)) (hs : List (Nat × TB EE.T)) : XR EE.T :=
  gdX (lenX us 2) <|
  bnX (aB us 0) fun i0 =>
  bnX (aD (.int .i64) us 1) fun x1 =>
  bnX (bS EE 6 hs i0) fun y0 =>
  gdX (goodIds hs [i0]) <|
  .may (record_reader_take_i0 N x1 y0) [i0] record_reader_take_i0_u (w35i0hh i0)
theorem record_reader_take_i0_hok (N : Nat) : XOk Try.prog EE 35 (record_reader_take_i0_h N) := fun us hs =>
  gdX_ok fun h1 => bnX_ok fun i0 h2 => bnX_ok fun x1 h3 => bnX_ok fun y0 h4 => gdX_ok fun h5 => fun p hz => ⟨fun z e => rfl, fun ρ hi => xcall (us' := w35i0us x1 y0) (h0 := w35i0h0 x1 y0) (ρ' := rhoS ρ [i0]) ⟨aB_le h2 (by kernel_rfl), aD_le h3, lenX_ok h1⟩ ⟨(by kernel_rfl), bS_le h4, trivial⟩ (record_reader_take_i0_ok x1 y0 hz _ (rhoS_inj hi h5 _ (by kernel_rfl))) (fun out H h => by cases p with | ok z => exact ⟨h.1.trans (by kernel_rfl), h.2.trans (by kernel_rfl)⟩ | pan v => exact h)⟩
/-! ### (*gleaner/record.reader).number -/
def record_reader_number_i0_u (r : Int × Vreader) : TV EE.T := .a (.d (.int .i64) r.1)
def w38i0hh (i0 : Nat) (r : Int × Vreader) : List (Nat × TB EE.T) := [(i0, .cs (unpT EE (.nam 6) r.2))]
def w38i0enc (r : PR (Int × Vreader)) : RL EE.T := match r with
  | .ok z => .ret (record_reader_number_i0_u z) (w38i0hh 100000 z)
  | .pan v => .pan v
def w38i0lv : Lvs := ⟨[(2, ⟨[(0, false), (3, false), (4, false), (5, false)], [], [(100000, (some 6, []))]⟩), (3, ⟨[(0, false), (3, false), (4, false)], [], [(100000, (some 6, []))]⟩)], [], [3], [], false, [(100000, (some 6, []))], [100000]⟩
def w38i0rs : List ResultVar := [.tmp 2]
def w38i0G (N : Nat) : Gam EE := ⟨[⟨32, wire_Number_h N⟩, ⟨46, wire_ReadNumber_h N⟩], EQT, [], []⟩
theorem w38i0Gok (N : Nat) : GOk Try.prog TT EE (w38i0G N) := GOk.cons (wire_Number_hok N) (GOk.cons (wire_ReadNumber_hok N) (GOk.nil EQT_ok))
def w38i0kR3 (c : Code) : List It2 := atR 3 c
def w38i0sR3 (x3 : Int) (x4 : Int) (b100000 : Vreader) : TS EE.T := ⟨45, [(0, .a (.box 100000 0)), (3, .a (.d (.int .u64) x3)), (4, .a (.d (.int .i64) x4))], [(100000, .cs (unpT EE (.nam 6) b100000))], []⟩
def w38i0kE0 (c : Code) : List It2 := [.c c]
def w38i0sE0 (y0 : Vreader) : TS EE.T := ⟨45, [(0, .a (.box 100000 0))], [(100000, .cs (unpT EE (.nam 6) y0))], []⟩
def w38i0TR3 (c : Code) (N : Nat) (n : Nat) (x3 : Int) (x4 : Int) (b100000 : Vreader) : Tree (Lf EE.T × Option (PR (Int × Vreader))) :=
  .leaf (.done (.pan (Value.iface 54 (.agg #[]))), some (.pan (Value.iface 54 (.agg #[]))))
theorem w38i0vR3 (N : Nat) (n : Nat) (x3 : Int) (x4 : Int) (b100000 : Vreader) : evM TT EE (w38i0G N) w38i0lv w38i0rs 4000 true (w38i0kR3 (bodyOf 0 Try.f38)) (w38i0sR3 x3 x4 b100000) = (w38i0TR3 (bodyOf 0 Try.f38) N n x3 x4 b100000).map1 := by kernel_rfl
theorem w38i0nR3 (N : Nat) (n : Nat) (x3 : Int) (x4 : Int) (b100000 : Vreader) : record_reader_number_i0_R3 N n x3 x4 b100000 = (w38i0TR3 (bodyOf 0 Try.f38) N n x3 x4 b100000).run := by kernel_rfl
theorem w38i0oR3 {N : Nat} {r : PR (Int × Vreader)} (n : Nat) (x3 : Int) (x4 : Int) (b100000 : Vreader) (h : record_reader_number_i0_R3 N n x3 x4 b100000 = some r) : Ends (Y := TT) EE (w38i0G N) w38i0lv w38i0rs (fun u => u = w38i0enc r) (w38i0kR3 (bodyOf 0 Try.f38)) (w38i0sR3 x3 x4 b100000) :=
  tree_use (w38i0vR3 N n x3 x4 b100000) (w38i0nR3 N n x3 x4 b100000) h (show (w38i0TR3 (bodyOf 0 Try.f38) N n x3 x4 b100000).all _ from retp (enc := w38i0enc) rfl)
def w38i0TE0 (c : Code) (N : Nat) (y0 : Vreader) : Tree (Lf EE.T × Option (PR (Int × Vreader))) :=
  .bnd (wire_ReadNumber N y0.s) fun z1 =>
  .cond (z1.2.2 != 0)
  (
    .leaf (.go (w38i0kR3 c) (w38i0sR3 z1.1 z1.2.1 y0), record_reader_number_i0_R3 N N z1.1 z1.2.1 y0))
  (
    .cond (decide (z1.1 > 4611686018427387904))
    (
      .leaf (.go (w38i0kR3 c) (w38i0sR3 z1.1 z1.2.1 y0), record_reader_number_i0_R3 N N z1.1 z1.2.1 y0))
    (
      .bnd (wire_Number N z1.1) fun z2 =>
      .bnd (subC y0.s 0 z1.2.1) fun z3 =>
      .cond (!decide (z2 = z3))
      (
        .leaf (.go (w38i0kR3 c) (w38i0sR3 z1.1 z1.2.1 y0), record_reader_number_i0_R3 N N z1.1 z1.2.1 y0))
      (
        .bnd (subC y0.s z1.2.1 (y0.s.length : Int)) fun z4 =>
        .leaf (.done (w38i0enc (.ok (w64 z1.1, ({ s := z4 } : Vreader)))), some (.ok (w64 z1.1, ({ s := z4 } : Vreader)))))))
theorem w38i0vE0 (N : Nat) (y0 : Vreader) : evM TT EE (w38i0G N) w38i0lv w38i0rs 4000 true (w38i0kE0 (bodyOf 0 Try.f38)) (w38i0sE0 y0) = (w38i0TE0 (bodyOf 0 Try.f38) N y0).map1 := by kernel_rfl
theorem w38i0nE0 (N : Nat) (y0 : Vreader) : record_reader_number_i0 N y0 = (w38i0TE0 (bodyOf 0 Try.f38) N y0).run := by kernel_rfl
theorem w38i0oE0 {N : Nat} {r : PR (Int × Vreader)} (y0 : Vreader) (h : record_reader_number_i0 N y0 = some r) : Ends (Y := TT) EE (w38i0G N) w38i0lv w38i0rs (fun u => u = w38i0enc r) (w38i0kE0 (bodyOf 0 Try.f38)) (w38i0sE0 y0) :=
  tree_use (w38i0vE0 N y0) (w38i0nE0 N y0) h (show (w38i0TE0 (bodyOf 0 Try.f38) N y0).all _ from fun _ => ⟨fun h => w38i0oR3 N _ _ _ h, ⟨fun h => w38i0oR3 N _ _ _ h, fun _ => fun _ => ⟨fun h => w38i0oR3 N _ _ _ h, fun _ => retp (enc := w38i0enc) rfl⟩⟩⟩)
def w38i0us (y0 : Vreader) : List (TV EE.T) := [.a (.box 100000 0)]
def w38i0h0 (y0 : Vreader) : List (Nat × TB EE.T) := [(100000, .cs (unpT EE (.nam 6) y0))]
theorem record_reader_number_i0_ok {N : Nat} (y0 : Vreader) {r : PR (Int × Vreader)} (h : record_reader_number_i0 N y0 = some r) (ρ : Nat → Nat) (hi : Inj ρ (w38i0h0 y0)) : ACalls Try.prog 38 ((w38i0us y0).map (TV.to EE.toEnc ρ)) (hTo EE.toEnc ρ (w38i0h0 y0)) (fun out H => match r with | .ok z => out = .ret ((record_reader_number_i0_u z).to EE.toEnc ρ) ∧ H = hTo EE.toEnc ρ (w38i0hh 100000 z) | .pan v => out = .pan v) :=
  (fn_okH (bodyOf 0 Try.f38) 45 mixed (w38i0Gok N) Try.func38 (by kernel_rfl) rfl rfl rfl rfl (w38i0oE0 y0 h) ρ hi).mono fun out H h => by cases r with | ok z => exact KPost.retH rfl rfl h | pan v => exact KPost.pan h
def record_reader_number_i0_h (N : Nat) (us : List (TV EE.T)) (hs : List (Nat × TB EE.T)) : XR EE.T :=
  gdX (lenX us 1) <|
  bnX (aB us 0) fun i0 =>
  bnX (bS EE 6 hs i0) fun y0 =>
  gdX (goodIds hs [i0]) <|
  .may (record_reader_number_i0 N y0) [i0] record_reader_number_i0_u (w38i0hh i0)
theorem record_reader_number_i0_hok (N : Nat) : XOk Try.prog EE 38 (record_reader_number_i0_h N) := fun us hs =>
  gdX_ok fun h1 => bnX_ok fun i0 h2 => bnX_ok fun y0 h3 => gdX_ok fun h4 => fun p hz => ⟨fun z e => rfl, fun ρ hi => xcall (us' := w38i0us y0) (h0 := w38i0h0 y0) (ρ' := rhoS ρ [i0]) ⟨aB_le h2 (by kernel_rfl), lenX_ok h1⟩ ⟨(by kernel_rfl), bS_le h3, trivial⟩ (record_reader_number_i0_ok y0 hz _ (rhoS_inj hi h4 _ (by kernel_rfl))) (fun out H h => by cases p with | ok z => exact ⟨h.1.trans (by kernel_rfl), h.2.trans (by kernel_rfl)⟩ | pan v => exact h)⟩
/-! ### (*gleaner/record.reader).text -/
def record_reader_text_i0_u (r : (List UInt8) × Vreader) : TV EE.T := .a (.d .str r.1)
def w40i0hh (i0 : Nat) (r : (List UInt8) × Vreader) : List (Nat × TB EE.T) := [(i0, .cs (unpT EE (.nam 6) r.2))]
def w40i0enc (r : PR ((List UInt8) × Vreader)) : RL EE.T := match r with
  | .ok z => .ret (record_reader_text_i0_u z) (w40i0hh 100000 z)
  | .pan v => .pan v
def w40i0lv : Lvs := ⟨[], [], [], [], false, [(100000, (some 6, []))], [100000]⟩
def w40i0rs : List ResultVar := [.tmp 2]
def w40i0G (N : Nat) : Gam EE := ⟨[], EQT, [⟨35, record_reader_take_i0_h N⟩, ⟨38, record_reader_number_i0_h N⟩], []⟩
theorem w40i0Gok (N : Nat) : GOk Try.prog TT EE (w40i0G N) := GOk.consx (record_reader_take_i0_hok N) (GOk.consx (record_reader_number_i0_hok N) (GOk.nil EQT_ok))
def w40i0kE0 (c : Code) : List It2 := [.c c]
def w40i0sE0 (y0 : Vreader) : TS EE.T := ⟨7, [(0, .a (.box 100000 0))], [(100000, .cs (unpT EE (.nam 6) y0))], []⟩
def w40i0TE0 (c : Code) (N : Nat) (y0 : Vreader) : Tree (Lf EE.T × Option (PR ((List UInt8) × Vreader))) :=
  .bnd (record_reader_number_i0 N y0) fun z1 =>
  .sm z1 (fun z2 =>
    .bnd (record_reader_take_i0 N z2.1 z2.2) fun z3 =>
    .sm z3 (fun z4 =>
      .leaf (.done (w40i0enc (.ok (z4.1, z4.2))), some (.ok (z4.1, z4.2)))) (fun vz3 =>
      .leaf (.done (.pan vz3), some (.pan vz3)))) (fun vz1 =>
    .leaf (.done (.pan vz1), some (.pan vz1)))
theorem w40i0vE0 (N : Nat) (y0 : Vreader) : evM TT EE (w40i0G N) w40i0lv w40i0rs 4000 true (w40i0kE0 (bodyOf 0 Try.f40)) (w40i0sE0 y0) = (w40i0TE0 (bodyOf 0 Try.f40) N y0).map1 := by kernel_rfl
theorem w40i0nE0 (N : Nat) (y0 : Vreader) : record_reader_text_i0 N y0 = (w40i0TE0 (bodyOf 0 Try.f40) N y0).run := by kernel_rfl
theorem w40i0oE0 {N : Nat} {r : PR ((List UInt8) × Vreader)} (y0 : Vreader) (h : record_reader_text_i0 N y0 = some r) : Ends (Y := TT) EE (w40i0G N) w40i0lv w40i0rs (fun u => u = w40i0enc r) (w40i0kE0 (bodyOf 0 Try.f40)) (w40i0sE0 y0) :=
  tree_use (w40i0vE0 N y0) (w40i0nE0 N y0) h (show (w40i0TE0 (bodyOf 0 Try.f40) N y0).all _ from fun _ => ⟨fun _ => fun _ => ⟨fun _ => retp (enc := w40i0enc) rfl, fun _ => retp (enc := w40i0enc) rfl⟩, fun _ => retp (enc := w40i0enc) rfl⟩)
def w40i0us (y0 : Vreader) : List (TV EE.T) := [.a (.box 100000 0)]
def w40i0h0 (y0 : Vreader) : List (Nat × TB EE.T) := [(100000, .cs (unpT EE (.nam 6) y0))]
theorem record_reader_text_i0_ok {N : Nat} (y0 : Vreader) {r : PR ((List UInt8) × Vreader)} (h : record_reader_text_i0 N y0 = some r) (ρ : Nat → Nat) (hi : Inj ρ (w40i0h0 y0)) : ACalls Try.prog 40 ((w40i0us y0).map (TV.to EE.toEnc ρ)) (hTo EE.toEnc ρ (w40i0h0 y0)) (fun out H => match r with | .ok z => out = .ret ((record_reader_text_i0_u z).to EE.toEnc ρ) ∧ H = hTo EE.toEnc ρ (w40i0hh 100000 z) | .pan v => out = .pan v) :=
  (fn_okH (bodyOf 0 Try.f40) 7 mixed (w40i0Gok N) Try.func40 (by kernel_rfl) rfl rfl rfl rfl (w40i0oE0 y0 h) ρ hi).mono fun out H h => by cases r with | ok z => exact KPost.retH rfl rfl h | pan v => exact KPost.pan h
def record_reader_text_i0_h (N : Nat) (us : List (TV EE.T)) (hs : List (Nat × TB EE.T)) : XR EE.T :=
  gdX (lenX us 1) <|
  bnX (aB us 0) fun i0 =>
  bnX (bS EE 6 hs i0) fun y0 =>
  gdX (goodIds hs [i0]) <|
  .may (record_reader_text_i0 N y0) [i0] record_reader_text_i0_u (w40i0hh i0)
theorem record_reader_text_i0_hok (N : Nat) : XOk Try.prog EE 40 (record_reader_text_i0_h N) := fun us hs =>
  gdX_ok fun h1 => bnX_ok fun i0 h2 => bnX_ok fun y0 h3 => gdX_ok fun h4 => fun p hz => ⟨fun z e => rfl, fun ρ hi => xcall (us' := w40i0us y0) (h0 := w40i0h0 y0) (ρ' := rhoS ρ [i0]) ⟨aB_le h2 (by kernel_rfl), lenX_ok h1⟩ ⟨(by kernel_rfl), bS_le h3, trivial⟩ (record_reader_text_i0_ok y0 hz _ (rhoS_inj hi h4 _ (by kernel_rfl))) (fun out H h => by cases p with | ok z => exact ⟨h.1.trans (by kernel_rfl), h.2.trans (by kernel_rfl)⟩ | pan v => exact h)⟩
/-! ### (*gleaner/record.reader).record$1$1 -/
def record_reader_record_1_1_i0_u (r : Int × (List VLabel) × Vreader) : TV EE.T := .tu []
def w39i0hh (i0 : Nat) (i1 : Nat) (i2 : Nat) (r : Int × (List VLabel) × Vreader) : List (Nat × TB EE.T) := [(i0, .cs [.d (.int .i64) r.1, .own (.nam 2) r.2.1]), (i1, .cs [.box i2 0]), (i2, .cs (unpT EE (.nam 6) r.2.2))]
def w39i0enc (r : PR (Int × (List VLabel) × Vreader)) : RL EE.T := match r with
  | .ok z => .ret (record_reader_record_1_1_i0_u z) (w39i0hh 100000 100001 100002 z)
  | .pan v => .pan v
def w39i0lv : Lvs := ⟨[(0, ⟨[(0, false), (1, false)], [], [(100000, (none, [])), (100001, (none, [])), (100002, (some 6, []))]⟩)], [], [], [], false, [(100000, (none, [])), (100001, (none, [])), (100002, (some 6, []))], [100000, 100001, 100002]⟩
def w39i0rs : List ResultVar := []
def w39i0G (N : Nat) : Gam EE := ⟨[], EQT, [⟨40, record_reader_text_i0_h N⟩], []⟩
theorem w39i0Gok (N : Nat) : GOk Try.prog TT EE (w39i0G N) := GOk.consx (record_reader_text_i0_hok N) (GOk.nil EQT_ok)
def w39i0kE0 (c : Code) : List It2 := [.c c]
def w39i0sE0 (y0_0 : Int) (y0_1 : List VLabel) (y2 : Vreader) : TS EE.T := ⟨12, [(0, .a (.box 100000 0)), (1, .a (.box 100001 0))], [(100000, .cs [.d (.int .i64) y0_0, .own (.nam 2) y0_1]), (100001, .cs [.box 100002 0]), (100002, .cs (unpT EE (.nam 6) y2))], []⟩
def w39i0TE0 (c : Code) (N : Nat) (y0_0 : Int) (y0_1 : List VLabel) (y2 : Vreader) : Tree (Lf EE.T × Option (PR (Int × (List VLabel) × Vreader))) :=
  .bnd (record_reader_text_i0 N y2) fun z1 =>
  .sm z1 (fun z2 =>
    .bnd (record_reader_text_i0 N z2.2) fun z3 =>
    .sm z3 (fun z4 =>
      .bnd (appC 32 y0_1 ([({ Name := z2.1, Value := z4.1 } : VLabel)] : List VLabel)) fun z5 =>
      .leaf (.done (w39i0enc (.ok (y0_0, z5, z4.2))), some (.ok (y0_0, z5, z4.2)))) (fun vz3 =>
      .leaf (.done (.pan vz3), some (.pan vz3)))) (fun vz1 =>
    .leaf (.done (.pan vz1), some (.pan vz1)))
theorem w39i0vE0 (N : Nat) (y0_0 : Int) (y0_1 : List VLabel) (y2 : Vreader) : evM TT EE (w39i0G N) w39i0lv w39i0rs 4000 true (w39i0kE0 (bodyOf 0 Try.f39)) (w39i0sE0 y0_0 y0_1 y2) = (w39i0TE0 (bodyOf 0 Try.f39) N y0_0 y0_1 y2).map1 := by kernel_rfl
theorem w39i0nE0 (N : Nat) (y0_0 : Int) (y0_1 : List VLabel) (y2 : Vreader) : record_reader_record_1_1_i0 N y0_0 y0_1 y2 = (w39i0TE0 (bodyOf 0 Try.f39) N y0_0 y0_1 y2).run := by kernel_rfl
theorem w39i0oE0 {N : Nat} {r : PR (Int × (List VLabel) × Vreader)} (y0_0 : Int) (y0_1 : List VLabel) (y2 : Vreader) (h : record_reader_record_1_1_i0 N y0_0 y0_1 y2 = some r) : Ends (Y := TT) EE (w39i0G N) w39i0lv w39i0rs (fun u => u = w39i0enc r) (w39i0kE0 (bodyOf 0 Try.f39)) (w39i0sE0 y0_0 y0_1 y2) :=
  tree_use (w39i0vE0 N y0_0 y0_1 y2) (w39i0nE0 N y0_0 y0_1 y2) h (show (w39i0TE0 (bodyOf 0 Try.f39) N y0_0 y0_1 y2).all _ from fun _ => ⟨fun _ => fun _ => ⟨fun _ => fun _ => retp (enc := w39i0enc) rfl, fun _ => retp (enc := w39i0enc) rfl⟩, fun _ => retp (enc := w39i0enc) rfl⟩)
def w39i0us (y0_0 : Int) (y0_1 : List VLabel) (y2 : Vreader) : List (TV EE.T) := [.a (.box 100000 0), .a (.box 100001 0)]
def w39i0h0 (y0_0 : Int) (y0_1 : List VLabel) (y2 : Vreader) : List (Nat × TB EE.T) := [(100000, .cs [.d (.int .i64) y0_0, .own (.nam 2) y0_1]), (100001, .cs [.box 100002 0]), (100002, .cs (unpT EE (.nam 6) y2))]
theorem record_reader_record_1_1_i0_ok {N : Nat} (y0_0 : Int) (y0_1 : List VLabel) (y2 : Vreader) {r : PR (Int × (List VLabel) × Vreader)} (h : record_reader_record_1_1_i0 N y0_0 y0_1 y2 = some r) (ρ : Nat → Nat) (hi : Inj ρ (w39i0h0 y0_0 y0_1 y2)) : ACalls Try.prog 39 ((w39i0us y0_0 y0_1 y2).map (TV.to EE.toEnc ρ)) (hTo EE.toEnc ρ (w39i0h0 y0_0 y0_1 y2)) (fun out H => match r with | .ok z => out = .ret ((record_reader_record_1_1_i0_u z).to EE.toEnc ρ) ∧ H = hTo EE.toEnc ρ (w39i0hh 100000 100001 100002 z) | .pan v => out = .pan v) :=
  (fn_okH (bodyOf 0 Try.f39) 12 mixed (w39i0Gok N) Try.func39 (by kernel_rfl) rfl rfl rfl rfl (w39i0oE0 y0_0 y0_1 y2 h) ρ hi).mono fun out H h => by cases r with | ok z => exact KPost.retH rfl rfl h | pan v => exact KPost.pan h
def record_reader_record_1_1_i0_h (N : Nat) (us : List (TV EE.T)) (hs : List (Nat × TB EE.T)) : XR EE.T :=
  gdX (lenX us 2) <|
  bnX (aB us 0) fun i0 =>
  bnX (aB us 1) fun i1 =>
  bnX (bC hs i0) fun l0 =>
  gdX (lenX l0 2) <|
  bnX (cD (.int .i64) l0 0) fun y0_0 =>
  bnX (cO (.nam 2) l0 1) fun y0_1 =>
  bnX (bC hs i1) fun l1 =>
  gdX (lenX l1 1) <|
  bnX (cB l1 0) fun i2 =>
  bnX (bS EE 6 hs i2) fun y2 =>
  gdX (goodIds hs [i0, i1, i2]) <|
  .may (record_reader_record_1_1_i0 N y0_0 y0_1 y2) [i0, i1, i2] record_reader_record_1_1_i0_u (w39i0hh i0 i1 i2)
theorem record_reader_record_1_1_i0_hok (N : Nat) : XOk Try.prog EE 39 (record_reader_record_1_1_i0_h N) := fun us hs =>
  gdX_ok fun h1 => bnX_ok fun i0 h2 => bnX_ok fun i1 h3 => bnX_ok fun l0 h4 => gdX_ok fun h5 => bnX_ok fun y0_0 h6 => bnX_ok fun y0_1 h7 => bnX_ok fun l1 h8 => gdX_ok fun h9 => bnX_ok fun i2 h10 => bnX_ok fun y2 h11 => gdX_ok fun h12 => fun p hz => ⟨fun z e => rfl, fun ρ hi => xcall (us' := w39i0us y0_0 y0_1 y2) (h0 := w39i0h0 y0_0 y0_1 y2) (ρ' := rhoS ρ [i0, i1, i2]) ⟨aB_le h2 (by kernel_rfl), aB_le h3 (by kernel_rfl), lenX_ok h1⟩ ⟨(by kernel_rfl), bC_le h4 ⟨cD_le h6, cO_le h7, lenX_ok h5⟩, (by kernel_rfl), bC_le h8 ⟨cB_le h10 (by kernel_rfl), lenX_ok h9⟩, (by kernel_rfl), bS_le h11, trivial⟩ (record_reader_record_1_1_i0_ok y0_0 y0_1 y2 hz _ (rhoS_inj hi h12 _ (by kernel_rfl))) (fun out H h => by cases p with | ok z => exact ⟨h.1.trans (by kernel_rfl), h.2.trans (by kernel_rfl)⟩ | pan v => exact h)⟩
/-! ### (*gleaner/record.reader).many -/
def record_reader_many_i0_u (r : Vreader × Int × (List VLabel)) : TV EE.T := .tu []
def w36i0hh (i0 : Nat) (i1 : Nat) (i2 : Nat) (r : Vreader × Int × (List VLabel)) : List (Nat × TB EE.T) := [(i0, .cs (unpT EE (.nam 6) r.1)), (i1, .cs [.d (.int .i64) r.2.1, .own (.nam 2) r.2.2]), (i2, .cs [.box i0 0])]
def w36i0enc (r : PR (Vreader × Int × (List VLabel))) : RL EE.T := match r with
  | .ok z => .ret (record_reader_many_i0_u z) (w36i0hh 100000 100001 100002 z)
  | .pan v => .pan v
def w36i0lv : Lvs := ⟨[], [(4, ⟨[(1, false), (16, false), (17, false)], [], [(100000, (some 6, [])), (100001, (none, [])), (100002, (none, []))]⟩)], [], [], false, [(100000, (some 6, [])), (100001, (none, [])), (100002, (none, []))], [100000, 100001, 100002]⟩
def w36i0rs : List ResultVar := []
def w36i0G (N : Nat) : Gam EE := ⟨[], EQT, [⟨39, record_reader_record_1_1_i0_h N⟩, ⟨38, record_reader_number_i0_h N⟩], []⟩
theorem w36i0Gok (N : Nat) : GOk Try.prog TT EE (w36i0G N) := GOk.consx (record_reader_record_1_1_i0_hok N) (GOk.consx (record_reader_number_i0_hok N) (GOk.nil EQT_ok))
def w36i0kL4 (c : Code) : List It2 := atL 4 c
def w36i0sL4 (x16 : Int) (x17 : Int) (b100000 : Vreader) (b100001_0 : Int) (b100001_1 : List VLabel) : TS EE.T := ⟨22, [(1, .fn 39 [.box 100001 0, .box 100002 0]), (16, .a (.d (.int .i64) x16)), (17, .a (.d (.int .i64) x17))], [(100000, .cs (unpT EE (.nam 6) b100000)), (100001, .cs [.d (.int .i64) b100001_0, .own (.nam 2) b100001_1]), (100002, .cs [.box 100000 0])], []⟩
def w36i0kE0 (c : Code) : List It2 := [.c c]
def w36i0sE0 (y0 : Vreader) (y1_0 : Int) (y1_1 : List VLabel) : TS EE.T := ⟨22, [(0, .a (.box 100000 0)), (1, .fn 39 [.box 100001 0, .box 100002 0])], [(100000, .cs (unpT EE (.nam 6) y0)), (100001, .cs [.d (.int .i64) y1_0, .own (.nam 2) y1_1]), (100002, .cs [.box 100000 0])], []⟩
def w36i0TL4 (c : Code) (N : Nat) (n : Nat) (x16 : Int) (x17 : Int) (b100000 : Vreader) (b100001_0 : Int) (b100001_1 : List VLabel) : Tree (Lf EE.T × Option (PR (Vreader × Int × (List VLabel)))) :=
  .cond (decide (x17 < x16))
  (
    .bnd (record_reader_record_1_1_i0 N b100001_0 b100001_1 b100000) fun z3 =>
    .sm z3 (fun z4 =>
      .leaf (.go (w36i0kL4 c) (w36i0sL4 x16 (w64 (x17 + 1)) z4.2.2 z4.1 z4.2.1), record_reader_many_i0_L4 N n x16 (w64 (x17 + 1)) z4.2.2 z4.1 z4.2.1)) (fun vz3 =>
      .leaf (.done (.pan vz3), some (.pan vz3))))
  (
    .leaf (.done (w36i0enc (.ok (b100000, b100001_0, b100001_1))), some (.ok (b100000, b100001_0, b100001_1))))
theorem w36i0vL4 (N : Nat) (n : Nat) (x16 : Int) (x17 : Int) (b100000 : Vreader) (b100001_0 : Int) (b100001_1 : List VLabel) : evM TT EE (w36i0G N) w36i0lv w36i0rs 4000 true (w36i0kL4 (bodyOf 0 Try.f36)) (w36i0sL4 x16 x17 b100000 b100001_0 b100001_1) = (w36i0TL4 (bodyOf 0 Try.f36) N n x16 x17 b100000 b100001_0 b100001_1).map1 := by kernel_rfl
theorem w36i0nL4 (N : Nat) (n : Nat) (x16 : Int) (x17 : Int) (b100000 : Vreader) (b100001_0 : Int) (b100001_1 : List VLabel) : record_reader_many_i0_L4 N (n + 1) x16 x17 b100000 b100001_0 b100001_1 = (w36i0TL4 (bodyOf 0 Try.f36) N n x16 x17 b100000 b100001_0 b100001_1).run := by kernel_rfl
theorem w36i0oL4 {N : Nat} {r : PR (Vreader × Int × (List VLabel))} : ∀ (n : Nat) (x16 : Int) (x17 : Int) (b100000 : Vreader) (b100001_0 : Int) (b100001_1 : List VLabel), record_reader_many_i0_L4 N n x16 x17 b100000 b100001_0 b100001_1 = some r → Ends (Y := TT) EE (w36i0G N) w36i0lv w36i0rs (fun u => u = w36i0enc r) (w36i0kL4 (bodyOf 0 Try.f36)) (w36i0sL4 x16 x17 b100000 b100001_0 b100001_1)
  | 0, _, _, _, _, _, h => by cases h
  | n + 1, x16, x17, b100000, b100001_0, b100001_1, h => tree_use (w36i0vL4 N n x16 x17 b100000 b100001_0 b100001_1) (w36i0nL4 N n x16 x17 b100000 b100001_0 b100001_1) h (show (w36i0TL4 (bodyOf 0 Try.f36) N n x16 x17 b100000 b100001_0 b100001_1).all _ from ⟨fun _ => ⟨fun _ => fun h => (w36i0oL4 n) _ _ _ _ _ h, fun _ => retp (enc := w36i0enc) rfl⟩, retp (enc := w36i0enc) rfl⟩)
def w36i0TE0 (c : Code) (N : Nat) (y0 : Vreader) (y1_0 : Int) (y1_1 : List VLabel) : Tree (Lf EE.T × Option (PR (Vreader × Int × (List VLabel)))) :=
  .bnd (record_reader_number_i0 N y0) fun z1 =>
  .sm z1 (fun z2 =>
    .cond (decide (z2.1 > (z2.2.s.length : Int)))
    (
      .leaf (.done (.pan (Value.iface 54 (.agg #[]))), some (.pan (Value.iface 54 (.agg #[])))))
    (
      .leaf (.go (w36i0kL4 c) (w36i0sL4 z2.1 0 z2.2 y1_0 y1_1), record_reader_many_i0_L4 N N z2.1 0 z2.2 y1_0 y1_1))) (fun vz1 =>
    .leaf (.done (.pan vz1), some (.pan vz1)))
theorem w36i0vE0 (N : Nat) (y0 : Vreader) (y1_0 : Int) (y1_1 : List VLabel) : evM TT EE (w36i0G N) w36i0lv w36i0rs 4000 true (w36i0kE0 (bodyOf 0 Try.f36)) (w36i0sE0 y0 y1_0 y1_1) = (w36i0TE0 (bodyOf 0 Try.f36) N y0 y1_0 y1_1).map1 := by kernel_rfl
theorem w36i0nE0 (N : Nat) (y0 : Vreader) (y1_0 : Int) (y1_1 : List VLabel) : record_reader_many_i0 N y0 y1_0 y1_1 = (w36i0TE0 (bodyOf 0 Try.f36) N y0 y1_0 y1_1).run := by kernel_rfl
theorem w36i0oE0 {N : Nat} {r : PR (Vreader × Int × (List VLabel))} (y0 : Vreader) (y1_0 : Int) (y1_1 : List VLabel) (h : record_reader_many_i0 N y0 y1_0 y1_1 = some r) : Ends (Y := TT) EE (w36i0G N) w36i0lv w36i0rs (fun u => u = w36i0enc r) (w36i0kE0 (bodyOf 0 Try.f36)) (w36i0sE0 y0 y1_0 y1_1) :=
  tree_use (w36i0vE0 N y0 y1_0 y1_1) (w36i0nE0 N y0 y1_0 y1_1) h (show (w36i0TE0 (bodyOf 0 Try.f36) N y0 y1_0 y1_1).all _ from fun _ => ⟨fun _ => ⟨retp (enc := w36i0enc) rfl, fun h => w36i0oL4 N _ _ _ _ _ h⟩, fun _ => retp (enc := w36i0enc) rfl⟩)
def w36i0us (y0 : Vreader) (y1_0 : Int) (y1_1 : List VLabel) : List (TV EE.T) := [.a (.box 100000 0), .fn 39 [.box 100001 0, .box 100002 0]]
def w36i0h0 (y0 : Vreader) (y1_0 : Int) (y1_1 : List VLabel) : List (Nat × TB EE.T) := [(100000, .cs (unpT EE (.nam 6) y0)), (100001, .cs [.d (.int .i64) y1_0, .own (.nam 2) y1_1]), (100002, .cs [.box 100000 0])]
theorem record_reader_many_i0_ok {N : Nat} (y0 : Vreader) (y1_0 : Int) (y1_1 : List VLabel) {r : PR (Vreader × Int × (List VLabel))} (h : record_reader_many_i0 N y0 y1_0 y1_1 = some r) (ρ : Nat → Nat) (hi : Inj ρ (w36i0h0 y0 y1_0 y1_1)) : ACalls Try.prog 36 ((w36i0us y0 y1_0 y1_1).map (TV.to EE.toEnc ρ)) (hTo EE.toEnc ρ (w36i0h0 y0 y1_0 y1_1)) (fun out H => match r with | .ok z => out = .ret ((record_reader_many_i0_u z).to EE.toEnc ρ) ∧ H = hTo EE.toEnc ρ (w36i0hh 100000 100001 100002 z) | .pan v => out = .pan v) :=
  (fn_okH (bodyOf 0 Try.f36) 22 mixed (w36i0Gok N) Try.func36 (by kernel_rfl) rfl rfl rfl rfl (w36i0oE0 y0 y1_0 y1_1 h) ρ hi).mono fun out H h => by cases r with | ok z => exact KPost.retH rfl rfl h | pan v => exact KPost.pan h
def record_reader_many_i0_h (N : Nat) (us : List (TV EE.T)) (hs : List (Nat × TB EE.T)) : XR EE.T :=
  gdX (lenX us 2) <|
  bnX (aB us 0) fun i0 =>
  bnX (aF 39 us 1) fun c1 =>
  bnX (cbs c1) fun s1 =>
  gdX (lenX s1 2) <|
  bnX (s1[0]?) fun i1 =>
  bnX (s1[1]?) fun i2 =>
  bnX (bS EE 6 hs i0) fun y0 =>
  bnX (bC hs i1) fun l1 =>
  gdX (lenX l1 2) <|
  bnX (cD (.int .i64) l1 0) fun y1_0 =>
  bnX (cO (.nam 2) l1 1) fun y1_1 =>
  bnX (bC hs i2) fun l2 =>
  gdX (lenX l2 1) <|
  bnX (cB l2 0) fun jh15 =>
  gdX (Nat.beq jh15 i0) <|
  gdX (goodIds hs [i0, i1, i2]) <|
  .may (record_reader_many_i0 N y0 y1_0 y1_1) [i0, i1, i2] record_reader_many_i0_u (w36i0hh i0 i1 i2)
theorem record_reader_many_i0_hok (N : Nat) : XOk Try.prog EE 36 (record_reader_many_i0_h N) := fun us hs =>
  gdX_ok fun h1 => bnX_ok fun i0 h2 => bnX_ok fun c1 h3 => bnX_ok fun s1 h4 => gdX_ok fun h5 => bnX_ok fun i1 h6 => bnX_ok fun i2 h7 => bnX_ok fun y0 h8 => bnX_ok fun l1 h9 => gdX_ok fun h10 => bnX_ok fun y1_0 h11 => bnX_ok fun y1_1 h12 => bnX_ok fun l2 h13 => gdX_ok fun h14 => bnX_ok fun jh15 h15 => gdX_ok fun h16 => gdX_ok fun h17 => fun p hz => ⟨fun z e => rfl, fun ρ hi => xcall (us' := w36i0us y0 y1_0 y1_1) (h0 := w36i0h0 y0 y1_0 y1_1) (ρ' := rhoS ρ [i0, i1, i2]) ⟨aB_le h2 (by kernel_rfl), aF_le (js := [100001, 100002]) h3 h4 (by rw [lis2 (lenX_ok h5) h6 h7];  kernel_rfl), lenX_ok h1⟩ ⟨(by kernel_rfl), bS_le h8, (by kernel_rfl), bC_le h9 ⟨cD_le h11, cO_le h12, lenX_ok h10⟩, (by kernel_rfl), bC_le h13 ⟨cB_le h15 (by rw [Nat.eq_of_beq_eq_true h16]; kernel_rfl), lenX_ok h14⟩, trivial⟩ (record_reader_many_i0_ok y0 y1_0 y1_1 hz _ (rhoS_inj hi h17 _ (by kernel_rfl))) (fun out H h => by cases p with | ok z => exact ⟨h.1.trans (by kernel_rfl), h.2.trans (by kernel_rfl)⟩ | pan v => exact h)⟩
/-! ### (*gleaner/record.reader).record$1 -/
def record_reader_record_1_i0_u (r : Int × (List VRef) × (List VPoint) × Vreader) : TV EE.T := .tu []
def w37i0hh (i0 : Nat) (i1 : Nat) (i2 : Nat) (r : Int × (List VRef) × (List VPoint) × Vreader) : List (Nat × TB EE.T) := [(i0, .cs [.box i2 0]), (i1, .cs [.d (.int .i64) r.1, .own (.nam 3) r.2.1, .own (.nam 4) r.2.2.1]), (i2, .cs (unpT EE (.nam 6) r.2.2.2))]
def w37i0enc (r : PR (Int × (List VRef) × (List VPoint) × Vreader)) : RL EE.T := match r with
  | .ok z => .ret (record_reader_record_1_i0_u z) (w37i0hh 100000 100001 100002 z)
  | .pan v => .pan v
def w37i0lv : Lvs := ⟨[], [], [], [], false, [(100000, (none, [])), (100001, (none, [])), (100002, (some 6, []))], [100000, 100001, 100002]⟩
def w37i0rs : List ResultVar := []
def w37i0G (N : Nat) : Gam EE := ⟨[], EQT, [⟨36, record_reader_many_i0_h N⟩, ⟨38, record_reader_number_i0_h N⟩], []⟩
theorem w37i0Gok (N : Nat) : GOk Try.prog TT EE (w37i0G N) := GOk.consx (record_reader_many_i0_hok N) (GOk.consx (record_reader_number_i0_hok N) (GOk.nil EQT_ok))
def w37i0kE0 (c : Code) : List It2 := [.c c]
def w37i0sE0 (y1_0 : Int) (y1_1 : List VRef) (y1_2 : List VPoint) (y2 : Vreader) : TS EE.T := ⟨15, [(0, .a (.box 100000 0)), (1, .a (.box 100001 0))], [(100000, .cs [.box 100002 0]), (100001, .cs [.d (.int .i64) y1_0, .own (.nam 3) y1_1, .own (.nam 4) y1_2]), (100002, .cs (unpT EE (.nam 6) y2))], []⟩
def w37i0TE0 (c : Code) (N : Nat) (y1_0 : Int) (y1_1 : List VRef) (y1_2 : List VPoint) (y2 : Vreader) : Tree (Lf EE.T × Option (PR (Int × (List VRef) × (List VPoint) × Vreader))) :=
  .bnd (record_reader_number_i0 N y2) fun z1 =>
  .sm z1 (fun z2 =>
    .bnd (record_reader_many_i0 N z2.2 z2.1 ([] : List VLabel)) fun z3 =>
    .sm z3 (fun z4 =>
      .bnd (appC 32 y1_1 ([({ Ref := z4.2.1, Labels := z4.2.2 } : VRef)] : List VRef)) fun z5 =>
      .leaf (.done (w37i0enc (.ok (y1_0, z5, y1_2, z4.1))), some (.ok (y1_0, z5, y1_2, z4.1)))) (fun vz3 =>
      .leaf (.done (.pan vz3), some (.pan vz3)))) (fun vz1 =>
    .leaf (.done (.pan vz1), some (.pan vz1)))
theorem w37i0vE0 (N : Nat) (y1_0 : Int) (y1_1 : List VRef) (y1_2 : List VPoint) (y2 : Vreader) : evM TT EE (w37i0G N) w37i0lv w37i0rs 4000 true (w37i0kE0 (bodyOf 0 Try.f37)) (w37i0sE0 y1_0 y1_1 y1_2 y2) = (w37i0TE0 (bodyOf 0 Try.f37) N y1_0 y1_1 y1_2 y2).map1 := by kernel_rfl
theorem w37i0nE0 (N : Nat) (y1_0 : Int) (y1_1 : List VRef) (y1_2 : List VPoint) (y2 : Vreader) : record_reader_record_1_i0 N y1_0 y1_1 y1_2 y2 = (w37i0TE0 (bodyOf 0 Try.f37) N y1_0 y1_1 y1_2 y2).run := by kernel_rfl
theorem w37i0oE0 {N : Nat} {r : PR (Int × (List VRef) × (List VPoint) × Vreader)} (y1_0 : Int) (y1_1 : List VRef) (y1_2 : List VPoint) (y2 : Vreader) (h : record_reader_record_1_i0 N y1_0 y1_1 y1_2 y2 = some r) : Ends (Y := TT) EE (w37i0G N) w37i0lv w37i0rs (fun u => u = w37i0enc r) (w37i0kE0 (bodyOf 0 Try.f37)) (w37i0sE0 y1_0 y1_1 y1_2 y2) :=
  tree_use (w37i0vE0 N y1_0 y1_1 y1_2 y2) (w37i0nE0 N y1_0 y1_1 y1_2 y2) h (show (w37i0TE0 (bodyOf 0 Try.f37) N y1_0 y1_1 y1_2 y2).all _ from fun _ => ⟨fun _ => fun _ => ⟨fun _ => fun _ => retp (enc := w37i0enc) rfl, fun _ => retp (enc := w37i0enc) rfl⟩, fun _ => retp (enc := w37i0enc) rfl⟩)
def w37i0us (y1_0 : Int) (y1_1 : List VRef) (y1_2 : List VPoint) (y2 : Vreader) : List (TV EE.T) := [.a (.box 100000 0), .a (.box 100001 0)]
def w37i0h0 (y1_0 : Int) (y1_1 : List VRef) (y1_2 : List VPoint) (y2 : Vreader) : List (Nat × TB EE.T) := [(100000, .cs [.box 100002 0]), (100001, .cs [.d (.int .i64) y1_0, .own (.nam 3) y1_1, .own (.nam 4) y1_2]), (100002, .cs (unpT EE (.nam 6) y2))]
theorem record_reader_record_1_i0_ok {N : Nat} (y1_0 : Int) (y1_1 : List VRef) (y1_2 : List VPoint) (y2 : Vreader) {r : PR (Int × (List VRef) × (List VPoint) × Vreader)} (h : record_reader_record_1_i0 N y1_0 y1_1 y1_2 y2 = some r) (ρ : Nat → Nat) (hi : Inj ρ (w37i0h0 y1_0 y1_1 y1_2 y2)) : ACalls Try.prog 37 ((w37i0us y1_0 y1_1 y1_2 y2).map (TV.to EE.toEnc ρ)) (hTo EE.toEnc ρ (w37i0h0 y1_0 y1_1 y1_2 y2)) (fun out H => match r with | .ok z => out = .ret ((record_reader_record_1_i0_u z).to EE.toEnc ρ) ∧ H = hTo EE.toEnc ρ (w37i0hh 100000 100001 100002 z) | .pan v => out = .pan v) :=
  (fn_okH (bodyOf 0 Try.f37) 15 mixed (w37i0Gok N) Try.func37 (by kernel_rfl) rfl rfl rfl rfl (w37i0oE0 y1_0 y1_1 y1_2 y2 h) ρ hi).mono fun out H h => by cases r with | ok z => exact KPost.retH rfl rfl h | pan v => exact KPost.pan h
def record_reader_record_1_i0_h (N : Nat) (us : List (TV EE.T)) (hs : List (Nat × TB EE.T)) : XR EE.T :=
  gdX (lenX us 2) <|
  bnX (aB us 0) fun i0 =>
  bnX (aB us 1) fun i1 =>
  bnX (bC hs i0) fun l0 =>
  gdX (lenX l0 1) <|
  bnX (cB l0 0) fun i2 =>
  bnX (bC hs i1) fun l1 =>
  gdX (lenX l1 3) <|
  bnX (cD (.int .i64) l1 0) fun y1_0 =>
  bnX (cO (.nam 3) l1 1) fun y1_1 =>
  bnX (cO (.nam 4) l1 2) fun y1_2 =>
  bnX (bS EE 6 hs i2) fun y2 =>
  gdX (goodIds hs [i0, i1, i2]) <|
  .may (record_reader_record_1_i0 N y1_0 y1_1 y1_2 y2) [i0, i1, i2] record_reader_record_1_i0_u (w37i0hh i0 i1 i2)
theorem record_reader_record_1_i0_hok (N : Nat) : XOk Try.prog EE 37 (record_reader_record_1_i0_h N) := fun us hs =>
  gdX_ok fun h1 => bnX_ok fun i0 h2 => bnX_ok fun i1 h3 => bnX_ok fun l0 h4 => gdX_ok fun h5 => bnX_ok fun i2 h6 => bnX_ok fun l1 h7 => gdX_ok fun h8 => bnX_ok fun y1_0 h9 => bnX_ok fun y1_1 h10 => bnX_ok fun y1_2 h11 => bnX_ok fun y2 h12 => gdX_ok fun h13 => fun p hz => ⟨fun z e => rfl, fun ρ hi => xcall (us' := w37i0us y1_0 y1_1 y1_2 y2) (h0 := w37i0h0 y1_0 y1_1 y1_2 y2) (ρ' := rhoS ρ [i0, i1, i2]) ⟨aB_le h2 (by kernel_rfl), aB_le h3 (by kernel_rfl), lenX_ok h1⟩ ⟨(by kernel_rfl), bC_le h4 ⟨cB_le h6 (by kernel_rfl), lenX_ok h5⟩, (by kernel_rfl), bC_le h7 ⟨cD_le h9, cO_le h10, cO_le h11, lenX_ok h8⟩, (by kernel_rfl), bS_le h12, trivial⟩ (record_reader_record_1_i0_ok y1_0 y1_1 y1_2 y2 hz _ (rhoS_inj hi h13 _ (by kernel_rfl))) (fun out H h => by cases p with | ok z => exact ⟨h.1.trans (by kernel_rfl), h.2.trans (by kernel_rfl)⟩ | pan v => exact h)⟩
/-! ### (*gleaner/record.reader).many -/
def record_reader_many_i1_u (r : Vreader × Int × (List VRef) × (List VPoint)) : TV EE.T := .tu []
def w36i1hh (i0 : Nat) (i1 : Nat) (i2 : Nat) (r : Vreader × Int × (List VRef) × (List VPoint)) : List (Nat × TB EE.T) := [(i0, .cs (unpT EE (.nam 6) r.1)), (i1, .cs [.box i0 0]), (i2, .cs [.d (.int .i64) r.2.1, .own (.nam 3) r.2.2.1, .own (.nam 4) r.2.2.2])]
def w36i1enc (r : PR (Vreader × Int × (List VRef) × (List VPoint))) : RL EE.T := match r with
  | .ok z => .ret (record_reader_many_i1_u z) (w36i1hh 100000 100001 100002 z)
  | .pan v => .pan v
def w36i1lv : Lvs := ⟨[], [(4, ⟨[(1, false), (16, false), (17, false)], [], [(100000, (some 6, [])), (100001, (none, [])), (100002, (none, []))]⟩)], [], [], false, [(100000, (some 6, [])), (100001, (none, [])), (100002, (none, []))], [100000, 100001, 100002]⟩
def w36i1rs : List ResultVar := []
def w36i1G (N : Nat) : Gam EE := ⟨[], EQT, [⟨37, record_reader_record_1_i0_h N⟩, ⟨38, record_reader_number_i0_h N⟩], []⟩
theorem w36i1Gok (N : Nat) : GOk Try.prog TT EE (w36i1G N) := GOk.consx (record_reader_record_1_i0_hok N) (GOk.consx (record_reader_number_i0_hok N) (GOk.nil EQT_ok))
def w36i1kL4 (c : Code) : List It2 := atL 4 c
def w36i1sL4 (x16 : Int) (x17 : Int) (b100000 : Vreader) (b100002_0 : Int) (b100002_1 : List VRef) (b100002_2 : List VPoint) : TS EE.T := ⟨22, [(1, .fn 37 [.box 100001 0, .box 100002 0]), (16, .a (.d (.int .i64) x16)), (17, .a (.d (.int .i64) x17))], [(100000, .cs (unpT EE (.nam 6) b100000)), (100001, .cs [.box 100000 0]), (100002, .cs [.d (.int .i64) b100002_0, .own (.nam 3) b100002_1, .own (.nam 4) b100002_2])], []⟩
def w36i1kE0 (c : Code) : List It2 := [.c c]
def w36i1sE0 (y0 : Vreader) (y2_0 : Int) (y2_1 : List VRef) (y2_2 : List VPoint) : TS EE.T := ⟨22, [(0, .a (.box 100000 0)), (1, .fn 37 [.box 100001 0, .box 100002 0])], [(100000, .cs (unpT EE (.nam 6) y0)), (100001, .cs [.box 100000 0]), (100002, .cs [.d (.int .i64) y2_0, .own (.nam 3) y2_1, .own (.nam 4) y2_2])], []⟩
def w36i1TL4 (c : Code) (N : Nat) (n : Nat) (x16 : Int) (x17 : Int) (b100000 : Vreader) (b100002_0 : Int) (b100002_1 : List VRef) (b100002_2 : List VPoint) : Tree (Lf EE.T × Option (PR (Vreader × Int × (List VRef) × (List VPoint)))) :=
  .cond (decide (x17 < x16))
  (
    .bnd (record_reader_record_1_i0 N b100002_0 b100002_1 b100002_2 b100000) fun z3 =>
    .sm z3 (fun z4 =>
      .leaf (.go (w36i1kL4 c) (w36i1sL4 x16 (w64 (x17 + 1)) z4.2.2.2 z4.1 z4.2.1 z4.2.2.1), record_reader_many_i1_L4 N n x16 (w64 (x17 + 1)) z4.2.2.2 z4.1 z4.2.1 z4.2.2.1)) (fun vz3 =>
      .leaf (.done (.pan vz3), some (.pan vz3))))
  (
    .leaf (.done (w36i1enc (.ok (b100000, b100002_0, b100002_1, b100002_2))), some (.ok (b100000, b100002_0, b100002_1, b100002_2))))
theorem w36i1vL4 (N : Nat) (n : Nat) (x16 : Int) (x17 : Int) (b100000 : Vreader) (b100002_0 : Int) (b100002_1 : List VRef) (b100002_2 : List VPoint) : evM TT EE (w36i1G N) w36i1lv w36i1rs 4000 true (w36i1kL4 (bodyOf 0 Try.f36)) (w36i1sL4 x16 x17 b100000 b100002_0 b100002_1 b100002_2) = (w36i1TL4 (bodyOf 0 Try.f36) N n x16 x17 b100000 b100002_0 b100002_1 b100002_2).map1 := by kernel_rfl
theorem w36i1nL4 (N : Nat) (n : Nat) (x16 : Int) (x17 : Int) (b100000 : Vreader) (b100002_0 : Int) (b100002_1 : List VRef) (b100002_2 : List VPoint) : record_reader_many_i1_L4 N (n + 1) x16 x17 b100000 b100002_0 b100002_1 b100002_2 = (w36i1TL4 (bodyOf 0 Try.f36) N n x16 x17 b100000 b100002_0 b100002_1 b100002_2).run := by kernel_rfl
theorem w36i1oL4 {N : Nat} {r : PR (Vreader × Int × (List VRef) × (List VPoint))} : ∀ (n : Nat) (x16 : Int) (x17 : Int) (b100000 : Vreader) (b100002_0 : Int) (b100002_1 : List VRef) (b100002_2 : List VPoint), record_reader_many_i1_L4 N n x16 x17 b100000 b100002_0 b100002_1 b100002_2 = some r → Ends (Y := TT) EE (w36i1G N) w36i1lv w36i1rs (fun u => u = w36i1enc r) (w36i1kL4 (bodyOf 0 Try.f36)) (w36i1sL4 x16 x17 b100000 b100002_0 b100002_1 b100002_2)
  | 0, _, _, _, _, _, _, h => by cases h
  | n + 1, x16, x17, b100000, b100002_0, b100002_1, b100002_2, h => tree_use (w36i1vL4 N n x16 x17 b100000 b100002_0 b100002_1 b100002_2) (w36i1nL4 N n x16 x17 b100000 b100002_0 b100002_1 b100002_2) h (show (w36i1TL4 (bodyOf 0 Try.f36) N n x16 x17 b100000 b100002_0 b100002_1 b100002_2).all _ from ⟨fun _ => ⟨fun _ => fun h => (w36i1oL4 n) _ _ _ _ _ _ h, fun _ => retp (enc := w36i1enc) rfl⟩, retp (enc := w36i1enc) rfl⟩)
def w36i1TE0 (c : Code) (N : Nat) (y0 : Vreader) (y2_0 : Int) (y2_1 : List VRef) (y2_2 : List VPoint) : Tree (Lf EE.T × Option (PR (Vreader × Int × (List VRef) × (List VPoint)))) :=
  .bnd (record_reader_number_i0 N y0) fun z1 =>
  .sm z1 (fun z2 =>
    .cond (decide (z2.1 > (z2.2.s.length : Int)))
    (
      .leaf (.done (.pan (Value.iface 54 (.agg #[]))), some (.pan (Value.iface 54 (.agg #[])))))
    (
      .leaf (.go (w36i1kL4 c) (w36i1sL4 z2.1 0 z2.2 y2_0 y2_1 y2_2), record_reader_many_i1_L4 N N z2.1 0 z2.2 y2_0 y2_1 y2_2))) (fun vz1 =>
    .leaf (.done (.pan vz1), some (.pan vz1)))
theorem w36i1vE0 (N : Nat) (y0 : Vreader) (y2_0 : Int) (y2_1 : List VRef) (y2_2 : List VPoint) : evM TT EE (w36i1G N) w36i1lv w36i1rs 4000 true (w36i1kE0 (bodyOf 0 Try.f36)) (w36i1sE0 y0 y2_0 y2_1 y2_2) = (w36i1TE0 (bodyOf 0 Try.f36) N y0 y2_0 y2_1 y2_2).map1 := by kernel_rfl
theorem w36i1nE0 (N : Nat) (y0 : Vreader) (y2_0 : Int) (y2_1 : List VRef) (y2_2 : List VPoint) : record_reader_many_i1 N y0 y2_0 y2_1 y2_2 = (w36i1TE0 (bodyOf 0 Try.f36) N y0 y2_0 y2_1 y2_2).run := by kernel_rfl
theorem w36i1oE0 {N : Nat} {r : PR (Vreader × Int × (List VRef) × (List VPoint))} (y0 : Vreader) (y2_0 : Int) (y2_1 : List VRef) (y2_2 : List VPoint) (h : record_reader_many_i1 N y0 y2_0 y2_1 y2_2 = some r) : Ends (Y := TT) EE (w36i1G N) w36i1lv w36i1rs (fun u => u = w36i1enc r) (w36i1kE0 (bodyOf 0 Try.f36)) (w36i1sE0 y0 y2_0 y2_1 y2_2) :=
  tree_use (w36i1vE0 N y0 y2_0 y2_1 y2_2) (w36i1nE0 N y0 y2_0 y2_1 y2_2) h (show (w36i1TE0 (bodyOf 0 Try.f36) N y0 y2_0 y2_1 y2_2).all _ from fun _ => ⟨fun _ => ⟨retp (enc := w36i1enc) rfl, fun h => w36i1oL4 N _ _ _ _ _ _ h⟩, fun _ => retp (enc := w36i1enc) rfl⟩)
def w36i1us (y0 : Vreader) (y2_0 : Int) (y2_1 : List VRef) (y2_2 : List VPoint) : List (TV EE.T) := [.a (.box 100000 0), .fn 37 [.box 100001 0, .box 100002 0]]
def w36i1h0 (y0 : Vreader) (y2_0 : Int) (y2_1 : List VRef) (y2_2 : List VPoint) : List (Nat × TB EE.T) := [(100000, .cs (unpT EE (.nam 6) y0)), (100001, .cs [.box 100000 0]), (100002, .cs [.d (.int .i64) y2_0, .own (.nam 3) y2_1, .own (.nam 4) y2_2])]
theorem record_reader_many_i1_ok {N : Nat} (y0 : Vreader) (y2_0 : Int) (y2_1 : List VRef) (y2_2 : List VPoint) {r : PR (Vreader × Int × (List VRef) × (List VPoint))} (h : record_reader_many_i1 N y0 y2_0 y2_1 y2_2 = some r) (ρ : Nat → Nat) (hi : Inj ρ (w36i1h0 y0 y2_0 y2_1 y2_2)) : ACalls Try.prog 36 ((w36i1us y0 y2_0 y2_1 y2_2).map (TV.to EE.toEnc ρ)) (hTo EE.toEnc ρ (w36i1h0 y0 y2_0 y2_1 y2_2)) (fun out H => match r with | .ok z => out = .ret ((record_reader_many_i1_u z).to EE.toEnc ρ) ∧ H = hTo EE.toEnc ρ (w36i1hh 100000 100001 100002 z) | .pan v => out = .pan v) :=
  (fn_okH (bodyOf 0 Try.f36) 22 mixed (w36i1Gok N) Try.func36 (by kernel_rfl) rfl rfl rfl rfl (w36i1oE0 y0 y2_0 y2_1 y2_2 h) ρ hi).mono fun out H h => by cases r with | ok z => exact KPost.retH rfl rfl h | pan v => exact KPost.pan h
def record_reader_many_i1_h (N : Nat) (us : List (TV EE.T)) (hs : List (Nat × TB EE.T)) : XR EE.T :=
  gdX (lenX us 2) <|
  bnX (aB us 0) fun i0 =>
  bnX (aF 37 us 1) fun c1 =>
  bnX (cbs c1) fun s1 =>
  gdX (lenX s1 2) <|
  bnX (s1[0]?) fun i1 =>
  bnX (s1[1]?) fun i2 =>
  bnX (bS EE 6 hs i0) fun y0 =>
  bnX (bC hs i1) fun l1 =>
  gdX (lenX l1 1) <|
  bnX (cB l1 0) fun jh11 =>
  gdX (Nat.beq jh11 i0) <|
  bnX (bC hs i2) fun l2 =>
  gdX (lenX l2 3) <|
  bnX (cD (.int .i64) l2 0) fun y2_0 =>
  bnX (cO (.nam 3) l2 1) fun y2_1 =>
  bnX (cO (.nam 4) l2 2) fun y2_2 =>
  gdX (goodIds hs [i0, i1, i2]) <|
  .may (record_reader_many_i1 N y0 y2_0 y2_1 y2_2) [i0, i1, i2] record_reader_many_i1_u (w36i1hh i0 i1 i2)
theorem record_reader_many_i1_hok (N : Nat) : XOk Try.prog EE 36 (record_reader_many_i1_h N) := fun us hs =>
  gdX_ok fun h1 => bnX_ok fun i0 h2 => bnX_ok fun c1 h3 => bnX_ok fun s1 h4 => gdX_ok fun h5 => bnX_ok fun i1 h6 => bnX_ok fun i2 h7 => bnX_ok fun y0 h8 => bnX_ok fun l1 h9 => gdX_ok fun h10 => bnX_ok fun jh11 h11 => gdX_ok fun h12 => bnX_ok fun l2 h13 => gdX_ok fun h14 => bnX_ok fun y2_0 h15 => bnX_ok fun y2_1 h16 => bnX_ok fun y2_2 h17 => gdX_ok fun h18 => fun p hz => ⟨fun z e => rfl, fun ρ hi => xcall (us' := w36i1us y0 y2_0 y2_1 y2_2) (h0 := w36i1h0 y0 y2_0 y2_1 y2_2) (ρ' := rhoS ρ [i0, i1, i2]) ⟨aB_le h2 (by kernel_rfl), aF_le (js := [100001, 100002]) h3 h4 (by rw [lis2 (lenX_ok h5) h6 h7];  kernel_rfl), lenX_ok h1⟩ ⟨(by kernel_rfl), bS_le h8, (by kernel_rfl), bC_le h9 ⟨cB_le h11 (by rw [Nat.eq_of_beq_eq_true h12]; kernel_rfl), lenX_ok h10⟩, (by kernel_rfl), bC_le h13 ⟨cD_le h15, cO_le h16, cO_le h17, lenX_ok h14⟩, trivial⟩ (record_reader_many_i1_ok y0 y2_0 y2_1 y2_2 hz _ (rhoS_inj hi h18 _ (by kernel_rfl))) (fun out H h => by cases p with | ok z => exact ⟨h.1.trans (by kernel_rfl), h.2.trans (by kernel_rfl)⟩ | pan v => exact h)⟩
/-! ### (*gleaner/record.reader).record$2 -/
def record_reader_record_2_i0_u (r : Int × (List VRef) × (List VPoint) × Vreader) : TV EE.T := .tu []
def w41i0hh (i0 : Nat) (i1 : Nat) (i2 : Nat) (r : Int × (List VRef) × (List VPoint) × Vreader) : List (Nat × TB EE.T) := [(i0, .cs [.box i2 0]), (i1, .cs [.d (.int .i64) r.1, .own (.nam 3) r.2.1, .own (.nam 4) r.2.2.1]), (i2, .cs (unpT EE (.nam 6) r.2.2.2))]
def w41i0enc (r : PR (Int × (List VRef) × (List VPoint) × Vreader)) : RL EE.T := match r with
  | .ok z => .ret (record_reader_record_2_i0_u z) (w41i0hh 100000 100001 100002 z)
  | .pan v => .pan v
def w41i0lv : Lvs := ⟨[(0, ⟨[(0, false), (1, false)], [], [(100000, (none, [])), (100001, (none, [])), (100002, (some 6, []))]⟩), (1, ⟨[(0, false), (1, false), (2, false)], [], [(2, (some 4, [])), (100000, (none, [])), (100001, (none, [])), (100002, (some 6, []))]⟩), (4, ⟨[(0, false), (1, false), (2, false)], [], [(2, (some 4, [])), (100000, (none, [])), (100001, (none, [])), (100002, (some 6, []))]⟩), (7, ⟨[(1, false), (2, false), (3, false), (4, false), (26, false), (27, false), (28, false)], [], [(2, (some 4, [])), (100000, (none, [])), (100001, (none, [])), (100002, (some 6, []))]⟩)], [(5, ⟨[(1, false), (2, false), (26, false), (27, false), (28, false)], [], [(2, (some 4, [])), (100000, (none, [])), (100001, (none, [])), (100002, (some 6, []))]⟩)], [1, 4], [], false, [(100000, (none, [])), (100001, (none, [])), (100002, (some 6, []))], [100000, 100001, 100002]⟩
def w41i0rs : List ResultVar := []
def w41i0G (N : Nat) : Gam EE := ⟨[], EQT, [⟨35, record_reader_take_i0_h N⟩, ⟨38, record_reader_number_i0_h N⟩], []⟩
theorem w41i0Gok (N : Nat) : GOk Try.prog TT EE (w41i0G N) := GOk.consx (record_reader_take_i0_hok N) (GOk.consx (record_reader_number_i0_hok N) (GOk.nil EQT_ok))
def w41i0kL5 (c : Code) : List It2 := atL 5 c
def w41i0sL5 (x26 : List UInt8) (x27 : Int) (x28 : Int) (b2 : VPoint) (b100001_0 : Int) (b100001_1 : List VRef) (b100001_2 : List VPoint) (b100002 : Vreader) : TS EE.T := ⟨49, [(1, .a (.box 100001 0)), (2, .a (.box 2 0)), (26, .a (.own .byte x26)), (27, .a (.d (.int .i64) x27)), (28, .a (.d (.int .i64) x28))], [(2, .cs (unpT EE (.nam 4) b2)), (100000, .cs [.box 100002 0]), (100001, .cs [.d (.int .i64) b100001_0, .own (.nam 3) b100001_1, .own (.nam 4) b100001_2]), (100002, .cs (unpT EE (.nam 6) b100002))], []⟩
def w41i0kR4 (c : Code) : List It2 := atR 4 c
def w41i0sR4 (b2 : VPoint) (b100001_0 : Int) (b100001_1 : List VRef) (b100001_2 : List VPoint) (b100002 : Vreader) : TS EE.T := ⟨49, [(0, .a (.box 100000 0)), (1, .a (.box 100001 0)), (2, .a (.box 2 0))], [(2, .cs (unpT EE (.nam 4) b2)), (100000, .cs [.box 100002 0]), (100001, .cs [.d (.int .i64) b100001_0, .own (.nam 3) b100001_1, .own (.nam 4) b100001_2]), (100002, .cs (unpT EE (.nam 6) b100002))], []⟩
def w41i0kR1 (c : Code) : List It2 := atR 1 c
def w41i0sR1 (b2 : VPoint) (b100001_0 : Int) (b100001_1 : List VRef) (b100001_2 : List VPoint) (b100002 : Vreader) : TS EE.T := ⟨49, [(0, .a (.box 100000 0)), (1, .a (.box 100001 0)), (2, .a (.box 2 0))], [(2, .cs (unpT EE (.nam 4) b2)), (100000, .cs [.box 100002 0]), (100001, .cs [.d (.int .i64) b100001_0, .own (.nam 3) b100001_1, .own (.nam 4) b100001_2]), (100002, .cs (unpT EE (.nam 6) b100002))], []⟩
def w41i0kE0 (c : Code) : List It2 := [.c c]
def w41i0sE0 (y1_0 : Int) (y1_1 : List VRef) (y1_2 : List VPoint) (y2 : Vreader) : TS EE.T := ⟨49, [(0, .a (.box 100000 0)), (1, .a (.box 100001 0))], [(100000, .cs [.box 100002 0]), (100001, .cs [.d (.int .i64) y1_0, .own (.nam 3) y1_1, .own (.nam 4) y1_2]), (100002, .cs (unpT EE (.nam 6) y2))], []⟩
def w41i0TL5 (c : Code) (N : Nat) (n : Nat) (x26 : List UInt8) (x27 : Int) (x28 : Int) (b2 : VPoint) (b100001_0 : Int) (b100001_1 : List VRef) (b100001_2 : List VPoint) (b100002 : Vreader) : Tree (Lf EE.T × Option (PR (Int × (List VRef) × (List VPoint) × Vreader))) :=
  .cond (decide (x28 < x27))
  (
    .bnd (idxC x26 x28) fun z58 =>
    .bnd (shlC .u64 (IntKind.wrap .u64 (b2i z58)) (w64 (8 * x28))) fun z59 =>
    .leaf (.go (w41i0kL5 c) (w41i0sL5 x26 x27 (w64 (x28 + 1)) ({ Ref := b2.Ref, Time := b2.Time, Bits := bits .or .u64 b2.Bits z59 } : VPoint) b100001_0 b100001_1 b100001_2 b100002), record_reader_record_2_i0_L5 N n x26 x27 (w64 (x28 + 1)) ({ Ref := b2.Ref, Time := b2.Time, Bits := bits .or .u64 b2.Bits z59 } : VPoint) b100001_0 b100001_1 b100001_2 b100002))
  (
    .bnd (appC 24 b100001_2 ([b2] : List VPoint)) fun z60 =>
    .leaf (.done (w41i0enc (.ok (b100001_0, b100001_1, z60, b100002))), some (.ok (b100001_0, b100001_1, z60, b100002))))
theorem w41i0vL5 (N : Nat) (n : Nat) (x26 : List UInt8) (x27 : Int) (x28 : Int) (b2 : VPoint) (b100001_0 : Int) (b100001_1 : List VRef) (b100001_2 : List VPoint) (b100002 : Vreader) : evM TT EE (w41i0G N) w41i0lv w41i0rs 4000 true (w41i0kL5 (bodyOf 0 Try.f41)) (w41i0sL5 x26 x27 x28 b2 b100001_0 b100001_1 b100001_2 b100002) = (w41i0TL5 (bodyOf 0 Try.f41) N n x26 x27 x28 b2 b100001_0 b100001_1 b100001_2 b100002).map1 := by kernel_rfl
theorem w41i0nL5 (N : Nat) (n : Nat) (x26 : List UInt8) (x27 : Int) (x28 : Int) (b2 : VPoint) (b100001_0 : Int) (b100001_1 : List VRef) (b100001_2 : List VPoint) (b100002 : Vreader) : record_reader_record_2_i0_L5 N (n + 1) x26 x27 x28 b2 b100001_0 b100001_1 b100001_2 b100002 = (w41i0TL5 (bodyOf 0 Try.f41) N n x26 x27 x28 b2 b100001_0 b100001_1 b100001_2 b100002).run := by kernel_rfl
theorem w41i0oL5 {N : Nat} {r : PR (Int × (List VRef) × (List VPoint) × Vreader)} : ∀ (n : Nat) (x26 : List UInt8) (x27 : Int) (x28 : Int) (b2 : VPoint) (b100001_0 : Int) (b100001_1 : List VRef) (b100001_2 : List VPoint) (b100002 : Vreader), record_reader_record_2_i0_L5 N n x26 x27 x28 b2 b100001_0 b100001_1 b100001_2 b100002 = some r → Ends (Y := TT) EE (w41i0G N) w41i0lv w41i0rs (fun u => u = w41i0enc r) (w41i0kL5 (bodyOf 0 Try.f41)) (w41i0sL5 x26 x27 x28 b2 b100001_0 b100001_1 b100001_2 b100002)
  | 0, _, _, _, _, _, _, _, _, h => by cases h
  | n + 1, x26, x27, x28, b2, b100001_0, b100001_1, b100001_2, b100002, h => tree_use (w41i0vL5 N n x26 x27 x28 b2 b100001_0 b100001_1 b100001_2 b100002) (w41i0nL5 N n x26 x27 x28 b2 b100001_0 b100001_1 b100001_2 b100002) h (show (w41i0TL5 (bodyOf 0 Try.f41) N n x26 x27 x28 b2 b100001_0 b100001_1 b100001_2 b100002).all _ from ⟨fun _ => fun _ => fun h => (w41i0oL5 n) _ _ _ _ _ _ _ _ h, fun _ => retp (enc := w41i0enc) rfl⟩)
def w41i0TR4 (c : Code) (N : Nat) (n : Nat) (b2 : VPoint) (b100001_0 : Int) (b100001_1 : List VRef) (b100001_2 : List VPoint) (b100002 : Vreader) : Tree (Lf EE.T × Option (PR (Int × (List VRef) × (List VPoint) × Vreader))) :=
  .bnd (record_reader_take_i0 N 8 b100002) fun z56 =>
  .sm z56 (fun z57 =>
    .leaf (.go (w41i0kL5 c) (w41i0sL5 z57.1 (z57.1.length : Int) 0 b2 b100001_0 b100001_1 b100001_2 z57.2), record_reader_record_2_i0_L5 N n z57.1 (z57.1.length : Int) 0 b2 b100001_0 b100001_1 b100001_2 z57.2)) (fun vz56 =>
    .leaf (.done (.pan vz56), some (.pan vz56)))
theorem w41i0vR4 (N : Nat) (n : Nat) (b2 : VPoint) (b100001_0 : Int) (b100001_1 : List VRef) (b100001_2 : List VPoint) (b100002 : Vreader) : evM TT EE (w41i0G N) w41i0lv w41i0rs 4000 true (w41i0kR4 (bodyOf 0 Try.f41)) (w41i0sR4 b2 b100001_0 b100001_1 b100001_2 b100002) = (w41i0TR4 (bodyOf 0 Try.f41) N n b2 b100001_0 b100001_1 b100001_2 b100002).map1 := by kernel_rfl
theorem w41i0nR4 (N : Nat) (n : Nat) (b2 : VPoint) (b100001_0 : Int) (b100001_1 : List VRef) (b100001_2 : List VPoint) (b100002 : Vreader) : record_reader_record_2_i0_R4 N n b2 b100001_0 b100001_1 b100001_2 b100002 = (w41i0TR4 (bodyOf 0 Try.f41) N n b2 b100001_0 b100001_1 b100001_2 b100002).run := by kernel_rfl
theorem w41i0oR4 {N : Nat} {r : PR (Int × (List VRef) × (List VPoint) × Vreader)} (n : Nat) (b2 : VPoint) (b100001_0 : Int) (b100001_1 : List VRef) (b100001_2 : List VPoint) (b100002 : Vreader) (h : record_reader_record_2_i0_R4 N n b2 b100001_0 b100001_1 b100001_2 b100002 = some r) : Ends (Y := TT) EE (w41i0G N) w41i0lv w41i0rs (fun u => u = w41i0enc r) (w41i0kR4 (bodyOf 0 Try.f41)) (w41i0sR4 b2 b100001_0 b100001_1 b100001_2 b100002) :=
  tree_use (w41i0vR4 N n b2 b100001_0 b100001_1 b100001_2 b100002) (w41i0nR4 N n b2 b100001_0 b100001_1 b100001_2 b100002) h (show (w41i0TR4 (bodyOf 0 Try.f41) N n b2 b100001_0 b100001_1 b100001_2 b100002).all _ from fun _ => ⟨fun _ => fun h => w41i0oL5 n _ _ _ _ _ _ _ _ h, fun _ => retp (enc := w41i0enc) rfl⟩)
def w41i0TR1 (c : Code) (N : Nat) (n : Nat) (b2 : VPoint) (b100001_0 : Int) (b100001_1 : List VRef) (b100001_2 : List VPoint) (b100002 : Vreader) : Tree (Lf EE.T × Option (PR (Int × (List VRef) × (List VPoint) × Vreader))) :=
  .bnd (remC b2.Time 2) fun z53 =>
  .cond (z53 == 0)
  (
    .bnd (quoC .i64 b2.Time 2) fun z54 =>
    .leaf (.go (w41i0kR4 c) (w41i0sR4 ({ Ref := b2.Ref, Time := z54, Bits := b2.Bits } : VPoint) b100001_0 b100001_1 b100001_2 b100002), record_reader_record_2_i0_R4 N n ({ Ref := b2.Ref, Time := z54, Bits := b2.Bits } : VPoint) b100001_0 b100001_1 b100001_2 b100002))
  (
    .bnd (quoC .i64 (w64 (0 - (w64 (b2.Time + 1)))) 2) fun z55 =>
    .leaf (.go (w41i0kR4 c) (w41i0sR4 ({ Ref := b2.Ref, Time := z55, Bits := b2.Bits } : VPoint) b100001_0 b100001_1 b100001_2 b100002), record_reader_record_2_i0_R4 N n ({ Ref := b2.Ref, Time := z55, Bits := b2.Bits } : VPoint) b100001_0 b100001_1 b100001_2 b100002))
theorem w41i0vR1 (N : Nat) (n : Nat) (b2 : VPoint) (b100001_0 : Int) (b100001_1 : List VRef) (b100001_2 : List VPoint) (b100002 : Vreader) : evM TT EE (w41i0G N) w41i0lv w41i0rs 4000 true (w41i0kR1 (bodyOf 0 Try.f41)) (w41i0sR1 b2 b100001_0 b100001_1 b100001_2 b100002) = (w41i0TR1 (bodyOf 0 Try.f41) N n b2 b100001_0 b100001_1 b100001_2 b100002).map1 := by kernel_rfl
theorem w41i0nR1 (N : Nat) (n : Nat) (b2 : VPoint) (b100001_0 : Int) (b100001_1 : List VRef) (b100001_2 : List VPoint) (b100002 : Vreader) : record_reader_record_2_i0_R1 N n b2 b100001_0 b100001_1 b100001_2 b100002 = (w41i0TR1 (bodyOf 0 Try.f41) N n b2 b100001_0 b100001_1 b100001_2 b100002).run := by kernel_rfl
theorem w41i0oR1 {N : Nat} {r : PR (Int × (List VRef) × (List VPoint) × Vreader)} (n : Nat) (b2 : VPoint) (b100001_0 : Int) (b100001_1 : List VRef) (b100001_2 : List VPoint) (b100002 : Vreader) (h : record_reader_record_2_i0_R1 N n b2 b100001_0 b100001_1 b100001_2 b100002 = some r) : Ends (Y := TT) EE (w41i0G N) w41i0lv w41i0rs (fun u => u = w41i0enc r) (w41i0kR1 (bodyOf 0 Try.f41)) (w41i0sR1 b2 b100001_0 b100001_1 b100001_2 b100002) :=
  tree_use (w41i0vR1 N n b2 b100001_0 b100001_1 b100001_2 b100002) (w41i0nR1 N n b2 b100001_0 b100001_1 b100001_2 b100002) h (show (w41i0TR1 (bodyOf 0 Try.f41) N n b2 b100001_0 b100001_1 b100001_2 b100002).all _ from fun _ => ⟨fun _ => fun h => w41i0oR4 n _ _ _ _ _ h, fun _ => fun h => w41i0oR4 n _ _ _ _ _ h⟩)
def w41i0TE0 (c : Code) (N : Nat) (y1_0 : Int) (y1_1 : List VRef) (y1_2 : List VPoint) (y2 : Vreader) : Tree (Lf EE.T × Option (PR (Int × (List VRef) × (List VPoint) × Vreader))) :=
  .nl (([] : List Nat))
  (
    .nl (([] : List Nat))
    (
      .bnd (record_reader_number_i0 N y2) fun z1 =>
      .sm z1 (fun z2 =>
        .nl (([] : List Nat))
        (
          .nl (([] : List Nat))
          (
            .bnd (record_reader_number_i0 N z2.2) fun z3 =>
            .sm z3 (fun z4 =>
              .nl (([] : List Nat))
              (
                .leaf (.go (w41i0kR1 c) (w41i0sR1 ({ Ref := z2.1, Time := z4.1, Bits := 0 } : VPoint) y1_0 y1_1 y1_2 z4.2), record_reader_record_2_i0_R1 N N ({ Ref := z2.1, Time := z4.1, Bits := 0 } : VPoint) y1_0 y1_1 y1_2 z4.2))
              (
                .leaf (.go (w41i0kR1 c) (w41i0sR1 ({ Ref := z2.1, Time := z4.1, Bits := 0 } : VPoint) y1_0 y1_1 y1_2 z4.2), record_reader_record_2_i0_R1 N N ({ Ref := z2.1, Time := z4.1, Bits := 0 } : VPoint) y1_0 y1_1 y1_2 z4.2))) (fun vz3 =>
              .leaf (.done (.pan vz3), some (.pan vz3))))
          (
            .bnd (record_reader_number_i0 N z2.2) fun z5 =>
            .sm z5 (fun z6 =>
              .leaf (.go (w41i0kR1 c) (w41i0sR1 ({ Ref := z2.1, Time := z6.1, Bits := 0 } : VPoint) y1_0 y1_1 y1_2 z6.2), record_reader_record_2_i0_R1 N N ({ Ref := z2.1, Time := z6.1, Bits := 0 } : VPoint) y1_0 y1_1 y1_2 z6.2)) (fun vz5 =>
              .leaf (.done (.pan vz5), some (.pan vz5)))))
        (
          .bnd (record_reader_number_i0 N z2.2) fun z7 =>
          .sm z7 (fun z8 =>
            .leaf (.go (w41i0kR1 c) (w41i0sR1 ({ Ref := z2.1, Time := z8.1, Bits := 0 } : VPoint) y1_0 y1_1 y1_2 z8.2), record_reader_record_2_i0_R1 N N ({ Ref := z2.1, Time := z8.1, Bits := 0 } : VPoint) y1_0 y1_1 y1_2 z8.2)) (fun vz7 =>
            .leaf (.done (.pan vz7), some (.pan vz7))))) (fun vz1 =>
        .leaf (.done (.pan vz1), some (.pan vz1))))
    (
      .nl (([] : List Nat))
      (
        .nl (([] : List Nat))
        (
          .bnd (record_reader_number_i0 N y2) fun z9 =>
          .sm z9 (fun z10 =>
            .nl (([] : List Nat))
            (
              .bnd (record_reader_number_i0 N z10.2) fun z11 =>
              .sm z11 (fun z12 =>
                .nl (([] : List Nat))
                (
                  .leaf (.go (w41i0kR1 c) (w41i0sR1 ({ Ref := z10.1, Time := z12.1, Bits := 0 } : VPoint) y1_0 y1_1 y1_2 z12.2), record_reader_record_2_i0_R1 N N ({ Ref := z10.1, Time := z12.1, Bits := 0 } : VPoint) y1_0 y1_1 y1_2 z12.2))
                (
                  .leaf (.go (w41i0kR1 c) (w41i0sR1 ({ Ref := z10.1, Time := z12.1, Bits := 0 } : VPoint) y1_0 y1_1 y1_2 z12.2), record_reader_record_2_i0_R1 N N ({ Ref := z10.1, Time := z12.1, Bits := 0 } : VPoint) y1_0 y1_1 y1_2 z12.2))) (fun vz11 =>
                .leaf (.done (.pan vz11), some (.pan vz11))))
            (
              .bnd (record_reader_number_i0 N z10.2) fun z13 =>
              .sm z13 (fun z14 =>
                .leaf (.go (w41i0kR1 c) (w41i0sR1 ({ Ref := z10.1, Time := z14.1, Bits := 0 } : VPoint) y1_0 y1_1 y1_2 z14.2), record_reader_record_2_i0_R1 N N ({ Ref := z10.1, Time := z14.1, Bits := 0 } : VPoint) y1_0 y1_1 y1_2 z14.2)) (fun vz13 =>
                .leaf (.done (.pan vz13), some (.pan vz13))))) (fun vz9 =>
            .leaf (.done (.pan vz9), some (.pan vz9))))
        (
          .bnd (record_reader_number_i0 N y2) fun z15 =>
          .sm z15 (fun z16 =>
            .bnd (record_reader_number_i0 N z16.2) fun z17 =>
            .sm z17 (fun z18 =>
              .leaf (.go (w41i0kR1 c) (w41i0sR1 ({ Ref := z16.1, Time := z18.1, Bits := 0 } : VPoint) y1_0 y1_1 y1_2 z18.2), record_reader_record_2_i0_R1 N N ({ Ref := z16.1, Time := z18.1, Bits := 0 } : VPoint) y1_0 y1_1 y1_2 z18.2)) (fun vz17 =>
              .leaf (.done (.pan vz17), some (.pan vz17)))) (fun vz15 =>
            .leaf (.done (.pan vz15), some (.pan vz15)))))
      (
        .nl (([] : List Nat))
        (
          .bnd (record_reader_number_i0 N y2) fun z19 =>
          .sm z19 (fun z20 =>
            .bnd (record_reader_number_i0 N z20.2) fun z21 =>
            .sm z21 (fun z22 =>
              .leaf (.go (w41i0kR1 c) (w41i0sR1 ({ Ref := z20.1, Time := z22.1, Bits := 0 } : VPoint) y1_0 y1_1 y1_2 z22.2), record_reader_record_2_i0_R1 N N ({ Ref := z20.1, Time := z22.1, Bits := 0 } : VPoint) y1_0 y1_1 y1_2 z22.2)) (fun vz21 =>
              .leaf (.done (.pan vz21), some (.pan vz21)))) (fun vz19 =>
            .leaf (.done (.pan vz19), some (.pan vz19))))
        (
          .bnd (record_reader_number_i0 N y2) fun z23 =>
          .sm z23 (fun z24 =>
            .bnd (record_reader_number_i0 N z24.2) fun z25 =>
            .sm z25 (fun z26 =>
              .leaf (.go (w41i0kR1 c) (w41i0sR1 ({ Ref := z24.1, Time := z26.1, Bits := 0 } : VPoint) y1_0 y1_1 y1_2 z26.2), record_reader_record_2_i0_R1 N N ({ Ref := z24.1, Time := z26.1, Bits := 0 } : VPoint) y1_0 y1_1 y1_2 z26.2)) (fun vz25 =>
              .leaf (.done (.pan vz25), some (.pan vz25)))) (fun vz23 =>
            .leaf (.done (.pan vz23), some (.pan vz23)))))))
  (
    .nl (([] : List Nat))
    (
      .nl (([] : List Nat))
      (
        .nl (([] : List Nat))
        (
          .bnd (record_reader_number_i0 N y2) fun z27 =>
          .sm z27 (fun z28 =>
            .nl (([] : List Nat))
            (
              .bnd (record_reader_number_i0 N z28.2) fun z29 =>
              .sm z29 (fun z30 =>
                .nl (([] : List Nat))
                (
                  .leaf (.go (w41i0kR1 c) (w41i0sR1 ({ Ref := z28.1, Time := z30.1, Bits := 0 } : VPoint) y1_0 y1_1 y1_2 z30.2), record_reader_record_2_i0_R1 N N ({ Ref := z28.1, Time := z30.1, Bits := 0 } : VPoint) y1_0 y1_1 y1_2 z30.2))
                (
                  .leaf (.go (w41i0kR1 c) (w41i0sR1 ({ Ref := z28.1, Time := z30.1, Bits := 0 } : VPoint) y1_0 y1_1 y1_2 z30.2), record_reader_record_2_i0_R1 N N ({ Ref := z28.1, Time := z30.1, Bits := 0 } : VPoint) y1_0 y1_1 y1_2 z30.2))) (fun vz29 =>
                .leaf (.done (.pan vz29), some (.pan vz29))))
            (
              .bnd (record_reader_number_i0 N z28.2) fun z31 =>
              .sm z31 (fun z32 =>
                .leaf (.go (w41i0kR1 c) (w41i0sR1 ({ Ref := z28.1, Time := z32.1, Bits := 0 } : VPoint) y1_0 y1_1 y1_2 z32.2), record_reader_record_2_i0_R1 N N ({ Ref := z28.1, Time := z32.1, Bits := 0 } : VPoint) y1_0 y1_1 y1_2 z32.2)) (fun vz31 =>
                .leaf (.done (.pan vz31), some (.pan vz31))))) (fun vz27 =>
            .leaf (.done (.pan vz27), some (.pan vz27))))
        (
          .bnd (record_reader_number_i0 N y2) fun z33 =>
          .sm z33 (fun z34 =>
            .bnd (record_reader_number_i0 N z34.2) fun z35 =>
            .sm z35 (fun z36 =>
              .leaf (.go (w41i0kR1 c) (w41i0sR1 ({ Ref := z34.1, Time := z36.1, Bits := 0 } : VPoint) y1_0 y1_1 y1_2 z36.2), record_reader_record_2_i0_R1 N N ({ Ref := z34.1, Time := z36.1, Bits := 0 } : VPoint) y1_0 y1_1 y1_2 z36.2)) (fun vz35 =>
              .leaf (.done (.pan vz35), some (.pan vz35)))) (fun vz33 =>
            .leaf (.done (.pan vz33), some (.pan vz33)))))
      (
        .bnd (record_reader_number_i0 N y2) fun z37 =>
        .sm z37 (fun z38 =>
          .bnd (record_reader_number_i0 N z38.2) fun z39 =>
          .sm z39 (fun z40 =>
            .leaf (.go (w41i0kR1 c) (w41i0sR1 ({ Ref := z38.1, Time := z40.1, Bits := 0 } : VPoint) y1_0 y1_1 y1_2 z40.2), record_reader_record_2_i0_R1 N N ({ Ref := z38.1, Time := z40.1, Bits := 0 } : VPoint) y1_0 y1_1 y1_2 z40.2)) (fun vz39 =>
            .leaf (.done (.pan vz39), some (.pan vz39)))) (fun vz37 =>
          .leaf (.done (.pan vz37), some (.pan vz37)))))
    (
      .nl (([] : List Nat))
      (
        .nl (([] : List Nat))
        (
          .bnd (record_reader_number_i0 N y2) fun z41 =>
          .sm z41 (fun z42 =>
            .bnd (record_reader_number_i0 N z42.2) fun z43 =>
            .sm z43 (fun z44 =>
              .leaf (.go (w41i0kR1 c) (w41i0sR1 ({ Ref := z42.1, Time := z44.1, Bits := 0 } : VPoint) y1_0 y1_1 y1_2 z44.2), record_reader_record_2_i0_R1 N N ({ Ref := z42.1, Time := z44.1, Bits := 0 } : VPoint) y1_0 y1_1 y1_2 z44.2)) (fun vz43 =>
              .leaf (.done (.pan vz43), some (.pan vz43)))) (fun vz41 =>
            .leaf (.done (.pan vz41), some (.pan vz41))))
        (
          .bnd (record_reader_number_i0 N y2) fun z45 =>
          .sm z45 (fun z46 =>
            .bnd (record_reader_number_i0 N z46.2) fun z47 =>
            .sm z47 (fun z48 =>
              .leaf (.go (w41i0kR1 c) (w41i0sR1 ({ Ref := z46.1, Time := z48.1, Bits := 0 } : VPoint) y1_0 y1_1 y1_2 z48.2), record_reader_record_2_i0_R1 N N ({ Ref := z46.1, Time := z48.1, Bits := 0 } : VPoint) y1_0 y1_1 y1_2 z48.2)) (fun vz47 =>
              .leaf (.done (.pan vz47), some (.pan vz47)))) (fun vz45 =>
            .leaf (.done (.pan vz45), some (.pan vz45)))))
      (
        .bnd (record_reader_number_i0 N y2) fun z49 =>
        .sm z49 (fun z50 =>
          .bnd (record_reader_number_i0 N z50.2) fun z51 =>
          .sm z51 (fun z52 =>
            .leaf (.go (w41i0kR1 c) (w41i0sR1 ({ Ref := z50.1, Time := z52.1, Bits := 0 } : VPoint) y1_0 y1_1 y1_2 z52.2), record_reader_record_2_i0_R1 N N ({ Ref := z50.1, Time := z52.1, Bits := 0 } : VPoint) y1_0 y1_1 y1_2 z52.2)) (fun vz51 =>
            .leaf (.done (.pan vz51), some (.pan vz51)))) (fun vz49 =>
          .leaf (.done (.pan vz49), some (.pan vz49))))))
theorem w41i0vE0 (N : Nat) (y1_0 : Int) (y1_1 : List VRef) (y1_2 : List VPoint) (y2 : Vreader) : evM TT EE (w41i0G N) w41i0lv w41i0rs 4000 true (w41i0kE0 (bodyOf 0 Try.f41)) (w41i0sE0 y1_0 y1_1 y1_2 y2) = (w41i0TE0 (bodyOf 0 Try.f41) N y1_0 y1_1 y1_2 y2).map1 := by kernel_rfl
theorem w41i0nE0 (N : Nat) (y1_0 : Int) (y1_1 : List VRef) (y1_2 : List VPoint) (y2 : Vreader) : record_reader_record_2_i0 N y1_0 y1_1 y1_2 y2 = (w41i0TE0 (bodyOf 0 Try.f41) N y1_0 y1_1 y1_2 y2).run := by kernel_rfl
theorem w41i0oE0 {N : Nat} {r : PR (Int × (List VRef) × (List VPoint) × Vreader)} (y1_0 : Int) (y1_1 : List VRef) (y1_2 : List VPoint) (y2 : Vreader) (h : record_reader_record_2_i0 N y1_0 y1_1 y1_2 y2 = some r) : Ends (Y := TT) EE (w41i0G N) w41i0lv w41i0rs (fun u => u = w41i0enc r) (w41i0kE0 (bodyOf 0 Try.f41)) (w41i0sE0 y1_0 y1_1 y1_2 y2) :=
  tree_use (w41i0vE0 N y1_0 y1_1 y1_2 y2) (w41i0nE0 N y1_0 y1_1 y1_2 y2) h (show (w41i0TE0 (bodyOf 0 Try.f41) N y1_0 y1_1 y1_2 y2).all _ from ⟨fun _ => by kernel_rfl, ⟨fun _ => by kernel_rfl, fun _ => ⟨fun _ => ⟨fun _ => by kernel_rfl, ⟨fun _ => by kernel_rfl, fun _ => ⟨fun _ => ⟨fun _ => by kernel_rfl, fun h => w41i0oR1 N _ _ _ _ _ h, fun h => w41i0oR1 N _ _ _ _ _ h⟩, fun _ => retp (enc := w41i0enc) rfl⟩, fun _ => ⟨fun _ => fun h => w41i0oR1 N _ _ _ _ _ h, fun _ => retp (enc := w41i0enc) rfl⟩⟩, fun _ => ⟨fun _ => fun h => w41i0oR1 N _ _ _ _ _ h, fun _ => retp (enc := w41i0enc) rfl⟩⟩, fun _ => retp (enc := w41i0enc) rfl⟩, ⟨fun _ => by kernel_rfl, ⟨fun _ => by kernel_rfl, fun _ => ⟨fun _ => ⟨fun _ => by kernel_rfl, fun _ => ⟨fun _ => ⟨fun _ => by kernel_rfl, fun h => w41i0oR1 N _ _ _ _ _ h, fun h => w41i0oR1 N _ _ _ _ _ h⟩, fun _ => retp (enc := w41i0enc) rfl⟩, fun _ => ⟨fun _ => fun h => w41i0oR1 N _ _ _ _ _ h, fun _ => retp (enc := w41i0enc) rfl⟩⟩, fun _ => retp (enc := w41i0enc) rfl⟩, fun _ => ⟨fun _ => fun _ => ⟨fun _ => fun h => w41i0oR1 N _ _ _ _ _ h, fun _ => retp (enc := w41i0enc) rfl⟩, fun _ => retp (enc := w41i0enc) rfl⟩⟩, ⟨fun _ => by kernel_rfl, fun _ => ⟨fun _ => fun _ => ⟨fun _ => fun h => w41i0oR1 N _ _ _ _ _ h, fun _ => retp (enc := w41i0enc) rfl⟩, fun _ => retp (enc := w41i0enc) rfl⟩, fun _ => ⟨fun _ => fun _ => ⟨fun _ => fun h => w41i0oR1 N _ _ _ _ _ h, fun _ => retp (enc := w41i0enc) rfl⟩, fun _ => retp (enc := w41i0enc) rfl⟩⟩⟩⟩, ⟨fun _ => by kernel_rfl, ⟨fun _ => by kernel_rfl, ⟨fun _ => by kernel_rfl, fun _ => ⟨fun _ => ⟨fun _ => by kernel_rfl, fun _ => ⟨fun _ => ⟨fun _ => by kernel_rfl, fun h => w41i0oR1 N _ _ _ _ _ h, fun h => w41i0oR1 N _ _ _ _ _ h⟩, fun _ => retp (enc := w41i0enc) rfl⟩, fun _ => ⟨fun _ => fun h => w41i0oR1 N _ _ _ _ _ h, fun _ => retp (enc := w41i0enc) rfl⟩⟩, fun _ => retp (enc := w41i0enc) rfl⟩, fun _ => ⟨fun _ => fun _ => ⟨fun _ => fun h => w41i0oR1 N _ _ _ _ _ h, fun _ => retp (enc := w41i0enc) rfl⟩, fun _ => retp (enc := w41i0enc) rfl⟩⟩, fun _ => ⟨fun _ => fun _ => ⟨fun _ => fun h => w41i0oR1 N _ _ _ _ _ h, fun _ => retp (enc := w41i0enc) rfl⟩, fun _ => retp (enc := w41i0enc) rfl⟩⟩, ⟨fun _ => by kernel_rfl, ⟨fun _ => by kernel_rfl, fun _ => ⟨fun _ => fun _ => ⟨fun _ => fun h => w41i0oR1 N _ _ _ _ _ h, fun _ => retp (enc := w41i0enc) rfl⟩, fun _ => retp (enc := w41i0enc) rfl⟩, fun _ => ⟨fun _ => fun _ => ⟨fun _ => fun h => w41i0oR1 N _ _ _ _ _ h, fun _ => retp (enc := w41i0enc) rfl⟩, fun _ => retp (enc := w41i0enc) rfl⟩⟩, fun _ => ⟨fun _ => fun _ => ⟨fun _ => fun h => w41i0oR1 N _ _ _ _ _ h, fun _ => retp (enc := w41i0enc) rfl⟩, fun _ => retp (enc := w41i0enc) rfl⟩⟩⟩⟩)
def w41i0us (y1_0 : Int) (y1_1 : List VRef) (y1_2 : List VPoint) (y2 : Vreader) : List (TV EE.T) := [.a (.box 100000 0), .a (.box 100001 0)]
def w41i0h0 (y1_0 : Int) (y1_1 : List VRef) (y1_2 : List VPoint) (y2 : Vreader) : List (Nat × TB EE.T) := [(100000, .cs [.box 100002 0]), (100001, .cs [.d (.int .i64) y1_0, .own (.nam 3) y1_1, .own (.nam 4) y1_2]), (100002, .cs (unpT EE (.nam 6) y2))]
theorem record_reader_record_2_i0_ok {N : Nat} (y1_0 : Int) (y1_1 : List VRef) (y1_2 : List VPoint) (y2 : Vreader) {r : PR (Int × (List VRef) × (List VPoint) × Vreader)} (h : record_reader_record_2_i0 N y1_0 y1_1 y1_2 y2 = some r) (ρ : Nat → Nat) (hi : Inj ρ (w41i0h0 y1_0 y1_1 y1_2 y2)) : ACalls Try.prog 41 ((w41i0us y1_0 y1_1 y1_2 y2).map (TV.to EE.toEnc ρ)) (hTo EE.toEnc ρ (w41i0h0 y1_0 y1_1 y1_2 y2)) (fun out H => match r with | .ok z => out = .ret ((record_reader_record_2_i0_u z).to EE.toEnc ρ) ∧ H = hTo EE.toEnc ρ (w41i0hh 100000 100001 100002 z) | .pan v => out = .pan v) :=
  (fn_okH (bodyOf 0 Try.f41) 49 mixed (w41i0Gok N) Try.func41 (by kernel_rfl) rfl rfl rfl rfl (w41i0oE0 y1_0 y1_1 y1_2 y2 h) ρ hi).mono fun out H h => by cases r with | ok z => exact KPost.retH rfl rfl h | pan v => exact KPost.pan h
def record_reader_record_2_i0_h (N : Nat) (us : List (TV EE.T)) (hs : List (Nat × TB EE.T)) : XR EE.T :=
  gdX (lenX us 2) <|
  bnX (aB us 0) fun i0 =>
  bnX (aB us 1) fun i1 =>
  bnX (bC hs i0) fun l0 =>
  gdX (lenX l0 1) <|
  bnX (cB l0 0) fun i2 =>
  bnX (bC hs i1) fun l1 =>
  gdX (lenX l1 3) <|
  bnX (cD (.int .i64) l1 0) fun y1_0 =>
  bnX (cO (.nam 3) l1 1) fun y1_1 =>
  bnX (cO (.nam 4) l1 2) fun y1_2 =>
  bnX (bS EE 6 hs i2) fun y2 =>
  gdX (goodIds hs [i0, i1, i2]) <|
  .may (record_reader_record_2_i0 N y1_0 y1_1 y1_2 y2) [i0, i1, i2] record_reader_record_2_i0_u (w41i0hh i0 i1 i2)
theorem record_reader_record_2_i0_hok (N : Nat) : XOk Try.prog EE 41 (record_reader_record_2_i0_h N) := fun us hs =>
  gdX_ok fun h1 => bnX_ok fun i0 h2 => bnX_ok fun i1 h3 => bnX_ok fun l0 h4 => gdX_ok fun h5 => bnX_ok fun i2 h6 => bnX_ok fun l1 h7 => gdX_ok fun h8 => bnX_ok fun y1_0 h9 => bnX_ok fun y1_1 h10 => bnX_ok fun y1_2 h11 => bnX_ok fun y2 h12 => gdX_ok fun h13 => fun p hz => ⟨fun z e => rfl, fun ρ hi => xcall (us' := w41i0us y1_0 y1_1 y1_2 y2) (h0 := w41i0h0 y1_0 y1_1 y1_2 y2) (ρ' := rhoS ρ [i0, i1, i2]) ⟨aB_le h2 (by kernel_rfl), aB_le h3 (by kernel_rfl), lenX_ok h1⟩ ⟨(by kernel_rfl), bC_le h4 ⟨cB_le h6 (by kernel_rfl), lenX_ok h5⟩, (by kernel_rfl), bC_le h7 ⟨cD_le h9, cO_le h10, cO_le h11, lenX_ok h8⟩, (by kernel_rfl), bS_le h12, trivial⟩ (record_reader_record_2_i0_ok y1_0 y1_1 y1_2 y2 hz _ (rhoS_inj hi h13 _ (by kernel_rfl))) (fun out H h => by cases p with | ok z => exact ⟨h.1.trans (by kernel_rfl), h.2.trans (by kernel_rfl)⟩ | pan v => exact h)⟩
/-! ### (*gleaner/record.reader).many -/
def record_reader_many_i2_u (r : Vreader × Int × (List VRef) × (List VPoint)) : TV EE.T := .tu []
def w36i2hh (i0 : Nat) (i1 : Nat) (i2 : Nat) (r : Vreader × Int × (List VRef) × (List VPoint)) : List (Nat × TB EE.T) := [(i0, .cs (unpT EE (.nam 6) r.1)), (i1, .cs [.box i0 0]), (i2, .cs [.d (.int .i64) r.2.1, .own (.nam 3) r.2.2.1, .own (.nam 4) r.2.2.2])]
def w36i2enc (r : PR (Vreader × Int × (List VRef) × (List VPoint))) : RL EE.T := match r with
  | .ok z => .ret (record_reader_many_i2_u z) (w36i2hh 100000 100001 100002 z)
  | .pan v => .pan v
def w36i2lv : Lvs := ⟨[], [(4, ⟨[(1, false), (16, false), (17, false)], [], [(100000, (some 6, [])), (100001, (none, [])), (100002, (none, []))]⟩)], [], [], false, [(100000, (some 6, [])), (100001, (none, [])), (100002, (none, []))], [100000, 100001, 100002]⟩
def w36i2rs : List ResultVar := []
def w36i2G (N : Nat) : Gam EE := ⟨[], EQT, [⟨41, record_reader_record_2_i0_h N⟩, ⟨38, record_reader_number_i0_h N⟩], []⟩
theorem w36i2Gok (N : Nat) : GOk Try.prog TT EE (w36i2G N) := GOk.consx (record_reader_record_2_i0_hok N) (GOk.consx (record_reader_number_i0_hok N) (GOk.nil EQT_ok))
def w36i2kL4 (c : Code) : List It2 := atL 4 c
def w36i2sL4 (x16 : Int) (x17 : Int) (b100000 : Vreader) (b100002_0 : Int) (b100002_1 : List VRef) (b100002_2 : List VPoint) : TS EE.T := ⟨22, [(1, .fn 41 [.box 100001 0, .box 100002 0]), (16, .a (.d (.int .i64) x16)), (17, .a (.d (.int .i64) x17))], [(100000, .cs (unpT EE (.nam 6) b100000)), (100001, .cs [.box 100000 0]), (100002, .cs [.d (.int .i64) b100002_0, .own (.nam 3) b100002_1, .own (.nam 4) b100002_2])], []⟩
def w36i2kE0 (c : Code) : List It2 := [.c c]
def w36i2sE0 (y0 : Vreader) (y2_0 : Int) (y2_1 : List VRef) (y2_2 : List VPoint) : TS EE.T := ⟨22, [(0, .a (.box 100000 0)), (1, .fn 41 [.box 100001 0, .box 100002 0])], [(100000, .cs (unpT EE (.nam 6) y0)), (100001, .cs [.box 100000 0]), (100002, .cs [.d (.int .i64) y2_0, .own (.nam 3) y2_1, .own (.nam 4) y2_2])], []⟩
def w36i2TL4 (c : Code) (N : Nat) (n : Nat) (x16 : Int) (x17 : Int) (b100000 : Vreader) (b100002_0 : Int) (b100002_1 : List VRef) (b100002_2 : List VPoint) : Tree (Lf EE.T × Option (PR (Vreader × Int × (List VRef) × (List VPoint)))) :=
  .cond (decide (x17 < x16))
  (
    .bnd (record_reader_record_2_i0 N b100002_0 b100002_1 b100002_2 b100000) fun z3 =>
    .sm z3 (fun z4 =>
      .leaf (.go (w36i2kL4 c) (w36i2sL4 x16 (w64 (x17 + 1)) z4.2.2.2 z4.1 z4.2.1 z4.2.2.1), record_reader_many_i2_L4 N n x16 (w64 (x17 + 1)) z4.2.2.2 z4.1 z4.2.1 z4.2.2.1)) (fun vz3 =>
      .leaf (.done (.pan vz3), some (.pan vz3))))
  (
    .leaf (.done (w36i2enc (.ok (b100000, b100002_0, b100002_1, b100002_2))), some (.ok (b100000, b100002_0, b100002_1, b100002_2))))
theorem w36i2vL4 (N : Nat) (n : Nat) (x16 : Int) (x17 : Int) (b100000 : Vreader) (b100002_0 : Int) (b100002_1 : List VRef) (b100002_2 : List VPoint) : evM TT EE (w36i2G N) w36i2lv w36i2rs 4000 true (w36i2kL4 (bodyOf 0 Try.f36)) (w36i2sL4 x16 x17 b100000 b100002_0 b100002_1 b100002_2) = (w36i2TL4 (bodyOf 0 Try.f36) N n x16 x17 b100000 b100002_0 b100002_1 b100002_2).map1 := by kernel_rfl
theorem w36i2nL4 (N : Nat) (n : Nat) (x16 : Int) (x17 : Int) (b100000 : Vreader) (b100002_0 : Int) (b100002_1 : List VRef) (b100002_2 : List VPoint) : record_reader_many_i2_L4 N (n + 1) x16 x17 b100000 b100002_0 b100002_1 b100002_2 = (w36i2TL4 (bodyOf 0 Try.f36) N n x16 x17 b100000 b100002_0 b100002_1 b100002_2).run := by kernel_rfl
theorem w36i2oL4 {N : Nat} {r : PR (Vreader × Int × (List VRef) × (List VPoint))} : ∀ (n : Nat) (x16 : Int) (x17 : Int) (b100000 : Vreader) (b100002_0 : Int) (b100002_1 : List VRef) (b100002_2 : List VPoint), record_reader_many_i2_L4 N n x16 x17 b100000 b100002_0 b100002_1 b100002_2 = some r → Ends (Y := TT) EE (w36i2G N) w36i2lv w36i2rs (fun u => u = w36i2enc r) (w36i2kL4 (bodyOf 0 Try.f36)) (w36i2sL4 x16 x17 b100000 b100002_0 b100002_1 b100002_2)
  | 0, _, _, _, _, _, _, h => by cases h
  | n + 1, x16, x17, b100000, b100002_0, b100002_1, b100002_2, h => tree_use (w36i2vL4 N n x16 x17 b100000 b100002_0 b100002_1 b100002_2) (w36i2nL4 N n x16 x17 b100000 b100002_0 b100002_1 b100002_2) h (show (w36i2TL4 (bodyOf 0 Try.f36) N n x16 x17 b100000 b100002_0 b100002_1 b100002_2).all _ from ⟨fun _ => ⟨fun _ => fun h => (w36i2oL4 n) _ _ _ _ _ _ h, fun _ => retp (enc := w36i2enc) rfl⟩, retp (enc := w36i2enc) rfl⟩)
def w36i2TE0 (c : Code) (N : Nat) (y0 : Vreader) (y2_0 : Int) (y2_1 : List VRef) (y2_2 : List VPoint) : Tree (Lf EE.T × Option (PR (Vreader × Int × (List VRef) × (List VPoint)))) :=
  .bnd (record_reader_number_i0 N y0) fun z1 =>
  .sm z1 (fun z2 =>
    .cond (decide (z2.1 > (z2.2.s.length : Int)))
    (
      .leaf (.done (.pan (Value.iface 54 (.agg #[]))), some (.pan (Value.iface 54 (.agg #[])))))
    (
      .leaf (.go (w36i2kL4 c) (w36i2sL4 z2.1 0 z2.2 y2_0 y2_1 y2_2), record_reader_many_i2_L4 N N z2.1 0 z2.2 y2_0 y2_1 y2_2))) (fun vz1 =>
    .leaf (.done (.pan vz1), some (.pan vz1)))
theorem w36i2vE0 (N : Nat) (y0 : Vreader) (y2_0 : Int) (y2_1 : List VRef) (y2_2 : List VPoint) : evM TT EE (w36i2G N) w36i2lv w36i2rs 4000 true (w36i2kE0 (bodyOf 0 Try.f36)) (w36i2sE0 y0 y2_0 y2_1 y2_2) = (w36i2TE0 (bodyOf 0 Try.f36) N y0 y2_0 y2_1 y2_2).map1 := by kernel_rfl
theorem w36i2nE0 (N : Nat) (y0 : Vreader) (y2_0 : Int) (y2_1 : List VRef) (y2_2 : List VPoint) : record_reader_many_i2 N y0 y2_0 y2_1 y2_2 = (w36i2TE0 (bodyOf 0 Try.f36) N y0 y2_0 y2_1 y2_2).run := by kernel_rfl
theorem w36i2oE0 {N : Nat} {r : PR (Vreader × Int × (List VRef) × (List VPoint))} (y0 : Vreader) (y2_0 : Int) (y2_1 : List VRef) (y2_2 : List VPoint) (h : record_reader_many_i2 N y0 y2_0 y2_1 y2_2 = some r) : Ends (Y := TT) EE (w36i2G N) w36i2lv w36i2rs (fun u => u = w36i2enc r) (w36i2kE0 (bodyOf 0 Try.f36)) (w36i2sE0 y0 y2_0 y2_1 y2_2) :=
  tree_use (w36i2vE0 N y0 y2_0 y2_1 y2_2) (w36i2nE0 N y0 y2_0 y2_1 y2_2) h (show (w36i2TE0 (bodyOf 0 Try.f36) N y0 y2_0 y2_1 y2_2).all _ from fun _ => ⟨fun _ => ⟨retp (enc := w36i2enc) rfl, fun h => w36i2oL4 N _ _ _ _ _ _ h⟩, fun _ => retp (enc := w36i2enc) rfl⟩)
def w36i2us (y0 : Vreader) (y2_0 : Int) (y2_1 : List VRef) (y2_2 : List VPoint) : List (TV EE.T) := [.a (.box 100000 0), .fn 41 [.box 100001 0, .box 100002 0]]
def w36i2h0 (y0 : Vreader) (y2_0 : Int) (y2_1 : List VRef) (y2_2 : List VPoint) : List (Nat × TB EE.T) := [(100000, .cs (unpT EE (.nam 6) y0)), (100001, .cs [.box 100000 0]), (100002, .cs [.d (.int .i64) y2_0, .own (.nam 3) y2_1, .own (.nam 4) y2_2])]
theorem record_reader_many_i2_ok {N : Nat} (y0 : Vreader) (y2_0 : Int) (y2_1 : List VRef) (y2_2 : List VPoint) {r : PR (Vreader × Int × (List VRef) × (List VPoint))} (h : record_reader_many_i2 N y0 y2_0 y2_1 y2_2 = some r) (ρ : Nat → Nat) (hi : Inj ρ (w36i2h0 y0 y2_0 y2_1 y2_2)) : ACalls Try.prog 36 ((w36i2us y0 y2_0 y2_1 y2_2).map (TV.to EE.toEnc ρ)) (hTo EE.toEnc ρ (w36i2h0 y0 y2_0 y2_1 y2_2)) (fun out H => match r with | .ok z => out = .ret ((record_reader_many_i2_u z).to EE.toEnc ρ) ∧ H = hTo EE.toEnc ρ (w36i2hh 100000 100001 100002 z) | .pan v => out = .pan v) :=
  (fn_okH (bodyOf 0 Try.f36) 22 mixed (w36i2Gok N) Try.func36 (by kernel_rfl) rfl rfl rfl rfl (w36i2oE0 y0 y2_0 y2_1 y2_2 h) ρ hi).mono fun out H h => by cases r with | ok z => exact KPost.retH rfl rfl h | pan v => exact KPost.pan h
def record_reader_many_i2_h (N : Nat) (us : List (TV EE.T)) (hs : List (Nat × TB EE.T)) : XR EE.T :=
  gdX (lenX us 2) <|
  bnX (aB us 0) fun i0 =>
  bnX (aF 41 us 1) fun c1 =>
  bnX (cbs c1) fun s1 =>
  gdX (lenX s1 2) <|
  bnX (s1[0]?) fun i1 =>
  bnX (s1[1]?) fun i2 =>
  bnX (bS EE 6 hs i0) fun y0 =>
  bnX (bC hs i1) fun l1 =>
  gdX (lenX l1 1) <|
  bnX (cB l1 0) fun jh11 =>
  gdX (Nat.beq jh11 i0) <|
  bnX (bC hs i2) fun l2 =>
  gdX (lenX l2 3) <|
  bnX (cD (.int .i64) l2 0) fun y2_0 =>
  bnX (cO (.nam 3) l2 1) fun y2_1 =>
  bnX (cO (.nam 4) l2 2) fun y2_2 =>
  gdX (goodIds hs [i0, i1, i2]) <|
  .may (record_reader_many_i2 N y0 y2_0 y2_1 y2_2) [i0, i1, i2] record_reader_many_i2_u (w36i2hh i0 i1 i2)
theorem record_reader_many_i2_hok (N : Nat) : XOk Try.prog EE 36 (record_reader_many_i2_h N) := fun us hs =>
  gdX_ok fun h1 => bnX_ok fun i0 h2 => bnX_ok fun c1 h3 => bnX_ok fun s1 h4 => gdX_ok fun h5 => bnX_ok fun i1 h6 => bnX_ok fun i2 h7 => bnX_ok fun y0 h8 => bnX_ok fun l1 h9 => gdX_ok fun h10 => bnX_ok fun jh11 h11 => gdX_ok fun h12 => bnX_ok fun l2 h13 => gdX_ok fun h14 => bnX_ok fun y2_0 h15 => bnX_ok fun y2_1 h16 => bnX_ok fun y2_2 h17 => gdX_ok fun h18 => fun p hz => ⟨fun z e => rfl, fun ρ hi => xcall (us' := w36i2us y0 y2_0 y2_1 y2_2) (h0 := w36i2h0 y0 y2_0 y2_1 y2_2) (ρ' := rhoS ρ [i0, i1, i2]) ⟨aB_le h2 (by kernel_rfl), aF_le (js := [100001, 100002]) h3 h4 (by rw [lis2 (lenX_ok h5) h6 h7];  kernel_rfl), lenX_ok h1⟩ ⟨(by kernel_rfl), bS_le h8, (by kernel_rfl), bC_le h9 ⟨cB_le h11 (by rw [Nat.eq_of_beq_eq_true h12]; kernel_rfl), lenX_ok h10⟩, (by kernel_rfl), bC_le h13 ⟨cD_le h15, cO_le h16, cO_le h17, lenX_ok h14⟩, trivial⟩ (record_reader_many_i2_ok y0 y2_0 y2_1 y2_2 hz _ (rhoS_inj hi h18 _ (by kernel_rfl))) (fun out H h => by cases p with | ok z => exact ⟨h.1.trans (by kernel_rfl), h.2.trans (by kernel_rfl)⟩ | pan v => exact h)⟩
/-! ### (*gleaner/record.reader).record -/
def record_reader_record_i0_u (r : VRecord × Vreader) : TV EE.T := .ag (unpT EE (.nam 5) r.1)
def w25i0hh (i0 : Nat) (r : VRecord × Vreader) : List (Nat × TB EE.T) := [(i0, .cs (unpT EE (.nam 6) r.2))]
def w25i0enc (r : PR (VRecord × Vreader)) : RL EE.T := match r with
  | .ok z => .ret (record_reader_record_i0_u z) (w25i0hh 100000 z)
  | .pan v => .pan v
def w25i0lv : Lvs := ⟨[], [], [], [], false, [(2, (some 5, [])), (100000, (some 6, []))], [100000]⟩
def w25i0rs : List ResultVar := [.cell 2 25]
def w25i0G (N : Nat) : Gam EE := ⟨[], EQT, [⟨36, record_reader_many_i1_h N⟩, ⟨36, record_reader_many_i2_h N⟩, ⟨35, record_reader_take_i0_h N⟩], []⟩
theorem w25i0Gok (N : Nat) : GOk Try.prog TT EE (w25i0G N) := GOk.consx (record_reader_many_i1_hok N) (GOk.consx (record_reader_many_i2_hok N) (GOk.consx (record_reader_take_i0_hok N) (GOk.nil EQT_ok)))
def w25i0kE0 (c : Code) : List It2 := [.c c]
def w25i0sE0 (y0 : Vreader) : TS EE.T := ⟨22, [(0, .a (.box 100000 0))], [(100000, .cs (unpT EE (.nam 6) y0))], []⟩
def w25i0TE0 (c : Code) (N : Nat) (y0 : Vreader) : Tree (Lf EE.T × Option (PR (VRecord × Vreader))) :=
  .bnd (record_reader_take_i0 N 1 y0) fun z1 =>
  .sm z1 (fun z2 =>
    .bnd (idxC z2.1 0) fun z3 =>
    .cond ((w64 (b2i z3)) == 1)
    (
      .bnd (record_reader_many_i1 N z2.2 (w64 (b2i z3)) ([] : List VRef) ([] : List VPoint)) fun z4 =>
      .sm z4 (fun z5 =>
        .leaf (.done (w25i0enc (.ok (({ Kind := z5.2.1, Refs := z5.2.2.1, Points := z5.2.2.2 } : VRecord), z5.1))), some (.ok (({ Kind := z5.2.1, Refs := z5.2.2.1, Points := z5.2.2.2 } : VRecord), z5.1)))) (fun vz4 =>
        .leaf (.done (.pan vz4), some (.pan vz4))))
    (
      .cond ((w64 (b2i z3)) == 2)
      (
        .bnd (record_reader_many_i2 N z2.2 (w64 (b2i z3)) ([] : List VRef) ([] : List VPoint)) fun z6 =>
        .sm z6 (fun z7 =>
          .leaf (.done (w25i0enc (.ok (({ Kind := z7.2.1, Refs := z7.2.2.1, Points := z7.2.2.2 } : VRecord), z7.1))), some (.ok (({ Kind := z7.2.1, Refs := z7.2.2.1, Points := z7.2.2.2 } : VRecord), z7.1)))) (fun vz6 =>
          .leaf (.done (.pan vz6), some (.pan vz6))))
      (
        .leaf (.done (w25i0enc (.ok (({ Kind := w64 (b2i z3), Refs := ([] : List VRef), Points := ([] : List VPoint) } : VRecord), z2.2))), some (.ok (({ Kind := w64 (b2i z3), Refs := ([] : List VRef), Points := ([] : List VPoint) } : VRecord), z2.2)))))) (fun vz1 =>
    .leaf (.done (.pan vz1), some (.pan vz1)))
theorem w25i0vE0 (N : Nat) (y0 : Vreader) : evM TT EE (w25i0G N) w25i0lv w25i0rs 4000 true (w25i0kE0 (bodyOf 0 Try.f25)) (w25i0sE0 y0) = (w25i0TE0 (bodyOf 0 Try.f25) N y0).map1 := by kernel_rfl
theorem w25i0nE0 (N : Nat) (y0 : Vreader) : record_reader_record_i0 N y0 = (w25i0TE0 (bodyOf 0 Try.f25) N y0).run := by kernel_rfl
theorem w25i0oE0 {N : Nat} {r : PR (VRecord × Vreader)} (y0 : Vreader) (h : record_reader_record_i0 N y0 = some r) : Ends (Y := TT) EE (w25i0G N) w25i0lv w25i0rs (fun u => u = w25i0enc r) (w25i0kE0 (bodyOf 0 Try.f25)) (w25i0sE0 y0) :=
  tree_use (w25i0vE0 N y0) (w25i0nE0 N y0) h (show (w25i0TE0 (bodyOf 0 Try.f25) N y0).all _ from fun _ => ⟨fun _ => fun _ => ⟨fun _ => ⟨fun _ => retp (enc := w25i0enc) rfl, fun _ => retp (enc := w25i0enc) rfl⟩, ⟨fun _ => ⟨fun _ => retp (enc := w25i0enc) rfl, fun _ => retp (enc := w25i0enc) rfl⟩, retp (enc := w25i0enc) rfl⟩⟩, fun _ => retp (enc := w25i0enc) rfl⟩)
def w25i0us (y0 : Vreader) : List (TV EE.T) := [.a (.box 100000 0)]
def w25i0h0 (y0 : Vreader) : List (Nat × TB EE.T) := [(100000, .cs (unpT EE (.nam 6) y0))]
theorem record_reader_record_i0_ok {N : Nat} (y0 : Vreader) {r : PR (VRecord × Vreader)} (h : record_reader_record_i0 N y0 = some r) (ρ : Nat → Nat) (hi : Inj ρ (w25i0h0 y0)) : ACalls Try.prog 25 ((w25i0us y0).map (TV.to EE.toEnc ρ)) (hTo EE.toEnc ρ (w25i0h0 y0)) (fun out H => match r with | .ok z => out = .ret ((record_reader_record_i0_u z).to EE.toEnc ρ) ∧ H = hTo EE.toEnc ρ (w25i0hh 100000 z) | .pan v => out = .pan v) :=
  (fn_okH (bodyOf 0 Try.f25) 22 mixed (w25i0Gok N) Try.func25 (by kernel_rfl) rfl rfl rfl rfl (w25i0oE0 y0 h) ρ hi).mono fun out H h => by cases r with | ok z => exact KPost.retH rfl rfl h | pan v => exact KPost.pan h
/-! ### gleaner/gleanerref.IsRef -/
/-! ### gleaner/gleanerref.IsLetter -/
/-! ### gleaner/gleanerref.IsNumeral -/
/-! ### gleaner/gleanerref.IsName -/
/-! ### gleaner/gleanerref.EachLabel -/
/-! ### gleaner/gleanerref.CheckLabels -/
/-! ### gleaner/gleanerref.CheckRef -/
/-! ### gleaner/gleanerref.IsTime -/
/-! ### gleaner/gleanerref.CheckRecord -/
/-! ### gleaner/gleanerref.small -/
/-! ### gleaner/gleanerref.Word -/
/-! ### gleaner/gleanerref.PackOf -/
/-! ### (*gleaner/gleanerref.Cursor).bytes -/
/-! ### (*gleaner/gleanerref.Cursor).number -/
end Go.Proofs.Ytgmbgbalcndohaa
