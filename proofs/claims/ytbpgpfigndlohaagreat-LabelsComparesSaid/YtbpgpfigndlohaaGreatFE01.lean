/- The walks that prove plain functions right, written by gen/tgl.py. -/
import Derived.Test.YtbpgpfigndlohaaGreatFE01p
import Derived.Test.YtbpgpfigndlohaaGreatIN2
namespace Go.Proofs.YtbpgpfigndlohaaGreat
open Go.RowKit P
set_option linter.unusedVariables false
set_option linter.unusedSimpArgs false
set_option maxRecDepth 100000
/-! ### gleaner/labels.each -/
def labels_each_u (r : Int) : TV EE.T := .a (.d (.int .i64) r)
def w24enc (r : Int) : RL EE.T := .ret (labels_each_u r) []
def w24lv : Lvs := ⟨[(9, ⟨[(0, false), (1, false), (6, false), (13, false), (14, false), (15, false)], [], [(6, (some 2, []))]⟩)], [(4, ⟨[(0, false), (1, false), (13, false), (14, false), (15, false)], [], []⟩), (14, ⟨[(7, false), (38, false), (39, false), (40, false)], [], [(37, (none, []))]⟩)], [9], [], false, [], []⟩
def w24rs : List ResultVar := [.tmp 4]
def w24G (N : Nat) : Gam EE := ⟨[⟨37, labels_IsName_h N⟩], EQT, [], []⟩
theorem w24Gok (N : Nat) : GOk Tryz.prog TT EE (w24G N) := GOk.cons (labels_IsName_hok N) (GOk.nil EQT_ok)
def w24kR9 (c : Code) : List It2 := atR 9 c
def w24sR9 (x0 : List VLabel) (x1 : Bool) (x13 : List VLabel) (x14 : Int) (x15 : Int) (b6 : VLabel) : TS EE.T := ⟨52, [(0, .a (.d (.sl (.nam 2)) x0)), (1, .a (.d .bool x1)), (6, .a (.box 6 0)), (13, .a (.d (.sl (.nam 2)) x13)), (14, .a (.d (.int .i64) x14)), (15, .a (.d (.int .i64) x15))], [(6, .cs (unpT EE (.nam 2) b6))], []⟩
def w24kL14 (c : Code) : List It2 := atL 14 c
def w24sL14 (x38 : List VLabel) (x39 : Int) (x40 : Int) (b37 : List (List UInt8 × Bool)) : TS EE.T := ⟨52, [(7, .a (.mpr 37)), (38, .a (.d (.sl (.nam 2)) x38)), (39, .a (.d (.int .i64) x39)), (40, .a (.d (.int .i64) x40))], [(37, .smap .bool b37)], []⟩
def w24kL4 (c : Code) : List It2 := atL 4 c
def w24sL4 (x0 : List VLabel) (x1 : Bool) (x13 : List VLabel) (x14 : Int) (x15 : Int) : TS EE.T := ⟨52, [(0, .a (.d (.sl (.nam 2)) x0)), (1, .a (.d .bool x1)), (13, .a (.d (.sl (.nam 2)) x13)), (14, .a (.d (.int .i64) x14)), (15, .a (.d (.int .i64) x15))], [], []⟩
def w24kE0 (c : Code) : List It2 := [.c c]
def w24sE0 (x0 : List VLabel) (x1 : Bool) : TS EE.T := ⟨52, [(0, .a (.d (.sl (.nam 2)) x0)), (1, .a (.d .bool x1))], [], []⟩
def w24TR9 (c : Code) (N : Nat) (k4 : (List VLabel) → Bool → (List VLabel) → Int → Int → Option Int) (n : Nat) (x0 : List VLabel) (x1 : Bool) (x13 : List VLabel) (x14 : Int) (x15 : Int) (b6 : VLabel) : Tree (Lf EE.T × Option Int) :=
  .cond (decide ((b6.Value.length : Int) > 100))
  (
    .leaf (.done (w24enc 2), some 2))
  (
    .leaf (.go (w24kL4 c) (w24sL4 x0 x1 x13 x14 (w64 (x15 + 1))), k4 x0 x1 x13 x14 (w64 (x15 + 1))))
theorem w24vR9 (N : Nat) (k4 : (List VLabel) → Bool → (List VLabel) → Int → Int → Option Int) (n : Nat) (x0 : List VLabel) (x1 : Bool) (x13 : List VLabel) (x14 : Int) (x15 : Int) (b6 : VLabel) : evM TT EE (w24G N) w24lv w24rs 4000 true (w24kR9 (bodyOf 0 Tryz.f24)) (w24sR9 x0 x1 x13 x14 x15 b6) = (w24TR9 (bodyOf 0 Tryz.f24) N k4 n x0 x1 x13 x14 x15 b6).map1 := by kernel_rfl
theorem w24nR9 (N : Nat) (k4 : (List VLabel) → Bool → (List VLabel) → Int → Int → Option Int) (n : Nat) (x0 : List VLabel) (x1 : Bool) (x13 : List VLabel) (x14 : Int) (x15 : Int) (b6 : VLabel) : labels_each_R9 N k4 n x0 x1 x13 x14 x15 b6 = (w24TR9 (bodyOf 0 Tryz.f24) N k4 n x0 x1 x13 x14 x15 b6).run := by kernel_rfl
theorem w24oR9 {N : Nat} {r : Int} {k4 : (List VLabel) → Bool → (List VLabel) → Int → Int → Option Int} (hk4 : ∀ x0 x1 x13 x14 x15, k4 x0 x1 x13 x14 x15 = some r → Ends (Y := TT) EE (w24G N) w24lv w24rs (fun u => u = w24enc r) (w24kL4 (bodyOf 0 Tryz.f24)) (w24sL4 x0 x1 x13 x14 x15)) (n : Nat) (x0 : List VLabel) (x1 : Bool) (x13 : List VLabel) (x14 : Int) (x15 : Int) (b6 : VLabel) (h : labels_each_R9 N k4 n x0 x1 x13 x14 x15 b6 = some r) : Ends (Y := TT) EE (w24G N) w24lv w24rs (fun u => u = w24enc r) (w24kR9 (bodyOf 0 Tryz.f24)) (w24sR9 x0 x1 x13 x14 x15 b6) :=
  tree_use (w24vR9 N k4 n x0 x1 x13 x14 x15 b6) (w24nR9 N k4 n x0 x1 x13 x14 x15 b6) h (show (w24TR9 (bodyOf 0 Tryz.f24) N k4 n x0 x1 x13 x14 x15 b6).all _ from ⟨retp (enc := w24enc) rfl, fun h => hk4 _ _ _ _ _ h⟩)
def w24TL14 (c : Code) (N : Nat) (n : Nat) (x38 : List VLabel) (x39 : Int) (x40 : Int) (b37 : List (List UInt8 × Bool)) : Tree (Lf EE.T × Option Int) :=
  .cond (decide (x40 < x39))
  (
    .bnd (idxC x38 x40) fun z3 =>
    .cond ((mget b37 z3.Name).getD false)
    (
      .leaf (.done (w24enc 6), some 6))
    (
      .leaf (.go (w24kL14 c) (w24sL14 x38 x39 (w64 (x40 + 1)) (mset b37 z3.Name true)), labels_each_L14 N n x38 x39 (w64 (x40 + 1)) (mset b37 z3.Name true))))
  (
    .leaf (.done (w24enc 0), some 0))
theorem w24vL14 (N : Nat) (n : Nat) (x38 : List VLabel) (x39 : Int) (x40 : Int) (b37 : List (List UInt8 × Bool)) : evM TT EE (w24G N) w24lv w24rs 4000 true (w24kL14 (bodyOf 0 Tryz.f24)) (w24sL14 x38 x39 x40 b37) = (w24TL14 (bodyOf 0 Tryz.f24) N n x38 x39 x40 b37).map1 := by kernel_rfl
theorem w24nL14 (N : Nat) (n : Nat) (x38 : List VLabel) (x39 : Int) (x40 : Int) (b37 : List (List UInt8 × Bool)) : labels_each_L14 N (n + 1) x38 x39 x40 b37 = (w24TL14 (bodyOf 0 Tryz.f24) N n x38 x39 x40 b37).run := by kernel_rfl
theorem w24oL14 {N : Nat} {r : Int} : ∀ (n : Nat) (x38 : List VLabel) (x39 : Int) (x40 : Int) (b37 : List (List UInt8 × Bool)), labels_each_L14 N n x38 x39 x40 b37 = some r → Ends (Y := TT) EE (w24G N) w24lv w24rs (fun u => u = w24enc r) (w24kL14 (bodyOf 0 Tryz.f24)) (w24sL14 x38 x39 x40 b37)
  | 0, _, _, _, _, h => by cases h
  | n + 1, x38, x39, x40, b37, h => tree_use (w24vL14 N n x38 x39 x40 b37) (w24nL14 N n x38 x39 x40 b37) h (show (w24TL14 (bodyOf 0 Tryz.f24) N n x38 x39 x40 b37).all _ from ⟨fun _ => ⟨retp (enc := w24enc) rfl, fun h => (w24oL14 n) _ _ _ _ h⟩, retp (enc := w24enc) rfl⟩)
def w24TL4 (c : Code) (N : Nat) (n : Nat) (x0 : List VLabel) (x1 : Bool) (x13 : List VLabel) (x14 : Int) (x15 : Int) : Tree (Lf EE.T × Option Int) :=
  .cond (decide (x15 < x14))
  (
    .bnd (idxC x13 x15) fun z1 =>
    .bnd (labels_IsName N z1.Name) fun z2 =>
    .cond (!z2)
    (
      .leaf (.done (w24enc 1), some 1))
    (
      .cond (decide (z1.Value = ([] : List UInt8)))
      (
        .cond (!x1)
        (
          .leaf (.done (w24enc 1), some 1))
        (
          .leaf (.go (w24kR9 c) (w24sR9 x0 x1 x13 x14 x15 z1), labels_each_R9 N (labels_each_L4 N n) n x0 x1 x13 x14 x15 z1)))
      (
        .leaf (.go (w24kR9 c) (w24sR9 x0 x1 x13 x14 x15 z1), labels_each_R9 N (labels_each_L4 N n) n x0 x1 x13 x14 x15 z1))))
  (
    .leaf (.go (w24kL14 c) (w24sL14 x0 (x0.length : Int) 0 ([] : List (List UInt8 × Bool))), labels_each_L14 N n x0 (x0.length : Int) 0 ([] : List (List UInt8 × Bool))))
theorem w24vL4 (N : Nat) (n : Nat) (x0 : List VLabel) (x1 : Bool) (x13 : List VLabel) (x14 : Int) (x15 : Int) : evM TT EE (w24G N) w24lv w24rs 4000 true (w24kL4 (bodyOf 0 Tryz.f24)) (w24sL4 x0 x1 x13 x14 x15) = (w24TL4 (bodyOf 0 Tryz.f24) N n x0 x1 x13 x14 x15).map1 := by kernel_rfl
theorem w24nL4 (N : Nat) (n : Nat) (x0 : List VLabel) (x1 : Bool) (x13 : List VLabel) (x14 : Int) (x15 : Int) : labels_each_L4 N (n + 1) x0 x1 x13 x14 x15 = (w24TL4 (bodyOf 0 Tryz.f24) N n x0 x1 x13 x14 x15).run := by kernel_rfl
theorem w24oL4 {N : Nat} {r : Int} : ∀ (n : Nat) (x0 : List VLabel) (x1 : Bool) (x13 : List VLabel) (x14 : Int) (x15 : Int), labels_each_L4 N n x0 x1 x13 x14 x15 = some r → Ends (Y := TT) EE (w24G N) w24lv w24rs (fun u => u = w24enc r) (w24kL4 (bodyOf 0 Tryz.f24)) (w24sL4 x0 x1 x13 x14 x15)
  | 0, _, _, _, _, _, h => by cases h
  | n + 1, x0, x1, x13, x14, x15, h => tree_use (w24vL4 N n x0 x1 x13 x14 x15) (w24nL4 N n x0 x1 x13 x14 x15) h (show (w24TL4 (bodyOf 0 Tryz.f24) N n x0 x1 x13 x14 x15).all _ from ⟨fun _ => fun _ => ⟨retp (enc := w24enc) rfl, ⟨⟨retp (enc := w24enc) rfl, fun h => w24oR9 (w24oL4 n) n _ _ _ _ _ _ h⟩, fun h => w24oR9 (w24oL4 n) n _ _ _ _ _ _ h⟩⟩, fun h => w24oL14 n _ _ _ _ h⟩)
def w24TE0 (c : Code) (N : Nat) (x0 : List VLabel) (x1 : Bool) : Tree (Lf EE.T × Option Int) :=
  .cond (decide ((x0.length : Int) > 20))
  (
    .leaf (.done (w24enc 2), some 2))
  (
    .leaf (.go (w24kL4 c) (w24sL4 x0 x1 x0 (x0.length : Int) 0), labels_each_L4 N N x0 x1 x0 (x0.length : Int) 0))
theorem w24vE0 (N : Nat) (x0 : List VLabel) (x1 : Bool) : evM TT EE (w24G N) w24lv w24rs 4000 true (w24kE0 (bodyOf 0 Tryz.f24)) (w24sE0 x0 x1) = (w24TE0 (bodyOf 0 Tryz.f24) N x0 x1).map1 := by kernel_rfl
theorem w24nE0 (N : Nat) (x0 : List VLabel) (x1 : Bool) : labels_each N x0 x1 = (w24TE0 (bodyOf 0 Tryz.f24) N x0 x1).run := by kernel_rfl
theorem w24oE0 {N : Nat} {r : Int} (x0 : List VLabel) (x1 : Bool) (h : labels_each N x0 x1 = some r) : Ends (Y := TT) EE (w24G N) w24lv w24rs (fun u => u = w24enc r) (w24kE0 (bodyOf 0 Tryz.f24)) (w24sE0 x0 x1) :=
  tree_use (w24vE0 N x0 x1) (w24nE0 N x0 x1) h (show (w24TE0 (bodyOf 0 Tryz.f24) N x0 x1).all _ from ⟨retp (enc := w24enc) rfl, fun h => w24oL4 N _ _ _ _ _ h⟩)
theorem labels_each_ok {N : Nat} (x0 : List VLabel) (x1 : Bool) {r : Int} (h : labels_each N x0 x1 = some r) (ρ : Nat → Nat) : ACalls Tryz.prog 24 (([.a (.d (.sl (.nam 2)) x0), .a (.d .bool x1)] : List (TV EE.T)).map (TV.to EE.toEnc ρ)) [] (fun out H => out = .ret ((labels_each_u r).to EE.toEnc ρ) ∧ H = []) :=
  (fn_ok (bodyOf 0 Tryz.f24) 52 mixed (w24Gok N) Tryz.func24 (by kernel_rfl) rfl rfl rfl rfl (w24oE0 x0 x1 h) ρ).mono fun out H h => KPost.ret rfl h
def labels_each_h (N : Nat) : List (TV EE.T) → PV EE.T
  | [u0, u1] => match argD (.sl (.nam 2)) u0, argD .bool u1 with
    | some x0, some x1 => .opt (labels_each N x0 x1) labels_each_u
    | _, _ => .bad
  | _ => .bad
theorem labels_each_hok (N : Nat) (us : List (TV EE.T)) : (labels_each_h N us).ok fun u => ∀ ρ, ACalls Tryz.prog 24 (us.map (TV.to EE.toEnc ρ)) [] (fun out H => out = .ret (u.to EE.toEnc ρ) ∧ H = []) := by
  unfold labels_each_h
  split
  · split
    · rename_i h0 h1
      intro z hz ρ; refine acalls_le ?_ (labels_each_ok _ _ hz ρ); exact ⟨argD_le h0 ρ, argD_le h1 ρ, trivial⟩
    · trivial
  · trivial
/-! ### cmp.isNaN[string] -/
def cmp_isNaN_string__u (r : Bool) : TV EE.T := .a (.d .bool r)
def w27enc (r : Bool) : RL EE.T := .ret (cmp_isNaN_string__u r) []
def w27lv : Lvs := ⟨[], [], [], [], false, [], []⟩
def w27rs : List ResultVar := [.tmp 2]
def w27G (N : Nat) : Gam EE := ⟨[], EQT, [], []⟩
theorem w27Gok (N : Nat) : GOk Tryz.prog TT EE (w27G N) := GOk.nil EQT_ok
def w27kE0 (c : Code) : List It2 := [.c c]
def w27sE0 (x0 : List UInt8) : TS EE.T := ⟨6, [(0, .a (.d .str x0))], [], []⟩
def w27TE0 (c : Code) (N : Nat) (x0 : List UInt8) : Tree (Lf EE.T × Option Bool) :=
  .leaf (.done (w27enc (!decide (x0 = x0))), some (!decide (x0 = x0)))
theorem w27vE0 (N : Nat) (x0 : List UInt8) : evM TT EE (w27G N) w27lv w27rs 4000 true (w27kE0 (bodyOf 0 Tryz.f27)) (w27sE0 x0) = (w27TE0 (bodyOf 0 Tryz.f27) N x0).map1 := by kernel_rfl
theorem w27nE0 (N : Nat) (x0 : List UInt8) : cmp_isNaN_string_ N x0 = (w27TE0 (bodyOf 0 Tryz.f27) N x0).run := by kernel_rfl
theorem w27oE0 {N : Nat} {r : Bool} (x0 : List UInt8) (h : cmp_isNaN_string_ N x0 = some r) : Ends (Y := TT) EE (w27G N) w27lv w27rs (fun u => u = w27enc r) (w27kE0 (bodyOf 0 Tryz.f27)) (w27sE0 x0) :=
  tree_use (w27vE0 N x0) (w27nE0 N x0) h (show (w27TE0 (bodyOf 0 Tryz.f27) N x0).all _ from retp (enc := w27enc) rfl)
theorem cmp_isNaN_string__ok {N : Nat} (x0 : List UInt8) {r : Bool} (h : cmp_isNaN_string_ N x0 = some r) (ρ : Nat → Nat) : ACalls Tryz.prog 27 (([.a (.d .str x0)] : List (TV EE.T)).map (TV.to EE.toEnc ρ)) [] (fun out H => out = .ret ((cmp_isNaN_string__u r).to EE.toEnc ρ) ∧ H = []) :=
  (fn_ok (bodyOf 0 Tryz.f27) 6 mixed (w27Gok N) Tryz.func27 (by kernel_rfl) rfl rfl rfl rfl (w27oE0 x0 h) ρ).mono fun out H h => KPost.ret rfl h
def cmp_isNaN_string__h (N : Nat) : List (TV EE.T) → PV EE.T
  | [u0] => match argD .str u0 with
    | some x0 => .opt (cmp_isNaN_string_ N x0) cmp_isNaN_string__u
    | _ => .bad
  | _ => .bad
theorem cmp_isNaN_string__hok (N : Nat) (us : List (TV EE.T)) : (cmp_isNaN_string__h N us).ok fun u => ∀ ρ, ACalls Tryz.prog 27 (us.map (TV.to EE.toEnc ρ)) [] (fun out H => out = .ret (u.to EE.toEnc ρ) ∧ H = []) := by
  unfold cmp_isNaN_string__h
  split
  · split
    · rename_i h0
      intro z hz ρ; refine acalls_le ?_ (cmp_isNaN_string__ok _ hz ρ); exact ⟨argD_le h0 ρ, trivial⟩
    · trivial
  · trivial
/-! ### cmp.Compare[string] -/
def cmp_Compare_string__u (r : Int) : TV EE.T := .a (.d (.int .i64) r)
def w17enc (r : Int) : RL EE.T := .ret (cmp_Compare_string__u r) []
def w17lv : Lvs := ⟨[], [], [], [], false, [], []⟩
def w17rs : List ResultVar := [.tmp 4]
def w17G (N : Nat) : Gam EE := ⟨[⟨27, cmp_isNaN_string__h N⟩], EQT, [], []⟩
theorem w17Gok (N : Nat) : GOk Tryz.prog TT EE (w17G N) := GOk.cons (cmp_isNaN_string__hok N) (GOk.nil EQT_ok)
def w17kE0 (c : Code) : List It2 := [.c c]
def w17sE0 (x0 : List UInt8) (x1 : List UInt8) : TS EE.T := ⟨20, [(0, .a (.d .str x0)), (1, .a (.d .str x1))], [], []⟩
def w17TE0 (c : Code) (N : Nat) (x0 : List UInt8) (x1 : List UInt8) : Tree (Lf EE.T × Option Int) :=
  .bnd (cmp_isNaN_string_ N x0) fun z1 =>
  .bnd (cmp_isNaN_string_ N x1) fun z2 =>
  .cond (z1)
  (
    .cond (z2)
    (
      .leaf (.done (w17enc 0), some 0))
    (
      .leaf (.done (w17enc (-1)), some (-1))))
  (
    .cond (z2)
    (
      .leaf (.done (w17enc 1), some 1))
    (
      .cond (Op.bytesLess x0 x1)
      (
        .leaf (.done (w17enc (-1)), some (-1)))
      (
        .cond (!(Op.bytesLess x0 x1 || decide (x0 = x1)))
        (
          .leaf (.done (w17enc 1), some 1))
        (
          .leaf (.done (w17enc 0), some 0)))))
theorem w17vE0 (N : Nat) (x0 : List UInt8) (x1 : List UInt8) : evM TT EE (w17G N) w17lv w17rs 4000 true (w17kE0 (bodyOf 0 Tryz.f17)) (w17sE0 x0 x1) = (w17TE0 (bodyOf 0 Tryz.f17) N x0 x1).map1 := by kernel_rfl
theorem w17nE0 (N : Nat) (x0 : List UInt8) (x1 : List UInt8) : cmp_Compare_string_ N x0 x1 = (w17TE0 (bodyOf 0 Tryz.f17) N x0 x1).run := by kernel_rfl
theorem w17oE0 {N : Nat} {r : Int} (x0 : List UInt8) (x1 : List UInt8) (h : cmp_Compare_string_ N x0 x1 = some r) : Ends (Y := TT) EE (w17G N) w17lv w17rs (fun u => u = w17enc r) (w17kE0 (bodyOf 0 Tryz.f17)) (w17sE0 x0 x1) :=
  tree_use (w17vE0 N x0 x1) (w17nE0 N x0 x1) h (show (w17TE0 (bodyOf 0 Tryz.f17) N x0 x1).all _ from fun _ => fun _ => ⟨⟨retp (enc := w17enc) rfl, retp (enc := w17enc) rfl⟩, ⟨retp (enc := w17enc) rfl, ⟨retp (enc := w17enc) rfl, ⟨retp (enc := w17enc) rfl, retp (enc := w17enc) rfl⟩⟩⟩⟩)
theorem cmp_Compare_string__ok {N : Nat} (x0 : List UInt8) (x1 : List UInt8) {r : Int} (h : cmp_Compare_string_ N x0 x1 = some r) (ρ : Nat → Nat) : ACalls Tryz.prog 17 (([.a (.d .str x0), .a (.d .str x1)] : List (TV EE.T)).map (TV.to EE.toEnc ρ)) [] (fun out H => out = .ret ((cmp_Compare_string__u r).to EE.toEnc ρ) ∧ H = []) :=
  (fn_ok (bodyOf 0 Tryz.f17) 20 mixed (w17Gok N) Tryz.func17 (by kernel_rfl) rfl rfl rfl rfl (w17oE0 x0 x1 h) ρ).mono fun out H h => KPost.ret rfl h
def cmp_Compare_string__h (N : Nat) : List (TV EE.T) → PV EE.T
  | [u0, u1] => match argD .str u0, argD .str u1 with
    | some x0, some x1 => .opt (cmp_Compare_string_ N x0 x1) cmp_Compare_string__u
    | _, _ => .bad
  | _ => .bad
theorem cmp_Compare_string__hok (N : Nat) (us : List (TV EE.T)) : (cmp_Compare_string__h N us).ok fun u => ∀ ρ, ACalls Tryz.prog 17 (us.map (TV.to EE.toEnc ρ)) [] (fun out H => out = .ret (u.to EE.toEnc ρ) ∧ H = []) := by
  unfold cmp_Compare_string__h
  split
  · split
    · rename_i h0 h1
      intro z hz ρ; refine acalls_le ?_ (cmp_Compare_string__ok _ _ hz ρ); exact ⟨argD_le h0 ρ, argD_le h1 ρ, trivial⟩
    · trivial
  · trivial
/-! ### gleaner/labels.byName -/
def labels_byName_u (r : Int) : TV EE.T := .a (.d (.int .i64) r)
def w26enc (r : Int) : RL EE.T := .ret (labels_byName_u r) []
def w26lv : Lvs := ⟨[], [], [], [], false, [], []⟩
def w26rs : List ResultVar := [.tmp 4]
def w26G (N : Nat) : Gam EE := ⟨[⟨17, cmp_Compare_string__h N⟩], EQT, [], []⟩
theorem w26Gok (N : Nat) : GOk Tryz.prog TT EE (w26G N) := GOk.cons (cmp_Compare_string__hok N) (GOk.nil EQT_ok)
def w26kE0 (c : Code) : List It2 := [.c c]
def w26sE0 (x0 : VLabel) (x1 : VLabel) : TS EE.T := ⟨10, [(0, .ag (unpT EE (.nam 2) x0)), (1, .ag (unpT EE (.nam 2) x1))], [], []⟩
def w26TE0 (c : Code) (N : Nat) (x0 : VLabel) (x1 : VLabel) : Tree (Lf EE.T × Option Int) :=
  .bnd (cmp_Compare_string_ N x0.Name x1.Name) fun z1 =>
  .leaf (.done (w26enc z1), some z1)
theorem w26vE0 (N : Nat) (x0 : VLabel) (x1 : VLabel) : evM TT EE (w26G N) w26lv w26rs 4000 true (w26kE0 (bodyOf 0 Tryz.f26)) (w26sE0 x0 x1) = (w26TE0 (bodyOf 0 Tryz.f26) N x0 x1).map1 := by kernel_rfl
theorem w26nE0 (N : Nat) (x0 : VLabel) (x1 : VLabel) : labels_byName N x0 x1 = (w26TE0 (bodyOf 0 Tryz.f26) N x0 x1).run := by kernel_rfl
theorem w26oE0 {N : Nat} {r : Int} (x0 : VLabel) (x1 : VLabel) (h : labels_byName N x0 x1 = some r) : Ends (Y := TT) EE (w26G N) w26lv w26rs (fun u => u = w26enc r) (w26kE0 (bodyOf 0 Tryz.f26)) (w26sE0 x0 x1) :=
  tree_use (w26vE0 N x0 x1) (w26nE0 N x0 x1) h (show (w26TE0 (bodyOf 0 Tryz.f26) N x0 x1).all _ from fun _ => retp (enc := w26enc) rfl)
theorem labels_byName_ok {N : Nat} (x0 : VLabel) (x1 : VLabel) {r : Int} (h : labels_byName N x0 x1 = some r) (ρ : Nat → Nat) : ACalls Tryz.prog 26 (([.ag (unpT EE (.nam 2) x0), .ag (unpT EE (.nam 2) x1)] : List (TV EE.T)).map (TV.to EE.toEnc ρ)) [] (fun out H => out = .ret ((labels_byName_u r).to EE.toEnc ρ) ∧ H = []) :=
  (fn_ok (bodyOf 0 Tryz.f26) 10 mixed (w26Gok N) Tryz.func26 (by kernel_rfl) rfl rfl rfl rfl (w26oE0 x0 x1 h) ρ).mono fun out H h => KPost.ret rfl h
def labels_byName_h (N : Nat) : List (TV EE.T) → PV EE.T
  | [u0, u1] => match argS EE 2 u0, argS EE 2 u1 with
    | some x0, some x1 => .opt (labels_byName N x0 x1) labels_byName_u
    | _, _ => .bad
  | _ => .bad
theorem labels_byName_hok (N : Nat) (us : List (TV EE.T)) : (labels_byName_h N us).ok fun u => ∀ ρ, ACalls Tryz.prog 26 (us.map (TV.to EE.toEnc ρ)) [] (fun out H => out = .ret (u.to EE.toEnc ρ) ∧ H = []) := by
  unfold labels_byName_h
  split
  · split
    · rename_i h0 h1
      intro z hz ρ; refine acalls_le ?_ (labels_byName_ok _ _ hz ρ); exact ⟨argS_le h0 ρ, argS_le h1 ρ, trivial⟩
    · trivial
  · trivial
/-! ### slices.IsSortedFunc[[]gleaner/api.Label,gleaner/api.Label] -/
def slices_IsSortedFunc_api_Label_api_Label__i0_u (r : Bool) : TV EE.T := .a (.d .bool r)
def w25i0hh (r : Bool) : List (Nat × TB EE.T) := []
def w25i0enc (r : Bool) : RL EE.T := .ret (slices_IsSortedFunc_api_Label_api_Label__i0_u r) (w25i0hh r)
def w25i0lv : Lvs := ⟨[(4, ⟨[(0, false), (1, false), (5, false)], [], []⟩)], [(2, ⟨[(0, false), (1, false), (5, false)], [], []⟩)], [], [], false, [], []⟩
def w25i0rs : List ResultVar := [.tmp 4]
def w25i0G (N : Nat) : Gam EE := ⟨[⟨26, labels_byName_h N⟩], EQT, [], []⟩
theorem w25i0Gok (N : Nat) : GOk Tryz.prog TT EE (w25i0G N) := GOk.cons (labels_byName_hok N) (GOk.nil EQT_ok)
def w25i0kL2 (c : Code) : List It2 := atL 2 c
def w25i0sL2 (x0 : List VLabel) (x5 : Int) : TS EE.T := ⟨25, [(0, .a (.d (.sl (.nam 2)) x0)), (1, .fn 26 []), (5, .a (.d (.int .i64) x5))], [], []⟩
def w25i0kE0 (c : Code) : List It2 := [.c c]
def w25i0sE0 (x0 : List VLabel) : TS EE.T := ⟨25, [(0, .a (.d (.sl (.nam 2)) x0)), (1, .fn 26 [])], [], []⟩
def w25i0TL2 (c : Code) (N : Nat) (n : Nat) (x0 : List VLabel) (x5 : Int) : Tree (Lf EE.T × Option Bool) :=
  .cond (decide (x5 > 0))
  (
    .bnd (idxC x0 x5) fun z1 =>
    .bnd (idxC x0 (w64 (x5 - 1))) fun z2 =>
    .bnd (labels_byName N z1 z2) fun z3 =>
    .cond (decide (z3 < 0))
    (
      .leaf (.done (w25i0enc false), some false))
    (
      .leaf (.go (w25i0kL2 c) (w25i0sL2 x0 (w64 (x5 - 1))), slices_IsSortedFunc_api_Label_api_Label__i0_L2 N n x0 (w64 (x5 - 1)))))
  (
    .leaf (.done (w25i0enc true), some true))
theorem w25i0vL2 (N : Nat) (n : Nat) (x0 : List VLabel) (x5 : Int) : evM TT EE (w25i0G N) w25i0lv w25i0rs 4000 true (w25i0kL2 (bodyOf 0 Tryz.f25)) (w25i0sL2 x0 x5) = (w25i0TL2 (bodyOf 0 Tryz.f25) N n x0 x5).map1 := by kernel_rfl
theorem w25i0nL2 (N : Nat) (n : Nat) (x0 : List VLabel) (x5 : Int) : slices_IsSortedFunc_api_Label_api_Label__i0_L2 N (n + 1) x0 x5 = (w25i0TL2 (bodyOf 0 Tryz.f25) N n x0 x5).run := by kernel_rfl
theorem w25i0oL2 {N : Nat} {r : Bool} : ∀ (n : Nat) (x0 : List VLabel) (x5 : Int), slices_IsSortedFunc_api_Label_api_Label__i0_L2 N n x0 x5 = some r → Ends (Y := TT) EE (w25i0G N) w25i0lv w25i0rs (fun u => u = w25i0enc r) (w25i0kL2 (bodyOf 0 Tryz.f25)) (w25i0sL2 x0 x5)
  | 0, _, _, h => by cases h
  | n + 1, x0, x5, h => tree_use (w25i0vL2 N n x0 x5) (w25i0nL2 N n x0 x5) h (show (w25i0TL2 (bodyOf 0 Tryz.f25) N n x0 x5).all _ from ⟨fun _ => fun _ => fun _ => ⟨retp (enc := w25i0enc) rfl, fun h => (w25i0oL2 n) _ _ h⟩, retp (enc := w25i0enc) rfl⟩)
def w25i0TE0 (c : Code) (N : Nat) (x0 : List VLabel) : Tree (Lf EE.T × Option Bool) :=
  .leaf (.go (w25i0kL2 c) (w25i0sL2 x0 (w64 ((x0.length : Int) - 1))), slices_IsSortedFunc_api_Label_api_Label__i0_L2 N N x0 (w64 ((x0.length : Int) - 1)))
theorem w25i0vE0 (N : Nat) (x0 : List VLabel) : evM TT EE (w25i0G N) w25i0lv w25i0rs 4000 true (w25i0kE0 (bodyOf 0 Tryz.f25)) (w25i0sE0 x0) = (w25i0TE0 (bodyOf 0 Tryz.f25) N x0).map1 := by kernel_rfl
theorem w25i0nE0 (N : Nat) (x0 : List VLabel) : slices_IsSortedFunc_api_Label_api_Label__i0 N x0 = (w25i0TE0 (bodyOf 0 Tryz.f25) N x0).run := by kernel_rfl
theorem w25i0oE0 {N : Nat} {r : Bool} (x0 : List VLabel) (h : slices_IsSortedFunc_api_Label_api_Label__i0 N x0 = some r) : Ends (Y := TT) EE (w25i0G N) w25i0lv w25i0rs (fun u => u = w25i0enc r) (w25i0kE0 (bodyOf 0 Tryz.f25)) (w25i0sE0 x0) :=
  tree_use (w25i0vE0 N x0) (w25i0nE0 N x0) h (show (w25i0TE0 (bodyOf 0 Tryz.f25) N x0).all _ from fun h => w25i0oL2 N _ _ h)
def w25i0us (x0 : List VLabel) : List (TV EE.T) := [.a (.d (.sl (.nam 2)) x0), .fn 26 []]
def w25i0h0 (x0 : List VLabel) : List (Nat × TB EE.T) := []
theorem slices_IsSortedFunc_api_Label_api_Label__i0_ok {N : Nat} (x0 : List VLabel) {r : Bool} (h : slices_IsSortedFunc_api_Label_api_Label__i0 N x0 = some r) (ρ : Nat → Nat) (hi : Inj ρ (w25i0h0 x0)) : ACalls Tryz.prog 25 ((w25i0us x0).map (TV.to EE.toEnc ρ)) (hTo EE.toEnc ρ (w25i0h0 x0)) (fun out H => out = .ret ((slices_IsSortedFunc_api_Label_api_Label__i0_u r).to EE.toEnc ρ) ∧ H = hTo EE.toEnc ρ (w25i0hh r)) :=
  (fn_okH (bodyOf 0 Tryz.f25) 25 mixed (w25i0Gok N) Tryz.func25 (by kernel_rfl) rfl rfl rfl rfl (w25i0oE0 x0 h) ρ hi).mono fun out H h => KPost.retH rfl rfl h
def slices_IsSortedFunc_api_Label_api_Label__i0_h (N : Nat) (us : List (TV EE.T)) (hs : List (Nat × TB EE.T)) : XR EE.T :=
  gdX (lenX us 2) <|
  bnX (aD (.sl (.nam 2)) us 0) fun x0 =>
  bnX (aF 26 us 1) fun c1 =>
  bnX (cbs c1) fun s1 =>
  gdX (lenX s1 0) <|
  gdX (goodIds hs []) <|
  .ret (slices_IsSortedFunc_api_Label_api_Label__i0 N x0) [] slices_IsSortedFunc_api_Label_api_Label__i0_u (w25i0hh)
theorem slices_IsSortedFunc_api_Label_api_Label__i0_hok (N : Nat) : XOk Tryz.prog EE 25 (slices_IsSortedFunc_api_Label_api_Label__i0_h N) := fun us hs =>
  gdX_ok fun h1 => bnX_ok fun x0 h2 => bnX_ok fun c1 h3 => bnX_ok fun s1 h4 => gdX_ok fun h5 => gdX_ok fun h6 => fun z hz => ⟨rfl, fun ρ hi => xcall (us' := w25i0us x0) (h0 := w25i0h0 x0) (ρ' := rhoS ρ []) ⟨aD_le h2, aF_le (js := []) h3 h4 (by rw [lis0 (lenX_ok h5)];  kernel_rfl), lenX_ok h1⟩ trivial (slices_IsSortedFunc_api_Label_api_Label__i0_ok x0 hz _ (rhoS_inj hi h6 _ (by kernel_rfl))) (fun out H h => ⟨h.1.trans (by kernel_rfl), h.2.trans (by kernel_rfl)⟩)⟩
/-! ### gleaner/labels.Check -/
def labels_Check_u (r : Int) : TV EE.T := .a (.d (.int .i64) r)
def w13enc (r : Int) : RL EE.T := .ret (labels_Check_u r) []
def w13lv : Lvs := ⟨[], [], [], [], false, [], []⟩
def w13rs : List ResultVar := [.tmp 2]
def w13G (N : Nat) : Gam EE := ⟨[⟨24, labels_each_h N⟩], EQT, [⟨25, slices_IsSortedFunc_api_Label_api_Label__i0_h N⟩], []⟩
theorem w13Gok (N : Nat) : GOk Tryz.prog TT EE (w13G N) := GOk.cons (labels_each_hok N) (GOk.consx (slices_IsSortedFunc_api_Label_api_Label__i0_hok N) (GOk.nil EQT_ok))
def w13kE0 (c : Code) : List It2 := [.c c]
def w13sE0 (x0 : List VLabel) : TS EE.T := ⟨12, [(0, .a (.d (.sl (.nam 2)) x0))], [], []⟩
def w13TE0 (c : Code) (N : Nat) (x0 : List VLabel) : Tree (Lf EE.T × Option Int) :=
  .bnd (labels_each N x0 false) fun z1 =>
  .cond (z1 != 0)
  (
    .leaf (.done (w13enc z1), some z1))
  (
    .bnd (slices_IsSortedFunc_api_Label_api_Label__i0 N x0) fun z2 =>
    .cond (!z2)
    (
      .leaf (.done (w13enc 4), some 4))
    (
      .leaf (.done (w13enc 0), some 0)))
theorem w13vE0 (N : Nat) (x0 : List VLabel) : evM TT EE (w13G N) w13lv w13rs 4000 true (w13kE0 (bodyOf 0 Tryz.f13)) (w13sE0 x0) = (w13TE0 (bodyOf 0 Tryz.f13) N x0).map1 := by kernel_rfl
theorem w13nE0 (N : Nat) (x0 : List VLabel) : labels_Check N x0 = (w13TE0 (bodyOf 0 Tryz.f13) N x0).run := by kernel_rfl
theorem w13oE0 {N : Nat} {r : Int} (x0 : List VLabel) (h : labels_Check N x0 = some r) : Ends (Y := TT) EE (w13G N) w13lv w13rs (fun u => u = w13enc r) (w13kE0 (bodyOf 0 Tryz.f13)) (w13sE0 x0) :=
  tree_use (w13vE0 N x0) (w13nE0 N x0) h (show (w13TE0 (bodyOf 0 Tryz.f13) N x0).all _ from fun _ => ⟨retp (enc := w13enc) rfl, fun _ => ⟨retp (enc := w13enc) rfl, retp (enc := w13enc) rfl⟩⟩)
theorem labels_Check_ok {N : Nat} (x0 : List VLabel) {r : Int} (h : labels_Check N x0 = some r) (ρ : Nat → Nat) : ACalls Tryz.prog 13 (([.a (.d (.sl (.nam 2)) x0)] : List (TV EE.T)).map (TV.to EE.toEnc ρ)) [] (fun out H => out = .ret ((labels_Check_u r).to EE.toEnc ρ) ∧ H = []) :=
  (fn_ok (bodyOf 0 Tryz.f13) 12 mixed (w13Gok N) Tryz.func13 (by kernel_rfl) rfl rfl rfl rfl (w13oE0 x0 h) ρ).mono fun out H h => KPost.ret rfl h
def labels_Check_h (N : Nat) : List (TV EE.T) → PV EE.T
  | [u0] => match argD (.sl (.nam 2)) u0 with
    | some x0 => .opt (labels_Check N x0) labels_Check_u
    | _ => .bad
  | _ => .bad
theorem labels_Check_hok (N : Nat) (us : List (TV EE.T)) : (labels_Check_h N us).ok fun u => ∀ ρ, ACalls Tryz.prog 13 (us.map (TV.to EE.toEnc ρ)) [] (fun out H => out = .ret (u.to EE.toEnc ρ) ∧ H = []) := by
  unfold labels_Check_h
  split
  · split
    · rename_i h0
      intro z hz ρ; refine acalls_le ?_ (labels_Check_ok _ hz ρ); exact ⟨argD_le h0 ρ, trivial⟩
    · trivial
  · trivial
/-! ### gleaner/labels.check -/
def labels_check_u (r : Int) : TV EE.T := .a (.d (.int .i64) r)
def w8enc (r : Int) : RL EE.T := .ret (labels_check_u r) []
def w8lv : Lvs := ⟨[], [(2, ⟨[(6, false), (7, false), (8, false)], [], []⟩)], [], [], false, [], []⟩
def w8rs : List ResultVar := [.tmp 2]
def w8G (N : Nat) : Gam EE := ⟨[⟨13, labels_Check_h N⟩], EQT, [], []⟩
theorem w8Gok (N : Nat) : GOk Tryz.prog TT EE (w8G N) := GOk.cons (labels_Check_hok N) (GOk.nil EQT_ok)
def w8kL2 (c : Code) : List It2 := atL 2 c
def w8sL2 (x6 : List (List VLabel)) (x7 : Int) (x8 : Int) : TS EE.T := ⟨18, [(6, .a (.d (.sl (.sl (.nam 2))) x6)), (7, .a (.d (.int .i64) x7)), (8, .a (.d (.int .i64) x8))], [], []⟩
def w8kE0 (c : Code) : List It2 := [.c c]
def w8sE0 (x0 : List (List VLabel)) : TS EE.T := ⟨18, [(0, .a (.d (.sl (.sl (.nam 2))) x0))], [], []⟩
def w8TL2 (c : Code) (N : Nat) (n : Nat) (x6 : List (List VLabel)) (x7 : Int) (x8 : Int) : Tree (Lf EE.T × Option Int) :=
  .cond (decide (x8 < x7))
  (
    .bnd (idxC x6 x8) fun z1 =>
    .bnd (labels_Check N z1) fun z2 =>
    .cond (z2 != 0)
    (
      .leaf (.done (w8enc z2), some z2))
    (
      .leaf (.go (w8kL2 c) (w8sL2 x6 x7 (w64 (x8 + 1))), labels_check_L2 N n x6 x7 (w64 (x8 + 1)))))
  (
    .leaf (.done (w8enc 0), some 0))
theorem w8vL2 (N : Nat) (n : Nat) (x6 : List (List VLabel)) (x7 : Int) (x8 : Int) : evM TT EE (w8G N) w8lv w8rs 4000 true (w8kL2 (bodyOf 0 Tryz.f8)) (w8sL2 x6 x7 x8) = (w8TL2 (bodyOf 0 Tryz.f8) N n x6 x7 x8).map1 := by kernel_rfl
theorem w8nL2 (N : Nat) (n : Nat) (x6 : List (List VLabel)) (x7 : Int) (x8 : Int) : labels_check_L2 N (n + 1) x6 x7 x8 = (w8TL2 (bodyOf 0 Tryz.f8) N n x6 x7 x8).run := by kernel_rfl
theorem w8oL2 {N : Nat} {r : Int} : ∀ (n : Nat) (x6 : List (List VLabel)) (x7 : Int) (x8 : Int), labels_check_L2 N n x6 x7 x8 = some r → Ends (Y := TT) EE (w8G N) w8lv w8rs (fun u => u = w8enc r) (w8kL2 (bodyOf 0 Tryz.f8)) (w8sL2 x6 x7 x8)
  | 0, _, _, _, h => by cases h
  | n + 1, x6, x7, x8, h => tree_use (w8vL2 N n x6 x7 x8) (w8nL2 N n x6 x7 x8) h (show (w8TL2 (bodyOf 0 Tryz.f8) N n x6 x7 x8).all _ from ⟨fun _ => fun _ => ⟨retp (enc := w8enc) rfl, fun h => (w8oL2 n) _ _ _ h⟩, retp (enc := w8enc) rfl⟩)
def w8TE0 (c : Code) (N : Nat) (x0 : List (List VLabel)) : Tree (Lf EE.T × Option Int) :=
  .leaf (.go (w8kL2 c) (w8sL2 x0 (x0.length : Int) 0), labels_check_L2 N N x0 (x0.length : Int) 0)
theorem w8vE0 (N : Nat) (x0 : List (List VLabel)) : evM TT EE (w8G N) w8lv w8rs 4000 true (w8kE0 (bodyOf 0 Tryz.f8)) (w8sE0 x0) = (w8TE0 (bodyOf 0 Tryz.f8) N x0).map1 := by kernel_rfl
theorem w8nE0 (N : Nat) (x0 : List (List VLabel)) : labels_check N x0 = (w8TE0 (bodyOf 0 Tryz.f8) N x0).run := by kernel_rfl
theorem w8oE0 {N : Nat} {r : Int} (x0 : List (List VLabel)) (h : labels_check N x0 = some r) : Ends (Y := TT) EE (w8G N) w8lv w8rs (fun u => u = w8enc r) (w8kE0 (bodyOf 0 Tryz.f8)) (w8sE0 x0) :=
  tree_use (w8vE0 N x0) (w8nE0 N x0) h (show (w8TE0 (bodyOf 0 Tryz.f8) N x0).all _ from fun h => w8oL2 N _ _ _ h)
theorem labels_check_ok {N : Nat} (x0 : List (List VLabel)) {r : Int} (h : labels_check N x0 = some r) (ρ : Nat → Nat) : ACalls Tryz.prog 8 (([.a (.d (.sl (.sl (.nam 2))) x0)] : List (TV EE.T)).map (TV.to EE.toEnc ρ)) [] (fun out H => out = .ret ((labels_check_u r).to EE.toEnc ρ) ∧ H = []) :=
  (fn_ok (bodyOf 0 Tryz.f8) 18 mixed (w8Gok N) Tryz.func8 (by kernel_rfl) rfl rfl rfl rfl (w8oE0 x0 h) ρ).mono fun out H h => KPost.ret rfl h
def labels_check_h (N : Nat) : List (TV EE.T) → PV EE.T
  | [u0] => match argD (.sl (.sl (.nam 2))) u0 with
    | some x0 => .opt (labels_check N x0) labels_check_u
    | _ => .bad
  | _ => .bad
theorem labels_check_hok (N : Nat) (us : List (TV EE.T)) : (labels_check_h N us).ok fun u => ∀ ρ, ACalls Tryz.prog 8 (us.map (TV.to EE.toEnc ρ)) [] (fun out H => out = .ret (u.to EE.toEnc ρ) ∧ H = []) := by
  unfold labels_check_h
  split
  · split
    · rename_i h0
      intro z hz ρ; refine acalls_le ?_ (labels_check_ok _ hz ρ); exact ⟨argD_le h0 ρ, trivial⟩
    · trivial
  · trivial
/-! ### gleaner/labels.find$1 -/
def labels_find_1_u (r : Int) : TV EE.T := .a (.d (.int .i64) r)
def w39enc (r : Int) : RL EE.T := .ret (labels_find_1_u r) []
def w39lv : Lvs := ⟨[], [], [], [], false, [], []⟩
def w39rs : List ResultVar := [.tmp 4]
def w39G (N : Nat) : Gam EE := ⟨[⟨17, cmp_Compare_string__h N⟩], EQT, [], []⟩
theorem w39Gok (N : Nat) : GOk Tryz.prog TT EE (w39G N) := GOk.cons (cmp_Compare_string__hok N) (GOk.nil EQT_ok)
def w39kE0 (c : Code) : List It2 := [.c c]
def w39sE0 (x0 : VLabel) (x1 : List UInt8) : TS EE.T := ⟨9, [(0, .ag (unpT EE (.nam 2) x0)), (1, .a (.d .str x1))], [], []⟩
def w39TE0 (c : Code) (N : Nat) (x0 : VLabel) (x1 : List UInt8) : Tree (Lf EE.T × Option Int) :=
  .bnd (cmp_Compare_string_ N x0.Name x1) fun z1 =>
  .leaf (.done (w39enc z1), some z1)
theorem w39vE0 (N : Nat) (x0 : VLabel) (x1 : List UInt8) : evM TT EE (w39G N) w39lv w39rs 4000 true (w39kE0 (bodyOf 0 Tryz.f39)) (w39sE0 x0 x1) = (w39TE0 (bodyOf 0 Tryz.f39) N x0 x1).map1 := by kernel_rfl
theorem w39nE0 (N : Nat) (x0 : VLabel) (x1 : List UInt8) : labels_find_1 N x0 x1 = (w39TE0 (bodyOf 0 Tryz.f39) N x0 x1).run := by kernel_rfl
theorem w39oE0 {N : Nat} {r : Int} (x0 : VLabel) (x1 : List UInt8) (h : labels_find_1 N x0 x1 = some r) : Ends (Y := TT) EE (w39G N) w39lv w39rs (fun u => u = w39enc r) (w39kE0 (bodyOf 0 Tryz.f39)) (w39sE0 x0 x1) :=
  tree_use (w39vE0 N x0 x1) (w39nE0 N x0 x1) h (show (w39TE0 (bodyOf 0 Tryz.f39) N x0 x1).all _ from fun _ => retp (enc := w39enc) rfl)
theorem labels_find_1_ok {N : Nat} (x0 : VLabel) (x1 : List UInt8) {r : Int} (h : labels_find_1 N x0 x1 = some r) (ρ : Nat → Nat) : ACalls Tryz.prog 39 (([.ag (unpT EE (.nam 2) x0), .a (.d .str x1)] : List (TV EE.T)).map (TV.to EE.toEnc ρ)) [] (fun out H => out = .ret ((labels_find_1_u r).to EE.toEnc ρ) ∧ H = []) :=
  (fn_ok (bodyOf 0 Tryz.f39) 9 mixed (w39Gok N) Tryz.func39 (by kernel_rfl) rfl rfl rfl rfl (w39oE0 x0 x1 h) ρ).mono fun out H h => KPost.ret rfl h
def labels_find_1_h (N : Nat) : List (TV EE.T) → PV EE.T
  | [u0, u1] => match argS EE 2 u0, argD .str u1 with
    | some x0, some x1 => .opt (labels_find_1 N x0 x1) labels_find_1_u
    | _, _ => .bad
  | _ => .bad
theorem labels_find_1_hok (N : Nat) (us : List (TV EE.T)) : (labels_find_1_h N us).ok fun u => ∀ ρ, ACalls Tryz.prog 39 (us.map (TV.to EE.toEnc ρ)) [] (fun out H => out = .ret (u.to EE.toEnc ρ) ∧ H = []) := by
  unfold labels_find_1_h
  split
  · split
    · rename_i h0 h1
      intro z hz ρ; refine acalls_le ?_ (labels_find_1_ok _ _ hz ρ); exact ⟨argS_le h0 ρ, argD_le h1 ρ, trivial⟩
    · trivial
  · trivial
/-! ### slices.BinarySearchFunc[[]gleaner/api.Label,gleaner/api.Label,string] -/
def slices_BinarySearchFunc_api_Label_api_Label_string__i0_u (r : Int × Bool) : TV EE.T := .tu [.a (.d (.int .i64) r.1), .a (.d .bool r.2)]
def w38i0hh (r : Int × Bool) : List (Nat × TB EE.T) := []
def w38i0enc (r : Int × Bool) : RL EE.T := .ret (slices_BinarySearchFunc_api_Label_api_Label_string__i0_u r) (w38i0hh r)
def w38i0lv : Lvs := ⟨[], [(3, ⟨[(0, false), (1, false), (2, false), (8, false), (9, false), (10, false)], [], []⟩)], [], [], false, [], []⟩
def w38i0rs : List ResultVar := [.tmp 6, .tmp 7]
def w38i0G (N : Nat) : Gam EE := ⟨[], EQT, [⟨39, xOf (labels_find_1_h N)⟩], []⟩
theorem w38i0Gok (N : Nat) : GOk Tryz.prog TT EE (w38i0G N) := GOk.consx (xOf_ok (labels_find_1_hok N)) (GOk.nil EQT_ok)
def w38i0kL3 (c : Code) : List It2 := atL 3 c
def w38i0sL3 (x0 : List VLabel) (x1 : List UInt8) (x8 : Int) (x9 : Int) (x10 : Int) : TS EE.T := ⟨49, [(0, .a (.d (.sl (.nam 2)) x0)), (1, .a (.d .str x1)), (2, .fn 39 []), (8, .a (.d (.int .i64) x8)), (9, .a (.d (.int .i64) x9)), (10, .a (.d (.int .i64) x10))], [], []⟩
def w38i0kE0 (c : Code) : List It2 := [.c c]
def w38i0sE0 (x0 : List VLabel) (x1 : List UInt8) : TS EE.T := ⟨49, [(0, .a (.d (.sl (.nam 2)) x0)), (1, .a (.d .str x1)), (2, .fn 39 [])], [], []⟩
def w38i0TL3 (c : Code) (N : Nat) (n : Nat) (x0 : List VLabel) (x1 : List UInt8) (x8 : Int) (x9 : Int) (x10 : Int) : Tree (Lf EE.T × Option (Int × Bool)) :=
  .cond (decide (x9 < x10))
  (
    .bnd (shrC .u64 (IntKind.wrap .u64 (w64 (x9 + x10))) 1) fun z1 =>
    .bnd (idxC x0 (w64 z1)) fun z2 =>
    .bnd (labels_find_1 N z2 x1) fun z3 =>
    .cond (decide (z3 < 0))
    (
      .leaf (.go (w38i0kL3 c) (w38i0sL3 x0 x1 x8 (w64 ((w64 z1) + 1)) x10), slices_BinarySearchFunc_api_Label_api_Label_string__i0_L3 N n x0 x1 x8 (w64 ((w64 z1) + 1)) x10))
    (
      .leaf (.go (w38i0kL3 c) (w38i0sL3 x0 x1 x8 x9 (w64 z1)), slices_BinarySearchFunc_api_Label_api_Label_string__i0_L3 N n x0 x1 x8 x9 (w64 z1))))
  (
    .cond (decide (x9 < x8))
    (
      .bnd (idxC x0 x9) fun z4 =>
      .bnd (labels_find_1 N z4 x1) fun z5 =>
      .leaf (.done (w38i0enc (x9, z5 == 0)), some (x9, z5 == 0)))
    (
      .leaf (.done (w38i0enc (x9, false)), some (x9, false))))
theorem w38i0vL3 (N : Nat) (n : Nat) (x0 : List VLabel) (x1 : List UInt8) (x8 : Int) (x9 : Int) (x10 : Int) : evM TT EE (w38i0G N) w38i0lv w38i0rs 4000 true (w38i0kL3 (bodyOf 0 Tryz.f38)) (w38i0sL3 x0 x1 x8 x9 x10) = (w38i0TL3 (bodyOf 0 Tryz.f38) N n x0 x1 x8 x9 x10).map1 := by kernel_rfl
theorem w38i0nL3 (N : Nat) (n : Nat) (x0 : List VLabel) (x1 : List UInt8) (x8 : Int) (x9 : Int) (x10 : Int) : slices_BinarySearchFunc_api_Label_api_Label_string__i0_L3 N (n + 1) x0 x1 x8 x9 x10 = (w38i0TL3 (bodyOf 0 Tryz.f38) N n x0 x1 x8 x9 x10).run := by kernel_rfl
theorem w38i0oL3 {N : Nat} {r : Int × Bool} : ∀ (n : Nat) (x0 : List VLabel) (x1 : List UInt8) (x8 : Int) (x9 : Int) (x10 : Int), slices_BinarySearchFunc_api_Label_api_Label_string__i0_L3 N n x0 x1 x8 x9 x10 = some r → Ends (Y := TT) EE (w38i0G N) w38i0lv w38i0rs (fun u => u = w38i0enc r) (w38i0kL3 (bodyOf 0 Tryz.f38)) (w38i0sL3 x0 x1 x8 x9 x10)
  | 0, _, _, _, _, _, h => by cases h
  | n + 1, x0, x1, x8, x9, x10, h => tree_use (w38i0vL3 N n x0 x1 x8 x9 x10) (w38i0nL3 N n x0 x1 x8 x9 x10) h (show (w38i0TL3 (bodyOf 0 Tryz.f38) N n x0 x1 x8 x9 x10).all _ from ⟨fun _ => fun _ => fun _ => ⟨fun h => (w38i0oL3 n) _ _ _ _ _ h, fun h => (w38i0oL3 n) _ _ _ _ _ h⟩, ⟨fun _ => fun _ => retp (enc := w38i0enc) rfl, retp (enc := w38i0enc) rfl⟩⟩)
def w38i0TE0 (c : Code) (N : Nat) (x0 : List VLabel) (x1 : List UInt8) : Tree (Lf EE.T × Option (Int × Bool)) :=
  .leaf (.go (w38i0kL3 c) (w38i0sL3 x0 x1 (x0.length : Int) 0 (x0.length : Int)), slices_BinarySearchFunc_api_Label_api_Label_string__i0_L3 N N x0 x1 (x0.length : Int) 0 (x0.length : Int))
theorem w38i0vE0 (N : Nat) (x0 : List VLabel) (x1 : List UInt8) : evM TT EE (w38i0G N) w38i0lv w38i0rs 4000 true (w38i0kE0 (bodyOf 0 Tryz.f38)) (w38i0sE0 x0 x1) = (w38i0TE0 (bodyOf 0 Tryz.f38) N x0 x1).map1 := by kernel_rfl
theorem w38i0nE0 (N : Nat) (x0 : List VLabel) (x1 : List UInt8) : slices_BinarySearchFunc_api_Label_api_Label_string__i0 N x0 x1 = (w38i0TE0 (bodyOf 0 Tryz.f38) N x0 x1).run := by kernel_rfl
theorem w38i0oE0 {N : Nat} {r : Int × Bool} (x0 : List VLabel) (x1 : List UInt8) (h : slices_BinarySearchFunc_api_Label_api_Label_string__i0 N x0 x1 = some r) : Ends (Y := TT) EE (w38i0G N) w38i0lv w38i0rs (fun u => u = w38i0enc r) (w38i0kE0 (bodyOf 0 Tryz.f38)) (w38i0sE0 x0 x1) :=
  tree_use (w38i0vE0 N x0 x1) (w38i0nE0 N x0 x1) h (show (w38i0TE0 (bodyOf 0 Tryz.f38) N x0 x1).all _ from fun h => w38i0oL3 N _ _ _ _ _ h)
def w38i0us (x0 : List VLabel) (x1 : List UInt8) : List (TV EE.T) := [.a (.d (.sl (.nam 2)) x0), .a (.d .str x1), .fn 39 []]
def w38i0h0 (x0 : List VLabel) (x1 : List UInt8) : List (Nat × TB EE.T) := []
theorem slices_BinarySearchFunc_api_Label_api_Label_string__i0_ok {N : Nat} (x0 : List VLabel) (x1 : List UInt8) {r : Int × Bool} (h : slices_BinarySearchFunc_api_Label_api_Label_string__i0 N x0 x1 = some r) (ρ : Nat → Nat) (hi : Inj ρ (w38i0h0 x0 x1)) : ACalls Tryz.prog 38 ((w38i0us x0 x1).map (TV.to EE.toEnc ρ)) (hTo EE.toEnc ρ (w38i0h0 x0 x1)) (fun out H => out = .ret ((slices_BinarySearchFunc_api_Label_api_Label_string__i0_u r).to EE.toEnc ρ) ∧ H = hTo EE.toEnc ρ (w38i0hh r)) :=
  (fn_okH (bodyOf 0 Tryz.f38) 49 mixed (w38i0Gok N) Tryz.func38 (by kernel_rfl) rfl rfl rfl rfl (w38i0oE0 x0 x1 h) ρ hi).mono fun out H h => KPost.retH rfl rfl h
def slices_BinarySearchFunc_api_Label_api_Label_string__i0_h (N : Nat) (us : List (TV EE.T)) (hs : List (Nat × TB EE.T)) : XR EE.T :=
  gdX (lenX us 3) <|
  bnX (aD (.sl (.nam 2)) us 0) fun x0 =>
  bnX (aD .str us 1) fun x1 =>
  bnX (aF 39 us 2) fun c2 =>
  bnX (cbs c2) fun s2 =>
  gdX (lenX s2 0) <|
  gdX (goodIds hs []) <|
  .ret (slices_BinarySearchFunc_api_Label_api_Label_string__i0 N x0 x1) [] slices_BinarySearchFunc_api_Label_api_Label_string__i0_u (w38i0hh)
theorem slices_BinarySearchFunc_api_Label_api_Label_string__i0_hok (N : Nat) : XOk Tryz.prog EE 38 (slices_BinarySearchFunc_api_Label_api_Label_string__i0_h N) := fun us hs =>
  gdX_ok fun h1 => bnX_ok fun x0 h2 => bnX_ok fun x1 h3 => bnX_ok fun c2 h4 => bnX_ok fun s2 h5 => gdX_ok fun h6 => gdX_ok fun h7 => fun z hz => ⟨rfl, fun ρ hi => xcall (us' := w38i0us x0 x1) (h0 := w38i0h0 x0 x1) (ρ' := rhoS ρ []) ⟨aD_le h2, aD_le h3, aF_le (js := []) h4 h5 (by rw [lis0 (lenX_ok h6)];  kernel_rfl), lenX_ok h1⟩ trivial (slices_BinarySearchFunc_api_Label_api_Label_string__i0_ok x0 x1 hz _ (rhoS_inj hi h7 _ (by kernel_rfl))) (fun out H h => ⟨h.1.trans (by kernel_rfl), h.2.trans (by kernel_rfl)⟩)⟩
/-! ### gleaner/labels.find -/
def labels_find_u (r : Int × Bool) : TV EE.T := .tu [.a (.d (.int .i64) r.1), .a (.d .bool r.2)]
def w30enc (r : Int × Bool) : RL EE.T := .ret (labels_find_u r) []
def w30lv : Lvs := ⟨[], [], [], [], false, [], []⟩
def w30rs : List ResultVar := [.tmp 4, .tmp 5]
def w30G (N : Nat) : Gam EE := ⟨[], EQT, [⟨38, slices_BinarySearchFunc_api_Label_api_Label_string__i0_h N⟩], []⟩
theorem w30Gok (N : Nat) : GOk Tryz.prog TT EE (w30G N) := GOk.consx (slices_BinarySearchFunc_api_Label_api_Label_string__i0_hok N) (GOk.nil EQT_ok)
def w30kE0 (c : Code) : List It2 := [.c c]
def w30sE0 (x0 : List VLabel) (x1 : List UInt8) : TS EE.T := ⟨11, [(0, .a (.d (.sl (.nam 2)) x0)), (1, .a (.d .str x1))], [], []⟩
def w30TE0 (c : Code) (N : Nat) (x0 : List VLabel) (x1 : List UInt8) : Tree (Lf EE.T × Option (Int × Bool)) :=
  .bnd (slices_BinarySearchFunc_api_Label_api_Label_string__i0 N x0 x1) fun z1 =>
  .leaf (.done (w30enc (z1.1, z1.2)), some (z1.1, z1.2))
theorem w30vE0 (N : Nat) (x0 : List VLabel) (x1 : List UInt8) : evM TT EE (w30G N) w30lv w30rs 4000 true (w30kE0 (bodyOf 0 Tryz.f30)) (w30sE0 x0 x1) = (w30TE0 (bodyOf 0 Tryz.f30) N x0 x1).map1 := by kernel_rfl
theorem w30nE0 (N : Nat) (x0 : List VLabel) (x1 : List UInt8) : labels_find N x0 x1 = (w30TE0 (bodyOf 0 Tryz.f30) N x0 x1).run := by kernel_rfl
theorem w30oE0 {N : Nat} {r : Int × Bool} (x0 : List VLabel) (x1 : List UInt8) (h : labels_find N x0 x1 = some r) : Ends (Y := TT) EE (w30G N) w30lv w30rs (fun u => u = w30enc r) (w30kE0 (bodyOf 0 Tryz.f30)) (w30sE0 x0 x1) :=
  tree_use (w30vE0 N x0 x1) (w30nE0 N x0 x1) h (show (w30TE0 (bodyOf 0 Tryz.f30) N x0 x1).all _ from fun _ => retp (enc := w30enc) rfl)
theorem labels_find_ok {N : Nat} (x0 : List VLabel) (x1 : List UInt8) {r : Int × Bool} (h : labels_find N x0 x1 = some r) (ρ : Nat → Nat) : ACalls Tryz.prog 30 (([.a (.d (.sl (.nam 2)) x0), .a (.d .str x1)] : List (TV EE.T)).map (TV.to EE.toEnc ρ)) [] (fun out H => out = .ret ((labels_find_u r).to EE.toEnc ρ) ∧ H = []) :=
  (fn_ok (bodyOf 0 Tryz.f30) 11 mixed (w30Gok N) Tryz.func30 (by kernel_rfl) rfl rfl rfl rfl (w30oE0 x0 x1 h) ρ).mono fun out H h => KPost.ret rfl h
def labels_find_h (N : Nat) : List (TV EE.T) → PV EE.T
  | [u0, u1] => match argD (.sl (.nam 2)) u0, argD .str u1 with
    | some x0, some x1 => .opt (labels_find N x0 x1) labels_find_u
    | _, _ => .bad
  | _ => .bad
theorem labels_find_hok (N : Nat) (us : List (TV EE.T)) : (labels_find_h N us).ok fun u => ∀ ρ, ACalls Tryz.prog 30 (us.map (TV.to EE.toEnc ρ)) [] (fun out H => out = .ret (u.to EE.toEnc ρ) ∧ H = []) := by
  unfold labels_find_h
  split
  · split
    · rename_i h0 h1
      intro z hz ρ; refine acalls_le ?_ (labels_find_ok _ _ hz ρ); exact ⟨argD_le h0 ρ, argD_le h1 ρ, trivial⟩
    · trivial
  · trivial
/-! ### gleaner/labels.Value -/
def labels_Value_u (r : List UInt8) : TV EE.T := .a (.d .str r)
def w19enc (r : List UInt8) : RL EE.T := .ret (labels_Value_u r) []
def w19lv : Lvs := ⟨[], [], [], [], false, [], []⟩
def w19rs : List ResultVar := [.tmp 4]
def w19G (N : Nat) : Gam EE := ⟨[⟨30, labels_find_h N⟩], EQT, [], []⟩
theorem w19Gok (N : Nat) : GOk Tryz.prog TT EE (w19G N) := GOk.cons (labels_find_hok N) (GOk.nil EQT_ok)
def w19kE0 (c : Code) : List It2 := [.c c]
def w19sE0 (x0 : List VLabel) (x1 : List UInt8) : TS EE.T := ⟨19, [(0, .a (.d (.sl (.nam 2)) x0)), (1, .a (.d .str x1))], [], []⟩
def w19TE0 (c : Code) (N : Nat) (x0 : List VLabel) (x1 : List UInt8) : Tree (Lf EE.T × Option (List UInt8)) :=
  .bnd (labels_find N x0 x1) fun z1 =>
  .cond (z1.2)
  (
    .bnd (idxC x0 z1.1) fun z2 =>
    .leaf (.done (w19enc z2.Value), some z2.Value))
  (
    .leaf (.done (w19enc ([] : List UInt8)), some ([] : List UInt8)))
theorem w19vE0 (N : Nat) (x0 : List VLabel) (x1 : List UInt8) : evM TT EE (w19G N) w19lv w19rs 4000 true (w19kE0 (bodyOf 0 Tryz.f19)) (w19sE0 x0 x1) = (w19TE0 (bodyOf 0 Tryz.f19) N x0 x1).map1 := by kernel_rfl
theorem w19nE0 (N : Nat) (x0 : List VLabel) (x1 : List UInt8) : labels_Value N x0 x1 = (w19TE0 (bodyOf 0 Tryz.f19) N x0 x1).run := by kernel_rfl
theorem w19oE0 {N : Nat} {r : List UInt8} (x0 : List VLabel) (x1 : List UInt8) (h : labels_Value N x0 x1 = some r) : Ends (Y := TT) EE (w19G N) w19lv w19rs (fun u => u = w19enc r) (w19kE0 (bodyOf 0 Tryz.f19)) (w19sE0 x0 x1) :=
  tree_use (w19vE0 N x0 x1) (w19nE0 N x0 x1) h (show (w19TE0 (bodyOf 0 Tryz.f19) N x0 x1).all _ from fun _ => ⟨fun _ => retp (enc := w19enc) rfl, retp (enc := w19enc) rfl⟩)
theorem labels_Value_ok {N : Nat} (x0 : List VLabel) (x1 : List UInt8) {r : List UInt8} (h : labels_Value N x0 x1 = some r) (ρ : Nat → Nat) : ACalls Tryz.prog 19 (([.a (.d (.sl (.nam 2)) x0), .a (.d .str x1)] : List (TV EE.T)).map (TV.to EE.toEnc ρ)) [] (fun out H => out = .ret ((labels_Value_u r).to EE.toEnc ρ) ∧ H = []) :=
  (fn_ok (bodyOf 0 Tryz.f19) 19 mixed (w19Gok N) Tryz.func19 (by kernel_rfl) rfl rfl rfl rfl (w19oE0 x0 x1 h) ρ).mono fun out H h => KPost.ret rfl h
def labels_Value_h (N : Nat) : List (TV EE.T) → PV EE.T
  | [u0, u1] => match argD (.sl (.nam 2)) u0, argD .str u1 with
    | some x0, some x1 => .opt (labels_Value N x0 x1) labels_Value_u
    | _, _ => .bad
  | _ => .bad
theorem labels_Value_hok (N : Nat) (us : List (TV EE.T)) : (labels_Value_h N us).ok fun u => ∀ ρ, ACalls Tryz.prog 19 (us.map (TV.to EE.toEnc ρ)) [] (fun out H => out = .ret (u.to EE.toEnc ρ) ∧ H = []) := by
  unfold labels_Value_h
  split
  · split
    · rename_i h0 h1
      intro z hz ρ; refine acalls_le ?_ (labels_Value_ok _ _ hz ρ); exact ⟨argD_le h0 ρ, argD_le h1 ρ, trivial⟩
    · trivial
  · trivial
end Go.Proofs.YtbpgpfigndlohaaGreat
