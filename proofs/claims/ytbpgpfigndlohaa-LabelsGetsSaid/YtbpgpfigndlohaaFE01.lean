/- The walks that prove plain functions right, written by gen/tgl.py. -/
import Derived.Test.YtbpgpfigndlohaaFE01p
import Derived.Test.YtbpgpfigndlohaaIN2
namespace Go.Proofs.Ytbpgpfigndlohaa
open Go.RowKit P
set_option linter.unusedVariables false
set_option linter.unusedSimpArgs false
set_option maxRecDepth 100000
/-! ### gleaner/labels.each -/
def labels_each_u (r : Int) : TV EE.T := .a (.d (.int .i64) r)
def w26enc (r : Int) : RL EE.T := .ret (labels_each_u r) []
def w26lv : Lvs := ⟨[(9, ⟨[(0, false), (1, false), (6, false), (13, false), (14, false), (15, false)], [], [(6, (some 2, []))]⟩)], [(4, ⟨[(0, false), (1, false), (13, false), (14, false), (15, false)], [], []⟩), (14, ⟨[(7, false), (38, false), (39, false), (40, false)], [], [(37, (none, []))]⟩)], [9], [], false, [], []⟩
def w26rs : List ResultVar := [.tmp 4]
def w26G (N : Nat) : Gam EE := ⟨[⟨11, labels_IsName_h N⟩], EQT, [], []⟩
theorem w26Gok (N : Nat) : GOk Try.prog TT EE (w26G N) := GOk.cons (labels_IsName_hok N) (GOk.nil EQT_ok)
def w26kR9 (c : Code) : List It2 := atR 9 c
def w26sR9 (x0 : List VLabel) (x1 : Bool) (x13 : List VLabel) (x14 : Int) (x15 : Int) (b6 : VLabel) : TS EE.T := ⟨52, [(0, .a (.d (.sl (.nam 2)) x0)), (1, .a (.d .bool x1)), (6, .a (.box 6 0)), (13, .a (.d (.sl (.nam 2)) x13)), (14, .a (.d (.int .i64) x14)), (15, .a (.d (.int .i64) x15))], [(6, .cs (unpT EE (.nam 2) b6))], []⟩
def w26kL14 (c : Code) : List It2 := atL 14 c
def w26sL14 (x38 : List VLabel) (x39 : Int) (x40 : Int) (b37 : List (List UInt8 × Bool)) : TS EE.T := ⟨52, [(7, .a (.mpr 37)), (38, .a (.d (.sl (.nam 2)) x38)), (39, .a (.d (.int .i64) x39)), (40, .a (.d (.int .i64) x40))], [(37, .smap .bool b37)], []⟩
def w26kL4 (c : Code) : List It2 := atL 4 c
def w26sL4 (x0 : List VLabel) (x1 : Bool) (x13 : List VLabel) (x14 : Int) (x15 : Int) : TS EE.T := ⟨52, [(0, .a (.d (.sl (.nam 2)) x0)), (1, .a (.d .bool x1)), (13, .a (.d (.sl (.nam 2)) x13)), (14, .a (.d (.int .i64) x14)), (15, .a (.d (.int .i64) x15))], [], []⟩
def w26kE0 (c : Code) : List It2 := [.c c]
def w26sE0 (x0 : List VLabel) (x1 : Bool) : TS EE.T := ⟨52, [(0, .a (.d (.sl (.nam 2)) x0)), (1, .a (.d .bool x1))], [], []⟩
def w26TR9 (c : Code) (N : Nat) (k4 : (List VLabel) → Bool → (List VLabel) → Int → Int → Option Int) (n : Nat) (x0 : List VLabel) (x1 : Bool) (x13 : List VLabel) (x14 : Int) (x15 : Int) (b6 : VLabel) : Tree (Lf EE.T × Option Int) :=
  .cond (decide ((b6.Value.length : Int) > 100))
  (
    .leaf (.done (w26enc 2), some 2))
  (
    .leaf (.go (w26kL4 c) (w26sL4 x0 x1 x13 x14 (w64 (x15 + 1))), k4 x0 x1 x13 x14 (w64 (x15 + 1))))
theorem w26vR9 (N : Nat) (k4 : (List VLabel) → Bool → (List VLabel) → Int → Int → Option Int) (n : Nat) (x0 : List VLabel) (x1 : Bool) (x13 : List VLabel) (x14 : Int) (x15 : Int) (b6 : VLabel) : evM TT EE (w26G N) w26lv w26rs 4000 true (w26kR9 (bodyOf 0 Try.f26)) (w26sR9 x0 x1 x13 x14 x15 b6) = (w26TR9 (bodyOf 0 Try.f26) N k4 n x0 x1 x13 x14 x15 b6).map1 := by kernel_rfl
theorem w26nR9 (N : Nat) (k4 : (List VLabel) → Bool → (List VLabel) → Int → Int → Option Int) (n : Nat) (x0 : List VLabel) (x1 : Bool) (x13 : List VLabel) (x14 : Int) (x15 : Int) (b6 : VLabel) : labels_each_R9 N k4 n x0 x1 x13 x14 x15 b6 = (w26TR9 (bodyOf 0 Try.f26) N k4 n x0 x1 x13 x14 x15 b6).run := by kernel_rfl
theorem w26oR9 {N : Nat} {r : Int} {k4 : (List VLabel) → Bool → (List VLabel) → Int → Int → Option Int} (hk4 : ∀ x0 x1 x13 x14 x15, k4 x0 x1 x13 x14 x15 = some r → Ends (Y := TT) EE (w26G N) w26lv w26rs (fun u => u = w26enc r) (w26kL4 (bodyOf 0 Try.f26)) (w26sL4 x0 x1 x13 x14 x15)) (n : Nat) (x0 : List VLabel) (x1 : Bool) (x13 : List VLabel) (x14 : Int) (x15 : Int) (b6 : VLabel) (h : labels_each_R9 N k4 n x0 x1 x13 x14 x15 b6 = some r) : Ends (Y := TT) EE (w26G N) w26lv w26rs (fun u => u = w26enc r) (w26kR9 (bodyOf 0 Try.f26)) (w26sR9 x0 x1 x13 x14 x15 b6) :=
  tree_use (w26vR9 N k4 n x0 x1 x13 x14 x15 b6) (w26nR9 N k4 n x0 x1 x13 x14 x15 b6) h (show (w26TR9 (bodyOf 0 Try.f26) N k4 n x0 x1 x13 x14 x15 b6).all _ from ⟨retp (enc := w26enc) rfl, fun h => hk4 _ _ _ _ _ h⟩)
def w26TL14 (c : Code) (N : Nat) (n : Nat) (x38 : List VLabel) (x39 : Int) (x40 : Int) (b37 : List (List UInt8 × Bool)) : Tree (Lf EE.T × Option Int) :=
  .cond (decide (x40 < x39))
  (
    .bnd (idxC x38 x40) fun z3 =>
    .cond ((mget b37 z3.Name).getD false)
    (
      .leaf (.done (w26enc 6), some 6))
    (
      .leaf (.go (w26kL14 c) (w26sL14 x38 x39 (w64 (x40 + 1)) (mset b37 z3.Name true)), labels_each_L14 N n x38 x39 (w64 (x40 + 1)) (mset b37 z3.Name true))))
  (
    .leaf (.done (w26enc 0), some 0))
theorem w26vL14 (N : Nat) (n : Nat) (x38 : List VLabel) (x39 : Int) (x40 : Int) (b37 : List (List UInt8 × Bool)) : evM TT EE (w26G N) w26lv w26rs 4000 true (w26kL14 (bodyOf 0 Try.f26)) (w26sL14 x38 x39 x40 b37) = (w26TL14 (bodyOf 0 Try.f26) N n x38 x39 x40 b37).map1 := by kernel_rfl
theorem w26nL14 (N : Nat) (n : Nat) (x38 : List VLabel) (x39 : Int) (x40 : Int) (b37 : List (List UInt8 × Bool)) : labels_each_L14 N (n + 1) x38 x39 x40 b37 = (w26TL14 (bodyOf 0 Try.f26) N n x38 x39 x40 b37).run := by kernel_rfl
theorem w26oL14 {N : Nat} {r : Int} : ∀ (n : Nat) (x38 : List VLabel) (x39 : Int) (x40 : Int) (b37 : List (List UInt8 × Bool)), labels_each_L14 N n x38 x39 x40 b37 = some r → Ends (Y := TT) EE (w26G N) w26lv w26rs (fun u => u = w26enc r) (w26kL14 (bodyOf 0 Try.f26)) (w26sL14 x38 x39 x40 b37)
  | 0, _, _, _, _, h => by cases h
  | n + 1, x38, x39, x40, b37, h => tree_use (w26vL14 N n x38 x39 x40 b37) (w26nL14 N n x38 x39 x40 b37) h (show (w26TL14 (bodyOf 0 Try.f26) N n x38 x39 x40 b37).all _ from ⟨fun _ => ⟨retp (enc := w26enc) rfl, fun h => (w26oL14 n) _ _ _ _ h⟩, retp (enc := w26enc) rfl⟩)
def w26TL4 (c : Code) (N : Nat) (n : Nat) (x0 : List VLabel) (x1 : Bool) (x13 : List VLabel) (x14 : Int) (x15 : Int) : Tree (Lf EE.T × Option Int) :=
  .cond (decide (x15 < x14))
  (
    .bnd (idxC x13 x15) fun z1 =>
    .bnd (labels_IsName N z1.Name) fun z2 =>
    .cond (!z2)
    (
      .leaf (.done (w26enc 1), some 1))
    (
      .cond (decide (z1.Value = ([] : List UInt8)))
      (
        .cond (!x1)
        (
          .leaf (.done (w26enc 1), some 1))
        (
          .leaf (.go (w26kR9 c) (w26sR9 x0 x1 x13 x14 x15 z1), labels_each_R9 N (labels_each_L4 N n) n x0 x1 x13 x14 x15 z1)))
      (
        .leaf (.go (w26kR9 c) (w26sR9 x0 x1 x13 x14 x15 z1), labels_each_R9 N (labels_each_L4 N n) n x0 x1 x13 x14 x15 z1))))
  (
    .leaf (.go (w26kL14 c) (w26sL14 x0 (x0.length : Int) 0 ([] : List (List UInt8 × Bool))), labels_each_L14 N n x0 (x0.length : Int) 0 ([] : List (List UInt8 × Bool))))
theorem w26vL4 (N : Nat) (n : Nat) (x0 : List VLabel) (x1 : Bool) (x13 : List VLabel) (x14 : Int) (x15 : Int) : evM TT EE (w26G N) w26lv w26rs 4000 true (w26kL4 (bodyOf 0 Try.f26)) (w26sL4 x0 x1 x13 x14 x15) = (w26TL4 (bodyOf 0 Try.f26) N n x0 x1 x13 x14 x15).map1 := by kernel_rfl
theorem w26nL4 (N : Nat) (n : Nat) (x0 : List VLabel) (x1 : Bool) (x13 : List VLabel) (x14 : Int) (x15 : Int) : labels_each_L4 N (n + 1) x0 x1 x13 x14 x15 = (w26TL4 (bodyOf 0 Try.f26) N n x0 x1 x13 x14 x15).run := by kernel_rfl
theorem w26oL4 {N : Nat} {r : Int} : ∀ (n : Nat) (x0 : List VLabel) (x1 : Bool) (x13 : List VLabel) (x14 : Int) (x15 : Int), labels_each_L4 N n x0 x1 x13 x14 x15 = some r → Ends (Y := TT) EE (w26G N) w26lv w26rs (fun u => u = w26enc r) (w26kL4 (bodyOf 0 Try.f26)) (w26sL4 x0 x1 x13 x14 x15)
  | 0, _, _, _, _, _, h => by cases h
  | n + 1, x0, x1, x13, x14, x15, h => tree_use (w26vL4 N n x0 x1 x13 x14 x15) (w26nL4 N n x0 x1 x13 x14 x15) h (show (w26TL4 (bodyOf 0 Try.f26) N n x0 x1 x13 x14 x15).all _ from ⟨fun _ => fun _ => ⟨retp (enc := w26enc) rfl, ⟨⟨retp (enc := w26enc) rfl, fun h => w26oR9 (w26oL4 n) n _ _ _ _ _ _ h⟩, fun h => w26oR9 (w26oL4 n) n _ _ _ _ _ _ h⟩⟩, fun h => w26oL14 n _ _ _ _ h⟩)
def w26TE0 (c : Code) (N : Nat) (x0 : List VLabel) (x1 : Bool) : Tree (Lf EE.T × Option Int) :=
  .cond (decide ((x0.length : Int) > 20))
  (
    .leaf (.done (w26enc 2), some 2))
  (
    .leaf (.go (w26kL4 c) (w26sL4 x0 x1 x0 (x0.length : Int) 0), labels_each_L4 N N x0 x1 x0 (x0.length : Int) 0))
theorem w26vE0 (N : Nat) (x0 : List VLabel) (x1 : Bool) : evM TT EE (w26G N) w26lv w26rs 4000 true (w26kE0 (bodyOf 0 Try.f26)) (w26sE0 x0 x1) = (w26TE0 (bodyOf 0 Try.f26) N x0 x1).map1 := by kernel_rfl
theorem w26nE0 (N : Nat) (x0 : List VLabel) (x1 : Bool) : labels_each N x0 x1 = (w26TE0 (bodyOf 0 Try.f26) N x0 x1).run := by kernel_rfl
theorem w26oE0 {N : Nat} {r : Int} (x0 : List VLabel) (x1 : Bool) (h : labels_each N x0 x1 = some r) : Ends (Y := TT) EE (w26G N) w26lv w26rs (fun u => u = w26enc r) (w26kE0 (bodyOf 0 Try.f26)) (w26sE0 x0 x1) :=
  tree_use (w26vE0 N x0 x1) (w26nE0 N x0 x1) h (show (w26TE0 (bodyOf 0 Try.f26) N x0 x1).all _ from ⟨retp (enc := w26enc) rfl, fun h => w26oL4 N _ _ _ _ _ h⟩)
theorem labels_each_ok {N : Nat} (x0 : List VLabel) (x1 : Bool) {r : Int} (h : labels_each N x0 x1 = some r) (ρ : Nat → Nat) : ACalls Try.prog 26 (([.a (.d (.sl (.nam 2)) x0), .a (.d .bool x1)] : List (TV EE.T)).map (TV.to EE.toEnc ρ)) [] (fun out H => out = .ret ((labels_each_u r).to EE.toEnc ρ) ∧ H = []) :=
  (fn_ok (bodyOf 0 Try.f26) 52 mixed (w26Gok N) Try.func26 (by kernel_rfl) rfl rfl rfl rfl (w26oE0 x0 x1 h) ρ).mono fun out H h => KPost.ret rfl h
def labels_each_h (N : Nat) : List (TV EE.T) → PV EE.T
  | [u0, u1] => match argD (.sl (.nam 2)) u0, argD .bool u1 with
    | some x0, some x1 => .opt (labels_each N x0 x1) labels_each_u
    | _, _ => .bad
  | _ => .bad
theorem labels_each_hok (N : Nat) (us : List (TV EE.T)) : (labels_each_h N us).ok fun u => ∀ ρ, ACalls Try.prog 26 (us.map (TV.to EE.toEnc ρ)) [] (fun out H => out = .ret (u.to EE.toEnc ρ) ∧ H = []) := by
  unfold labels_each_h
  split
  · split
    · rename_i h0 h1
      intro z hz ρ; refine acalls_le ?_ (labels_each_ok _ _ hz ρ); exact ⟨argD_le h0 ρ, argD_le h1 ρ, trivial⟩
    · trivial
  · trivial
/-! ### cmp.isNaN[string] -/
def cmp_isNaN_string__u (r : Bool) : TV EE.T := .a (.d .bool r)
def w51enc (r : Bool) : RL EE.T := .ret (cmp_isNaN_string__u r) []
def w51lv : Lvs := ⟨[], [], [], [], false, [], []⟩
def w51rs : List ResultVar := [.tmp 2]
def w51G (N : Nat) : Gam EE := ⟨[], EQT, [], []⟩
theorem w51Gok (N : Nat) : GOk Try.prog TT EE (w51G N) := GOk.nil EQT_ok
def w51kE0 (c : Code) : List It2 := [.c c]
def w51sE0 (x0 : List UInt8) : TS EE.T := ⟨6, [(0, .a (.d .str x0))], [], []⟩
def w51TE0 (c : Code) (N : Nat) (x0 : List UInt8) : Tree (Lf EE.T × Option Bool) :=
  .leaf (.done (w51enc (!decide (x0 = x0))), some (!decide (x0 = x0)))
theorem w51vE0 (N : Nat) (x0 : List UInt8) : evM TT EE (w51G N) w51lv w51rs 4000 true (w51kE0 (bodyOf 0 Try.f51)) (w51sE0 x0) = (w51TE0 (bodyOf 0 Try.f51) N x0).map1 := by kernel_rfl
theorem w51nE0 (N : Nat) (x0 : List UInt8) : cmp_isNaN_string_ N x0 = (w51TE0 (bodyOf 0 Try.f51) N x0).run := by kernel_rfl
theorem w51oE0 {N : Nat} {r : Bool} (x0 : List UInt8) (h : cmp_isNaN_string_ N x0 = some r) : Ends (Y := TT) EE (w51G N) w51lv w51rs (fun u => u = w51enc r) (w51kE0 (bodyOf 0 Try.f51)) (w51sE0 x0) :=
  tree_use (w51vE0 N x0) (w51nE0 N x0) h (show (w51TE0 (bodyOf 0 Try.f51) N x0).all _ from retp (enc := w51enc) rfl)
theorem cmp_isNaN_string__ok {N : Nat} (x0 : List UInt8) {r : Bool} (h : cmp_isNaN_string_ N x0 = some r) (ρ : Nat → Nat) : ACalls Try.prog 51 (([.a (.d .str x0)] : List (TV EE.T)).map (TV.to EE.toEnc ρ)) [] (fun out H => out = .ret ((cmp_isNaN_string__u r).to EE.toEnc ρ) ∧ H = []) :=
  (fn_ok (bodyOf 0 Try.f51) 6 mixed (w51Gok N) Try.func51 (by kernel_rfl) rfl rfl rfl rfl (w51oE0 x0 h) ρ).mono fun out H h => KPost.ret rfl h
def cmp_isNaN_string__h (N : Nat) : List (TV EE.T) → PV EE.T
  | [u0] => match argD .str u0 with
    | some x0 => .opt (cmp_isNaN_string_ N x0) cmp_isNaN_string__u
    | _ => .bad
  | _ => .bad
theorem cmp_isNaN_string__hok (N : Nat) (us : List (TV EE.T)) : (cmp_isNaN_string__h N us).ok fun u => ∀ ρ, ACalls Try.prog 51 (us.map (TV.to EE.toEnc ρ)) [] (fun out H => out = .ret (u.to EE.toEnc ρ) ∧ H = []) := by
  unfold cmp_isNaN_string__h
  split
  · split
    · rename_i h0
      intro z hz ρ; refine acalls_le ?_ (cmp_isNaN_string__ok _ hz ρ); exact ⟨argD_le h0 ρ, trivial⟩
    · trivial
  · trivial
/-! ### cmp.Compare[string] -/
def cmp_Compare_string__u (r : Int) : TV EE.T := .a (.d (.int .i64) r)
def w40enc (r : Int) : RL EE.T := .ret (cmp_Compare_string__u r) []
def w40lv : Lvs := ⟨[], [], [], [], false, [], []⟩
def w40rs : List ResultVar := [.tmp 4]
def w40G (N : Nat) : Gam EE := ⟨[⟨51, cmp_isNaN_string__h N⟩], EQT, [], []⟩
theorem w40Gok (N : Nat) : GOk Try.prog TT EE (w40G N) := GOk.cons (cmp_isNaN_string__hok N) (GOk.nil EQT_ok)
def w40kE0 (c : Code) : List It2 := [.c c]
def w40sE0 (x0 : List UInt8) (x1 : List UInt8) : TS EE.T := ⟨20, [(0, .a (.d .str x0)), (1, .a (.d .str x1))], [], []⟩
def w40TE0 (c : Code) (N : Nat) (x0 : List UInt8) (x1 : List UInt8) : Tree (Lf EE.T × Option Int) :=
  .bnd (cmp_isNaN_string_ N x0) fun z1 =>
  .bnd (cmp_isNaN_string_ N x1) fun z2 =>
  .cond (z1)
  (
    .cond (z2)
    (
      .leaf (.done (w40enc 0), some 0))
    (
      .leaf (.done (w40enc (-1)), some (-1))))
  (
    .cond (z2)
    (
      .leaf (.done (w40enc 1), some 1))
    (
      .cond (Op.bytesLess x0 x1)
      (
        .leaf (.done (w40enc (-1)), some (-1)))
      (
        .cond (!(Op.bytesLess x0 x1 || decide (x0 = x1)))
        (
          .leaf (.done (w40enc 1), some 1))
        (
          .leaf (.done (w40enc 0), some 0)))))
theorem w40vE0 (N : Nat) (x0 : List UInt8) (x1 : List UInt8) : evM TT EE (w40G N) w40lv w40rs 4000 true (w40kE0 (bodyOf 0 Try.f40)) (w40sE0 x0 x1) = (w40TE0 (bodyOf 0 Try.f40) N x0 x1).map1 := by kernel_rfl
theorem w40nE0 (N : Nat) (x0 : List UInt8) (x1 : List UInt8) : cmp_Compare_string_ N x0 x1 = (w40TE0 (bodyOf 0 Try.f40) N x0 x1).run := by kernel_rfl
theorem w40oE0 {N : Nat} {r : Int} (x0 : List UInt8) (x1 : List UInt8) (h : cmp_Compare_string_ N x0 x1 = some r) : Ends (Y := TT) EE (w40G N) w40lv w40rs (fun u => u = w40enc r) (w40kE0 (bodyOf 0 Try.f40)) (w40sE0 x0 x1) :=
  tree_use (w40vE0 N x0 x1) (w40nE0 N x0 x1) h (show (w40TE0 (bodyOf 0 Try.f40) N x0 x1).all _ from fun _ => fun _ => ⟨⟨retp (enc := w40enc) rfl, retp (enc := w40enc) rfl⟩, ⟨retp (enc := w40enc) rfl, ⟨retp (enc := w40enc) rfl, ⟨retp (enc := w40enc) rfl, retp (enc := w40enc) rfl⟩⟩⟩⟩)
theorem cmp_Compare_string__ok {N : Nat} (x0 : List UInt8) (x1 : List UInt8) {r : Int} (h : cmp_Compare_string_ N x0 x1 = some r) (ρ : Nat → Nat) : ACalls Try.prog 40 (([.a (.d .str x0), .a (.d .str x1)] : List (TV EE.T)).map (TV.to EE.toEnc ρ)) [] (fun out H => out = .ret ((cmp_Compare_string__u r).to EE.toEnc ρ) ∧ H = []) :=
  (fn_ok (bodyOf 0 Try.f40) 20 mixed (w40Gok N) Try.func40 (by kernel_rfl) rfl rfl rfl rfl (w40oE0 x0 x1 h) ρ).mono fun out H h => KPost.ret rfl h
def cmp_Compare_string__h (N : Nat) : List (TV EE.T) → PV EE.T
  | [u0, u1] => match argD .str u0, argD .str u1 with
    | some x0, some x1 => .opt (cmp_Compare_string_ N x0 x1) cmp_Compare_string__u
    | _, _ => .bad
  | _ => .bad
theorem cmp_Compare_string__hok (N : Nat) (us : List (TV EE.T)) : (cmp_Compare_string__h N us).ok fun u => ∀ ρ, ACalls Try.prog 40 (us.map (TV.to EE.toEnc ρ)) [] (fun out H => out = .ret (u.to EE.toEnc ρ) ∧ H = []) := by
  unfold cmp_Compare_string__h
  split
  · split
    · rename_i h0 h1
      intro z hz ρ; refine acalls_le ?_ (cmp_Compare_string__ok _ _ hz ρ); exact ⟨argD_le h0 ρ, argD_le h1 ρ, trivial⟩
    · trivial
  · trivial
/-! ### gleaner/labels.byName -/
def labels_byName_u (r : Int) : TV EE.T := .a (.d (.int .i64) r)
def w28enc (r : Int) : RL EE.T := .ret (labels_byName_u r) []
def w28lv : Lvs := ⟨[], [], [], [], false, [], []⟩
def w28rs : List ResultVar := [.tmp 4]
def w28G (N : Nat) : Gam EE := ⟨[⟨40, cmp_Compare_string__h N⟩], EQT, [], []⟩
theorem w28Gok (N : Nat) : GOk Try.prog TT EE (w28G N) := GOk.cons (cmp_Compare_string__hok N) (GOk.nil EQT_ok)
def w28kE0 (c : Code) : List It2 := [.c c]
def w28sE0 (x0 : VLabel) (x1 : VLabel) : TS EE.T := ⟨10, [(0, .ag (unpT EE (.nam 2) x0)), (1, .ag (unpT EE (.nam 2) x1))], [], []⟩
def w28TE0 (c : Code) (N : Nat) (x0 : VLabel) (x1 : VLabel) : Tree (Lf EE.T × Option Int) :=
  .bnd (cmp_Compare_string_ N x0.Name x1.Name) fun z1 =>
  .leaf (.done (w28enc z1), some z1)
theorem w28vE0 (N : Nat) (x0 : VLabel) (x1 : VLabel) : evM TT EE (w28G N) w28lv w28rs 4000 true (w28kE0 (bodyOf 0 Try.f28)) (w28sE0 x0 x1) = (w28TE0 (bodyOf 0 Try.f28) N x0 x1).map1 := by kernel_rfl
theorem w28nE0 (N : Nat) (x0 : VLabel) (x1 : VLabel) : labels_byName N x0 x1 = (w28TE0 (bodyOf 0 Try.f28) N x0 x1).run := by kernel_rfl
theorem w28oE0 {N : Nat} {r : Int} (x0 : VLabel) (x1 : VLabel) (h : labels_byName N x0 x1 = some r) : Ends (Y := TT) EE (w28G N) w28lv w28rs (fun u => u = w28enc r) (w28kE0 (bodyOf 0 Try.f28)) (w28sE0 x0 x1) :=
  tree_use (w28vE0 N x0 x1) (w28nE0 N x0 x1) h (show (w28TE0 (bodyOf 0 Try.f28) N x0 x1).all _ from fun _ => retp (enc := w28enc) rfl)
theorem labels_byName_ok {N : Nat} (x0 : VLabel) (x1 : VLabel) {r : Int} (h : labels_byName N x0 x1 = some r) (ρ : Nat → Nat) : ACalls Try.prog 28 (([.ag (unpT EE (.nam 2) x0), .ag (unpT EE (.nam 2) x1)] : List (TV EE.T)).map (TV.to EE.toEnc ρ)) [] (fun out H => out = .ret ((labels_byName_u r).to EE.toEnc ρ) ∧ H = []) :=
  (fn_ok (bodyOf 0 Try.f28) 10 mixed (w28Gok N) Try.func28 (by kernel_rfl) rfl rfl rfl rfl (w28oE0 x0 x1 h) ρ).mono fun out H h => KPost.ret rfl h
def labels_byName_h (N : Nat) : List (TV EE.T) → PV EE.T
  | [u0, u1] => match argS EE 2 u0, argS EE 2 u1 with
    | some x0, some x1 => .opt (labels_byName N x0 x1) labels_byName_u
    | _, _ => .bad
  | _ => .bad
theorem labels_byName_hok (N : Nat) (us : List (TV EE.T)) : (labels_byName_h N us).ok fun u => ∀ ρ, ACalls Try.prog 28 (us.map (TV.to EE.toEnc ρ)) [] (fun out H => out = .ret (u.to EE.toEnc ρ) ∧ H = []) := by
  unfold labels_byName_h
  split
  · split
    · rename_i h0 h1
      intro z hz ρ; refine acalls_le ?_ (labels_byName_ok _ _ hz ρ); exact ⟨argS_le h0 ρ, argS_le h1 ρ, trivial⟩
    · trivial
  · trivial
/-! ### slices.IsSortedFunc[[]gleaner/api.Label,gleaner/api.Label] -/
def slices_IsSortedFunc_api_Label_api_Label__i0_u (r : Bool) : TV EE.T := .a (.d .bool r)
def w27i0hh (r : Bool) : List (Nat × TB EE.T) := []
def w27i0enc (r : Bool) : RL EE.T := .ret (slices_IsSortedFunc_api_Label_api_Label__i0_u r) (w27i0hh r)
def w27i0lv : Lvs := ⟨[(4, ⟨[(0, false), (1, false), (5, false)], [], []⟩)], [(2, ⟨[(0, false), (1, false), (5, false)], [], []⟩)], [], [], false, [], []⟩
def w27i0rs : List ResultVar := [.tmp 4]
def w27i0G (N : Nat) : Gam EE := ⟨[⟨28, labels_byName_h N⟩], EQT, [], []⟩
theorem w27i0Gok (N : Nat) : GOk Try.prog TT EE (w27i0G N) := GOk.cons (labels_byName_hok N) (GOk.nil EQT_ok)
def w27i0kL2 (c : Code) : List It2 := atL 2 c
def w27i0sL2 (x0 : List VLabel) (x5 : Int) : TS EE.T := ⟨25, [(0, .a (.d (.sl (.nam 2)) x0)), (1, .fn 28 []), (5, .a (.d (.int .i64) x5))], [], []⟩
def w27i0kE0 (c : Code) : List It2 := [.c c]
def w27i0sE0 (x0 : List VLabel) : TS EE.T := ⟨25, [(0, .a (.d (.sl (.nam 2)) x0)), (1, .fn 28 [])], [], []⟩
def w27i0TL2 (c : Code) (N : Nat) (n : Nat) (x0 : List VLabel) (x5 : Int) : Tree (Lf EE.T × Option Bool) :=
  .cond (decide (x5 > 0))
  (
    .bnd (idxC x0 x5) fun z1 =>
    .bnd (idxC x0 (w64 (x5 - 1))) fun z2 =>
    .bnd (labels_byName N z1 z2) fun z3 =>
    .cond (decide (z3 < 0))
    (
      .leaf (.done (w27i0enc false), some false))
    (
      .leaf (.go (w27i0kL2 c) (w27i0sL2 x0 (w64 (x5 - 1))), slices_IsSortedFunc_api_Label_api_Label__i0_L2 N n x0 (w64 (x5 - 1)))))
  (
    .leaf (.done (w27i0enc true), some true))
theorem w27i0vL2 (N : Nat) (n : Nat) (x0 : List VLabel) (x5 : Int) : evM TT EE (w27i0G N) w27i0lv w27i0rs 4000 true (w27i0kL2 (bodyOf 0 Try.f27)) (w27i0sL2 x0 x5) = (w27i0TL2 (bodyOf 0 Try.f27) N n x0 x5).map1 := by kernel_rfl
theorem w27i0nL2 (N : Nat) (n : Nat) (x0 : List VLabel) (x5 : Int) : slices_IsSortedFunc_api_Label_api_Label__i0_L2 N (n + 1) x0 x5 = (w27i0TL2 (bodyOf 0 Try.f27) N n x0 x5).run := by kernel_rfl
theorem w27i0oL2 {N : Nat} {r : Bool} : ∀ (n : Nat) (x0 : List VLabel) (x5 : Int), slices_IsSortedFunc_api_Label_api_Label__i0_L2 N n x0 x5 = some r → Ends (Y := TT) EE (w27i0G N) w27i0lv w27i0rs (fun u => u = w27i0enc r) (w27i0kL2 (bodyOf 0 Try.f27)) (w27i0sL2 x0 x5)
  | 0, _, _, h => by cases h
  | n + 1, x0, x5, h => tree_use (w27i0vL2 N n x0 x5) (w27i0nL2 N n x0 x5) h (show (w27i0TL2 (bodyOf 0 Try.f27) N n x0 x5).all _ from ⟨fun _ => fun _ => fun _ => ⟨retp (enc := w27i0enc) rfl, fun h => (w27i0oL2 n) _ _ h⟩, retp (enc := w27i0enc) rfl⟩)
def w27i0TE0 (c : Code) (N : Nat) (x0 : List VLabel) : Tree (Lf EE.T × Option Bool) :=
  .leaf (.go (w27i0kL2 c) (w27i0sL2 x0 (w64 ((x0.length : Int) - 1))), slices_IsSortedFunc_api_Label_api_Label__i0_L2 N N x0 (w64 ((x0.length : Int) - 1)))
theorem w27i0vE0 (N : Nat) (x0 : List VLabel) : evM TT EE (w27i0G N) w27i0lv w27i0rs 4000 true (w27i0kE0 (bodyOf 0 Try.f27)) (w27i0sE0 x0) = (w27i0TE0 (bodyOf 0 Try.f27) N x0).map1 := by kernel_rfl
theorem w27i0nE0 (N : Nat) (x0 : List VLabel) : slices_IsSortedFunc_api_Label_api_Label__i0 N x0 = (w27i0TE0 (bodyOf 0 Try.f27) N x0).run := by kernel_rfl
theorem w27i0oE0 {N : Nat} {r : Bool} (x0 : List VLabel) (h : slices_IsSortedFunc_api_Label_api_Label__i0 N x0 = some r) : Ends (Y := TT) EE (w27i0G N) w27i0lv w27i0rs (fun u => u = w27i0enc r) (w27i0kE0 (bodyOf 0 Try.f27)) (w27i0sE0 x0) :=
  tree_use (w27i0vE0 N x0) (w27i0nE0 N x0) h (show (w27i0TE0 (bodyOf 0 Try.f27) N x0).all _ from fun h => w27i0oL2 N _ _ h)
def w27i0us (x0 : List VLabel) : List (TV EE.T) := [.a (.d (.sl (.nam 2)) x0), .fn 28 []]
def w27i0h0 (x0 : List VLabel) : List (Nat × TB EE.T) := []
theorem slices_IsSortedFunc_api_Label_api_Label__i0_ok {N : Nat} (x0 : List VLabel) {r : Bool} (h : slices_IsSortedFunc_api_Label_api_Label__i0 N x0 = some r) (ρ : Nat → Nat) (hi : Inj ρ (w27i0h0 x0)) : ACalls Try.prog 27 ((w27i0us x0).map (TV.to EE.toEnc ρ)) (hTo EE.toEnc ρ (w27i0h0 x0)) (fun out H => out = .ret ((slices_IsSortedFunc_api_Label_api_Label__i0_u r).to EE.toEnc ρ) ∧ H = hTo EE.toEnc ρ (w27i0hh r)) :=
  (fn_okH (bodyOf 0 Try.f27) 25 mixed (w27i0Gok N) Try.func27 (by kernel_rfl) rfl rfl rfl rfl (w27i0oE0 x0 h) ρ hi).mono fun out H h => KPost.retH rfl rfl h
def slices_IsSortedFunc_api_Label_api_Label__i0_h (N : Nat) (us : List (TV EE.T)) (hs : List (Nat × TB EE.T)) : XR EE.T :=
  gdX (lenX us 2) <|
  bnX (aD (.sl (.nam 2)) us 0) fun x0 =>
  bnX (aF 28 us 1) fun c1 =>
  bnX (cbs c1) fun s1 =>
  gdX (lenX s1 0) <|
  gdX (goodIds hs []) <|
  .ret (slices_IsSortedFunc_api_Label_api_Label__i0 N x0) [] slices_IsSortedFunc_api_Label_api_Label__i0_u (w27i0hh)
theorem slices_IsSortedFunc_api_Label_api_Label__i0_hok (N : Nat) : XOk Try.prog EE 27 (slices_IsSortedFunc_api_Label_api_Label__i0_h N) := fun us hs =>
  gdX_ok fun h1 => bnX_ok fun x0 h2 => bnX_ok fun c1 h3 => bnX_ok fun s1 h4 => gdX_ok fun h5 => gdX_ok fun h6 => fun z hz => ⟨rfl, fun ρ hi => xcall (us' := w27i0us x0) (h0 := w27i0h0 x0) (ρ' := rhoS ρ []) ⟨aD_le h2, aF_le (js := []) h3 h4 (by rw [lis0 (lenX_ok h5)];  kernel_rfl), lenX_ok h1⟩ trivial (slices_IsSortedFunc_api_Label_api_Label__i0_ok x0 hz _ (rhoS_inj hi h6 _ (by kernel_rfl))) (fun out H h => ⟨h.1.trans (by kernel_rfl), h.2.trans (by kernel_rfl)⟩)⟩
/-! ### gleaner/labels.Check -/
def labels_Check_u (r : Int) : TV EE.T := .a (.d (.int .i64) r)
def w13enc (r : Int) : RL EE.T := .ret (labels_Check_u r) []
def w13lv : Lvs := ⟨[], [], [], [], false, [], []⟩
def w13rs : List ResultVar := [.tmp 2]
def w13G (N : Nat) : Gam EE := ⟨[⟨26, labels_each_h N⟩], EQT, [⟨27, slices_IsSortedFunc_api_Label_api_Label__i0_h N⟩], []⟩
theorem w13Gok (N : Nat) : GOk Try.prog TT EE (w13G N) := GOk.cons (labels_each_hok N) (GOk.consx (slices_IsSortedFunc_api_Label_api_Label__i0_hok N) (GOk.nil EQT_ok))
def w13kE0 (c : Code) : List It2 := [.c c]
def w13sE0 (x0 : List VLabel) : TS EE.T := ⟨12, [(0, .a (.d (.sl (.nam 2)) x0))], [], []⟩
def w13TE0 (c : Code) (N : Nat) (x0 : List VLabel) : Tree (Lf EE.T × Option Int) :=
  .bnd (labels_each N x0 false) fun z1 =>
  .cond (z1 != 0)
  (
    .leaf (.done (w13enc z1), some z1))
  (
    .bnd (slices_IsSortedFunc_api_Label_api_Label__i0 N x0) fun z2 =>
    .cond (!z2)
    (
      .leaf (.done (w13enc 4), some 4))
    (
      .leaf (.done (w13enc 0), some 0)))
theorem w13vE0 (N : Nat) (x0 : List VLabel) : evM TT EE (w13G N) w13lv w13rs 4000 true (w13kE0 (bodyOf 0 Try.f13)) (w13sE0 x0) = (w13TE0 (bodyOf 0 Try.f13) N x0).map1 := by kernel_rfl
theorem w13nE0 (N : Nat) (x0 : List VLabel) : labels_Check N x0 = (w13TE0 (bodyOf 0 Try.f13) N x0).run := by kernel_rfl
theorem w13oE0 {N : Nat} {r : Int} (x0 : List VLabel) (h : labels_Check N x0 = some r) : Ends (Y := TT) EE (w13G N) w13lv w13rs (fun u => u = w13enc r) (w13kE0 (bodyOf 0 Try.f13)) (w13sE0 x0) :=
  tree_use (w13vE0 N x0) (w13nE0 N x0) h (show (w13TE0 (bodyOf 0 Try.f13) N x0).all _ from fun _ => ⟨retp (enc := w13enc) rfl, fun _ => ⟨retp (enc := w13enc) rfl, retp (enc := w13enc) rfl⟩⟩)
theorem labels_Check_ok {N : Nat} (x0 : List VLabel) {r : Int} (h : labels_Check N x0 = some r) (ρ : Nat → Nat) : ACalls Try.prog 13 (([.a (.d (.sl (.nam 2)) x0)] : List (TV EE.T)).map (TV.to EE.toEnc ρ)) [] (fun out H => out = .ret ((labels_Check_u r).to EE.toEnc ρ) ∧ H = []) :=
  (fn_ok (bodyOf 0 Try.f13) 12 mixed (w13Gok N) Try.func13 (by kernel_rfl) rfl rfl rfl rfl (w13oE0 x0 h) ρ).mono fun out H h => KPost.ret rfl h
def labels_Check_h (N : Nat) : List (TV EE.T) → PV EE.T
  | [u0] => match argD (.sl (.nam 2)) u0 with
    | some x0 => .opt (labels_Check N x0) labels_Check_u
    | _ => .bad
  | _ => .bad
theorem labels_Check_hok (N : Nat) (us : List (TV EE.T)) : (labels_Check_h N us).ok fun u => ∀ ρ, ACalls Try.prog 13 (us.map (TV.to EE.toEnc ρ)) [] (fun out H => out = .ret (u.to EE.toEnc ρ) ∧ H = []) := by
  unfold labels_Check_h
  split
  · split
    · rename_i h0
      intro z hz ρ; refine acalls_le ?_ (labels_Check_ok _ hz ρ); exact ⟨argD_le h0 ρ, trivial⟩
    · trivial
  · trivial
/-! ### gleaner/labels.check -/
def labels_check_u (r : Int) : TV EE.T := .a (.d (.int .i64) r)
def w30enc (r : Int) : RL EE.T := .ret (labels_check_u r) []
def w30lv : Lvs := ⟨[], [(2, ⟨[(6, false), (7, false), (8, false)], [], []⟩)], [], [], false, [], []⟩
def w30rs : List ResultVar := [.tmp 2]
def w30G (N : Nat) : Gam EE := ⟨[⟨13, labels_Check_h N⟩], EQT, [], []⟩
theorem w30Gok (N : Nat) : GOk Try.prog TT EE (w30G N) := GOk.cons (labels_Check_hok N) (GOk.nil EQT_ok)
def w30kL2 (c : Code) : List It2 := atL 2 c
def w30sL2 (x6 : List (List VLabel)) (x7 : Int) (x8 : Int) : TS EE.T := ⟨18, [(6, .a (.d (.sl (.sl (.nam 2))) x6)), (7, .a (.d (.int .i64) x7)), (8, .a (.d (.int .i64) x8))], [], []⟩
def w30kE0 (c : Code) : List It2 := [.c c]
def w30sE0 (x0 : List (List VLabel)) : TS EE.T := ⟨18, [(0, .a (.d (.sl (.sl (.nam 2))) x0))], [], []⟩
def w30TL2 (c : Code) (N : Nat) (n : Nat) (x6 : List (List VLabel)) (x7 : Int) (x8 : Int) : Tree (Lf EE.T × Option Int) :=
  .cond (decide (x8 < x7))
  (
    .bnd (idxC x6 x8) fun z1 =>
    .bnd (labels_Check N z1) fun z2 =>
    .cond (z2 != 0)
    (
      .leaf (.done (w30enc z2), some z2))
    (
      .leaf (.go (w30kL2 c) (w30sL2 x6 x7 (w64 (x8 + 1))), labels_check_L2 N n x6 x7 (w64 (x8 + 1)))))
  (
    .leaf (.done (w30enc 0), some 0))
theorem w30vL2 (N : Nat) (n : Nat) (x6 : List (List VLabel)) (x7 : Int) (x8 : Int) : evM TT EE (w30G N) w30lv w30rs 4000 true (w30kL2 (bodyOf 0 Try.f30)) (w30sL2 x6 x7 x8) = (w30TL2 (bodyOf 0 Try.f30) N n x6 x7 x8).map1 := by kernel_rfl
theorem w30nL2 (N : Nat) (n : Nat) (x6 : List (List VLabel)) (x7 : Int) (x8 : Int) : labels_check_L2 N (n + 1) x6 x7 x8 = (w30TL2 (bodyOf 0 Try.f30) N n x6 x7 x8).run := by kernel_rfl
theorem w30oL2 {N : Nat} {r : Int} : ∀ (n : Nat) (x6 : List (List VLabel)) (x7 : Int) (x8 : Int), labels_check_L2 N n x6 x7 x8 = some r → Ends (Y := TT) EE (w30G N) w30lv w30rs (fun u => u = w30enc r) (w30kL2 (bodyOf 0 Try.f30)) (w30sL2 x6 x7 x8)
  | 0, _, _, _, h => by cases h
  | n + 1, x6, x7, x8, h => tree_use (w30vL2 N n x6 x7 x8) (w30nL2 N n x6 x7 x8) h (show (w30TL2 (bodyOf 0 Try.f30) N n x6 x7 x8).all _ from ⟨fun _ => fun _ => ⟨retp (enc := w30enc) rfl, fun h => (w30oL2 n) _ _ _ h⟩, retp (enc := w30enc) rfl⟩)
def w30TE0 (c : Code) (N : Nat) (x0 : List (List VLabel)) : Tree (Lf EE.T × Option Int) :=
  .leaf (.go (w30kL2 c) (w30sL2 x0 (x0.length : Int) 0), labels_check_L2 N N x0 (x0.length : Int) 0)
theorem w30vE0 (N : Nat) (x0 : List (List VLabel)) : evM TT EE (w30G N) w30lv w30rs 4000 true (w30kE0 (bodyOf 0 Try.f30)) (w30sE0 x0) = (w30TE0 (bodyOf 0 Try.f30) N x0).map1 := by kernel_rfl
theorem w30nE0 (N : Nat) (x0 : List (List VLabel)) : labels_check N x0 = (w30TE0 (bodyOf 0 Try.f30) N x0).run := by kernel_rfl
theorem w30oE0 {N : Nat} {r : Int} (x0 : List (List VLabel)) (h : labels_check N x0 = some r) : Ends (Y := TT) EE (w30G N) w30lv w30rs (fun u => u = w30enc r) (w30kE0 (bodyOf 0 Try.f30)) (w30sE0 x0) :=
  tree_use (w30vE0 N x0) (w30nE0 N x0) h (show (w30TE0 (bodyOf 0 Try.f30) N x0).all _ from fun h => w30oL2 N _ _ _ h)
theorem labels_check_ok {N : Nat} (x0 : List (List VLabel)) {r : Int} (h : labels_check N x0 = some r) (ρ : Nat → Nat) : ACalls Try.prog 30 (([.a (.d (.sl (.sl (.nam 2))) x0)] : List (TV EE.T)).map (TV.to EE.toEnc ρ)) [] (fun out H => out = .ret ((labels_check_u r).to EE.toEnc ρ) ∧ H = []) :=
  (fn_ok (bodyOf 0 Try.f30) 18 mixed (w30Gok N) Try.func30 (by kernel_rfl) rfl rfl rfl rfl (w30oE0 x0 h) ρ).mono fun out H h => KPost.ret rfl h
def labels_check_h (N : Nat) : List (TV EE.T) → PV EE.T
  | [u0] => match argD (.sl (.sl (.nam 2))) u0 with
    | some x0 => .opt (labels_check N x0) labels_check_u
    | _ => .bad
  | _ => .bad
theorem labels_check_hok (N : Nat) (us : List (TV EE.T)) : (labels_check_h N us).ok fun u => ∀ ρ, ACalls Try.prog 30 (us.map (TV.to EE.toEnc ρ)) [] (fun out H => out = .ret (u.to EE.toEnc ρ) ∧ H = []) := by
  unfold labels_check_h
  split
  · split
    · rename_i h0
      intro z hz ρ; refine acalls_le ?_ (labels_check_ok _ hz ρ); exact ⟨argD_le h0 ρ, trivial⟩
    · trivial
  · trivial
/-! ### gleaner/labels.find$1 -/
def labels_find_1_u (r : Int) : TV EE.T := .a (.d (.int .i64) r)
def w53enc (r : Int) : RL EE.T := .ret (labels_find_1_u r) []
def w53lv : Lvs := ⟨[], [], [], [], false, [], []⟩
def w53rs : List ResultVar := [.tmp 4]
def w53G (N : Nat) : Gam EE := ⟨[⟨40, cmp_Compare_string__h N⟩], EQT, [], []⟩
theorem w53Gok (N : Nat) : GOk Try.prog TT EE (w53G N) := GOk.cons (cmp_Compare_string__hok N) (GOk.nil EQT_ok)
def w53kE0 (c : Code) : List It2 := [.c c]
def w53sE0 (x0 : VLabel) (x1 : List UInt8) : TS EE.T := ⟨9, [(0, .ag (unpT EE (.nam 2) x0)), (1, .a (.d .str x1))], [], []⟩
def w53TE0 (c : Code) (N : Nat) (x0 : VLabel) (x1 : List UInt8) : Tree (Lf EE.T × Option Int) :=
  .bnd (cmp_Compare_string_ N x0.Name x1) fun z1 =>
  .leaf (.done (w53enc z1), some z1)
theorem w53vE0 (N : Nat) (x0 : VLabel) (x1 : List UInt8) : evM TT EE (w53G N) w53lv w53rs 4000 true (w53kE0 (bodyOf 0 Try.f53)) (w53sE0 x0 x1) = (w53TE0 (bodyOf 0 Try.f53) N x0 x1).map1 := by kernel_rfl
theorem w53nE0 (N : Nat) (x0 : VLabel) (x1 : List UInt8) : labels_find_1 N x0 x1 = (w53TE0 (bodyOf 0 Try.f53) N x0 x1).run := by kernel_rfl
theorem w53oE0 {N : Nat} {r : Int} (x0 : VLabel) (x1 : List UInt8) (h : labels_find_1 N x0 x1 = some r) : Ends (Y := TT) EE (w53G N) w53lv w53rs (fun u => u = w53enc r) (w53kE0 (bodyOf 0 Try.f53)) (w53sE0 x0 x1) :=
  tree_use (w53vE0 N x0 x1) (w53nE0 N x0 x1) h (show (w53TE0 (bodyOf 0 Try.f53) N x0 x1).all _ from fun _ => retp (enc := w53enc) rfl)
theorem labels_find_1_ok {N : Nat} (x0 : VLabel) (x1 : List UInt8) {r : Int} (h : labels_find_1 N x0 x1 = some r) (ρ : Nat → Nat) : ACalls Try.prog 53 (([.ag (unpT EE (.nam 2) x0), .a (.d .str x1)] : List (TV EE.T)).map (TV.to EE.toEnc ρ)) [] (fun out H => out = .ret ((labels_find_1_u r).to EE.toEnc ρ) ∧ H = []) :=
  (fn_ok (bodyOf 0 Try.f53) 9 mixed (w53Gok N) Try.func53 (by kernel_rfl) rfl rfl rfl rfl (w53oE0 x0 x1 h) ρ).mono fun out H h => KPost.ret rfl h
def labels_find_1_h (N : Nat) : List (TV EE.T) → PV EE.T
  | [u0, u1] => match argS EE 2 u0, argD .str u1 with
    | some x0, some x1 => .opt (labels_find_1 N x0 x1) labels_find_1_u
    | _, _ => .bad
  | _ => .bad
theorem labels_find_1_hok (N : Nat) (us : List (TV EE.T)) : (labels_find_1_h N us).ok fun u => ∀ ρ, ACalls Try.prog 53 (us.map (TV.to EE.toEnc ρ)) [] (fun out H => out = .ret (u.to EE.toEnc ρ) ∧ H = []) := by
  unfold labels_find_1_h
  split
  · split
    · rename_i h0 h1
      intro z hz ρ; refine acalls_le ?_ (labels_find_1_ok _ _ hz ρ); exact ⟨argS_le h0 ρ, argD_le h1 ρ, trivial⟩
    · trivial
  · trivial
/-! ### slices.BinarySearchFunc[[]gleaner/api.Label,gleaner/api.Label,string] -/
def slices_BinarySearchFunc_api_Label_api_Label_string__i0_u (r : Int × Bool) : TV EE.T := .tu [.a (.d (.int .i64) r.1), .a (.d .bool r.2)]
def w52i0hh (r : Int × Bool) : List (Nat × TB EE.T) := []
def w52i0enc (r : Int × Bool) : RL EE.T := .ret (slices_BinarySearchFunc_api_Label_api_Label_string__i0_u r) (w52i0hh r)
def w52i0lv : Lvs := ⟨[], [(3, ⟨[(0, false), (1, false), (2, false), (8, false), (9, false), (10, false)], [], []⟩)], [], [], false, [], []⟩
def w52i0rs : List ResultVar := [.tmp 6, .tmp 7]
def w52i0G (N : Nat) : Gam EE := ⟨[], EQT, [⟨53, xOf (labels_find_1_h N)⟩], []⟩
theorem w52i0Gok (N : Nat) : GOk Try.prog TT EE (w52i0G N) := GOk.consx (xOf_ok (labels_find_1_hok N)) (GOk.nil EQT_ok)
def w52i0kL3 (c : Code) : List It2 := atL 3 c
def w52i0sL3 (x0 : List VLabel) (x1 : List UInt8) (x8 : Int) (x9 : Int) (x10 : Int) : TS EE.T := ⟨49, [(0, .a (.d (.sl (.nam 2)) x0)), (1, .a (.d .str x1)), (2, .fn 53 []), (8, .a (.d (.int .i64) x8)), (9, .a (.d (.int .i64) x9)), (10, .a (.d (.int .i64) x10))], [], []⟩
def w52i0kE0 (c : Code) : List It2 := [.c c]
def w52i0sE0 (x0 : List VLabel) (x1 : List UInt8) : TS EE.T := ⟨49, [(0, .a (.d (.sl (.nam 2)) x0)), (1, .a (.d .str x1)), (2, .fn 53 [])], [], []⟩
def w52i0TL3 (c : Code) (N : Nat) (n : Nat) (x0 : List VLabel) (x1 : List UInt8) (x8 : Int) (x9 : Int) (x10 : Int) : Tree (Lf EE.T × Option (Int × Bool)) :=
  .cond (decide (x9 < x10))
  (
    .bnd (shrC .u64 (IntKind.wrap .u64 (w64 (x9 + x10))) 1) fun z1 =>
    .bnd (idxC x0 (w64 z1)) fun z2 =>
    .bnd (labels_find_1 N z2 x1) fun z3 =>
    .cond (decide (z3 < 0))
    (
      .leaf (.go (w52i0kL3 c) (w52i0sL3 x0 x1 x8 (w64 ((w64 z1) + 1)) x10), slices_BinarySearchFunc_api_Label_api_Label_string__i0_L3 N n x0 x1 x8 (w64 ((w64 z1) + 1)) x10))
    (
      .leaf (.go (w52i0kL3 c) (w52i0sL3 x0 x1 x8 x9 (w64 z1)), slices_BinarySearchFunc_api_Label_api_Label_string__i0_L3 N n x0 x1 x8 x9 (w64 z1))))
  (
    .cond (decide (x9 < x8))
    (
      .bnd (idxC x0 x9) fun z4 =>
      .bnd (labels_find_1 N z4 x1) fun z5 =>
      .leaf (.done (w52i0enc (x9, z5 == 0)), some (x9, z5 == 0)))
    (
      .leaf (.done (w52i0enc (x9, false)), some (x9, false))))
theorem w52i0vL3 (N : Nat) (n : Nat) (x0 : List VLabel) (x1 : List UInt8) (x8 : Int) (x9 : Int) (x10 : Int) : evM TT EE (w52i0G N) w52i0lv w52i0rs 4000 true (w52i0kL3 (bodyOf 0 Try.f52)) (w52i0sL3 x0 x1 x8 x9 x10) = (w52i0TL3 (bodyOf 0 Try.f52) N n x0 x1 x8 x9 x10).map1 := by kernel_rfl
theorem w52i0nL3 (N : Nat) (n : Nat) (x0 : List VLabel) (x1 : List UInt8) (x8 : Int) (x9 : Int) (x10 : Int) : slices_BinarySearchFunc_api_Label_api_Label_string__i0_L3 N (n + 1) x0 x1 x8 x9 x10 = (w52i0TL3 (bodyOf 0 Try.f52) N n x0 x1 x8 x9 x10).run := by kernel_rfl
theorem w52i0oL3 {N : Nat} {r : Int × Bool} : ∀ (n : Nat) (x0 : List VLabel) (x1 : List UInt8) (x8 : Int) (x9 : Int) (x10 : Int), slices_BinarySearchFunc_api_Label_api_Label_string__i0_L3 N n x0 x1 x8 x9 x10 = some r → Ends (Y := TT) EE (w52i0G N) w52i0lv w52i0rs (fun u => u = w52i0enc r) (w52i0kL3 (bodyOf 0 Try.f52)) (w52i0sL3 x0 x1 x8 x9 x10)
  | 0, _, _, _, _, _, h => by cases h
  | n + 1, x0, x1, x8, x9, x10, h => tree_use (w52i0vL3 N n x0 x1 x8 x9 x10) (w52i0nL3 N n x0 x1 x8 x9 x10) h (show (w52i0TL3 (bodyOf 0 Try.f52) N n x0 x1 x8 x9 x10).all _ from ⟨fun _ => fun _ => fun _ => ⟨fun h => (w52i0oL3 n) _ _ _ _ _ h, fun h => (w52i0oL3 n) _ _ _ _ _ h⟩, ⟨fun _ => fun _ => retp (enc := w52i0enc) rfl, retp (enc := w52i0enc) rfl⟩⟩)
def w52i0TE0 (c : Code) (N : Nat) (x0 : List VLabel) (x1 : List UInt8) : Tree (Lf EE.T × Option (Int × Bool)) :=
  .leaf (.go (w52i0kL3 c) (w52i0sL3 x0 x1 (x0.length : Int) 0 (x0.length : Int)), slices_BinarySearchFunc_api_Label_api_Label_string__i0_L3 N N x0 x1 (x0.length : Int) 0 (x0.length : Int))
theorem w52i0vE0 (N : Nat) (x0 : List VLabel) (x1 : List UInt8) : evM TT EE (w52i0G N) w52i0lv w52i0rs 4000 true (w52i0kE0 (bodyOf 0 Try.f52)) (w52i0sE0 x0 x1) = (w52i0TE0 (bodyOf 0 Try.f52) N x0 x1).map1 := by kernel_rfl
theorem w52i0nE0 (N : Nat) (x0 : List VLabel) (x1 : List UInt8) : slices_BinarySearchFunc_api_Label_api_Label_string__i0 N x0 x1 = (w52i0TE0 (bodyOf 0 Try.f52) N x0 x1).run := by kernel_rfl
theorem w52i0oE0 {N : Nat} {r : Int × Bool} (x0 : List VLabel) (x1 : List UInt8) (h : slices_BinarySearchFunc_api_Label_api_Label_string__i0 N x0 x1 = some r) : Ends (Y := TT) EE (w52i0G N) w52i0lv w52i0rs (fun u => u = w52i0enc r) (w52i0kE0 (bodyOf 0 Try.f52)) (w52i0sE0 x0 x1) :=
  tree_use (w52i0vE0 N x0 x1) (w52i0nE0 N x0 x1) h (show (w52i0TE0 (bodyOf 0 Try.f52) N x0 x1).all _ from fun h => w52i0oL3 N _ _ _ _ _ h)
def w52i0us (x0 : List VLabel) (x1 : List UInt8) : List (TV EE.T) := [.a (.d (.sl (.nam 2)) x0), .a (.d .str x1), .fn 53 []]
def w52i0h0 (x0 : List VLabel) (x1 : List UInt8) : List (Nat × TB EE.T) := []
theorem slices_BinarySearchFunc_api_Label_api_Label_string__i0_ok {N : Nat} (x0 : List VLabel) (x1 : List UInt8) {r : Int × Bool} (h : slices_BinarySearchFunc_api_Label_api_Label_string__i0 N x0 x1 = some r) (ρ : Nat → Nat) (hi : Inj ρ (w52i0h0 x0 x1)) : ACalls Try.prog 52 ((w52i0us x0 x1).map (TV.to EE.toEnc ρ)) (hTo EE.toEnc ρ (w52i0h0 x0 x1)) (fun out H => out = .ret ((slices_BinarySearchFunc_api_Label_api_Label_string__i0_u r).to EE.toEnc ρ) ∧ H = hTo EE.toEnc ρ (w52i0hh r)) :=
  (fn_okH (bodyOf 0 Try.f52) 49 mixed (w52i0Gok N) Try.func52 (by kernel_rfl) rfl rfl rfl rfl (w52i0oE0 x0 x1 h) ρ hi).mono fun out H h => KPost.retH rfl rfl h
def slices_BinarySearchFunc_api_Label_api_Label_string__i0_h (N : Nat) (us : List (TV EE.T)) (hs : List (Nat × TB EE.T)) : XR EE.T :=
  gdX (lenX us 3) <|
  bnX (aD (.sl (.nam 2)) us 0) fun x0 =>
  bnX (aD .str us 1) fun x1 =>
  bnX (aF 53 us 2) fun c2 =>
  bnX (cbs c2) fun s2 =>
  gdX (lenX s2 0) <|
  gdX (goodIds hs []) <|
  .ret (slices_BinarySearchFunc_api_Label_api_Label_string__i0 N x0 x1) [] slices_BinarySearchFunc_api_Label_api_Label_string__i0_u (w52i0hh)
theorem slices_BinarySearchFunc_api_Label_api_Label_string__i0_hok (N : Nat) : XOk Try.prog EE 52 (slices_BinarySearchFunc_api_Label_api_Label_string__i0_h N) := fun us hs =>
  gdX_ok fun h1 => bnX_ok fun x0 h2 => bnX_ok fun x1 h3 => bnX_ok fun c2 h4 => bnX_ok fun s2 h5 => gdX_ok fun h6 => gdX_ok fun h7 => fun z hz => ⟨rfl, fun ρ hi => xcall (us' := w52i0us x0 x1) (h0 := w52i0h0 x0 x1) (ρ' := rhoS ρ []) ⟨aD_le h2, aD_le h3, aF_le (js := []) h4 h5 (by rw [lis0 (lenX_ok h6)];  kernel_rfl), lenX_ok h1⟩ trivial (slices_BinarySearchFunc_api_Label_api_Label_string__i0_ok x0 x1 hz _ (rhoS_inj hi h7 _ (by kernel_rfl))) (fun out H h => ⟨h.1.trans (by kernel_rfl), h.2.trans (by kernel_rfl)⟩)⟩
/-! ### gleaner/labels.find -/
def labels_find_u (r : Int × Bool) : TV EE.T := .tu [.a (.d (.int .i64) r.1), .a (.d .bool r.2)]
def w41enc (r : Int × Bool) : RL EE.T := .ret (labels_find_u r) []
def w41lv : Lvs := ⟨[], [], [], [], false, [], []⟩
def w41rs : List ResultVar := [.tmp 4, .tmp 5]
def w41G (N : Nat) : Gam EE := ⟨[], EQT, [⟨52, slices_BinarySearchFunc_api_Label_api_Label_string__i0_h N⟩], []⟩
theorem w41Gok (N : Nat) : GOk Try.prog TT EE (w41G N) := GOk.consx (slices_BinarySearchFunc_api_Label_api_Label_string__i0_hok N) (GOk.nil EQT_ok)
def w41kE0 (c : Code) : List It2 := [.c c]
def w41sE0 (x0 : List VLabel) (x1 : List UInt8) : TS EE.T := ⟨11, [(0, .a (.d (.sl (.nam 2)) x0)), (1, .a (.d .str x1))], [], []⟩
def w41TE0 (c : Code) (N : Nat) (x0 : List VLabel) (x1 : List UInt8) : Tree (Lf EE.T × Option (Int × Bool)) :=
  .bnd (slices_BinarySearchFunc_api_Label_api_Label_string__i0 N x0 x1) fun z1 =>
  .leaf (.done (w41enc (z1.1, z1.2)), some (z1.1, z1.2))
theorem w41vE0 (N : Nat) (x0 : List VLabel) (x1 : List UInt8) : evM TT EE (w41G N) w41lv w41rs 4000 true (w41kE0 (bodyOf 0 Try.f41)) (w41sE0 x0 x1) = (w41TE0 (bodyOf 0 Try.f41) N x0 x1).map1 := by kernel_rfl
theorem w41nE0 (N : Nat) (x0 : List VLabel) (x1 : List UInt8) : labels_find N x0 x1 = (w41TE0 (bodyOf 0 Try.f41) N x0 x1).run := by kernel_rfl
theorem w41oE0 {N : Nat} {r : Int × Bool} (x0 : List VLabel) (x1 : List UInt8) (h : labels_find N x0 x1 = some r) : Ends (Y := TT) EE (w41G N) w41lv w41rs (fun u => u = w41enc r) (w41kE0 (bodyOf 0 Try.f41)) (w41sE0 x0 x1) :=
  tree_use (w41vE0 N x0 x1) (w41nE0 N x0 x1) h (show (w41TE0 (bodyOf 0 Try.f41) N x0 x1).all _ from fun _ => retp (enc := w41enc) rfl)
theorem labels_find_ok {N : Nat} (x0 : List VLabel) (x1 : List UInt8) {r : Int × Bool} (h : labels_find N x0 x1 = some r) (ρ : Nat → Nat) : ACalls Try.prog 41 (([.a (.d (.sl (.nam 2)) x0), .a (.d .str x1)] : List (TV EE.T)).map (TV.to EE.toEnc ρ)) [] (fun out H => out = .ret ((labels_find_u r).to EE.toEnc ρ) ∧ H = []) :=
  (fn_ok (bodyOf 0 Try.f41) 11 mixed (w41Gok N) Try.func41 (by kernel_rfl) rfl rfl rfl rfl (w41oE0 x0 x1 h) ρ).mono fun out H h => KPost.ret rfl h
def labels_find_h (N : Nat) : List (TV EE.T) → PV EE.T
  | [u0, u1] => match argD (.sl (.nam 2)) u0, argD .str u1 with
    | some x0, some x1 => .opt (labels_find N x0 x1) labels_find_u
    | _, _ => .bad
  | _ => .bad
theorem labels_find_hok (N : Nat) (us : List (TV EE.T)) : (labels_find_h N us).ok fun u => ∀ ρ, ACalls Try.prog 41 (us.map (TV.to EE.toEnc ρ)) [] (fun out H => out = .ret (u.to EE.toEnc ρ) ∧ H = []) := by
  unfold labels_find_h
  split
  · split
    · rename_i h0 h1
      intro z hz ρ; refine acalls_le ?_ (labels_find_ok _ _ hz ρ); exact ⟨argD_le h0 ρ, argD_le h1 ρ, trivial⟩
    · trivial
  · trivial
/-! ### gleaner/labels.Value -/
def labels_Value_u (r : List UInt8) : TV EE.T := .a (.d .str r)
def w31enc (r : List UInt8) : RL EE.T := .ret (labels_Value_u r) []
def w31lv : Lvs := ⟨[], [], [], [], false, [], []⟩
def w31rs : List ResultVar := [.tmp 4]
def w31G (N : Nat) : Gam EE := ⟨[⟨41, labels_find_h N⟩], EQT, [], []⟩
theorem w31Gok (N : Nat) : GOk Try.prog TT EE (w31G N) := GOk.cons (labels_find_hok N) (GOk.nil EQT_ok)
def w31kE0 (c : Code) : List It2 := [.c c]
def w31sE0 (x0 : List VLabel) (x1 : List UInt8) : TS EE.T := ⟨19, [(0, .a (.d (.sl (.nam 2)) x0)), (1, .a (.d .str x1))], [], []⟩
def w31TE0 (c : Code) (N : Nat) (x0 : List VLabel) (x1 : List UInt8) : Tree (Lf EE.T × Option (List UInt8)) :=
  .bnd (labels_find N x0 x1) fun z1 =>
  .cond (z1.2)
  (
    .bnd (idxC x0 z1.1) fun z2 =>
    .leaf (.done (w31enc z2.Value), some z2.Value))
  (
    .leaf (.done (w31enc ([] : List UInt8)), some ([] : List UInt8)))
theorem w31vE0 (N : Nat) (x0 : List VLabel) (x1 : List UInt8) : evM TT EE (w31G N) w31lv w31rs 4000 true (w31kE0 (bodyOf 0 Try.f31)) (w31sE0 x0 x1) = (w31TE0 (bodyOf 0 Try.f31) N x0 x1).map1 := by kernel_rfl
theorem w31nE0 (N : Nat) (x0 : List VLabel) (x1 : List UInt8) : labels_Value N x0 x1 = (w31TE0 (bodyOf 0 Try.f31) N x0 x1).run := by kernel_rfl
theorem w31oE0 {N : Nat} {r : List UInt8} (x0 : List VLabel) (x1 : List UInt8) (h : labels_Value N x0 x1 = some r) : Ends (Y := TT) EE (w31G N) w31lv w31rs (fun u => u = w31enc r) (w31kE0 (bodyOf 0 Try.f31)) (w31sE0 x0 x1) :=
  tree_use (w31vE0 N x0 x1) (w31nE0 N x0 x1) h (show (w31TE0 (bodyOf 0 Try.f31) N x0 x1).all _ from fun _ => ⟨fun _ => retp (enc := w31enc) rfl, retp (enc := w31enc) rfl⟩)
theorem labels_Value_ok {N : Nat} (x0 : List VLabel) (x1 : List UInt8) {r : List UInt8} (h : labels_Value N x0 x1 = some r) (ρ : Nat → Nat) : ACalls Try.prog 31 (([.a (.d (.sl (.nam 2)) x0), .a (.d .str x1)] : List (TV EE.T)).map (TV.to EE.toEnc ρ)) [] (fun out H => out = .ret ((labels_Value_u r).to EE.toEnc ρ) ∧ H = []) :=
  (fn_ok (bodyOf 0 Try.f31) 19 mixed (w31Gok N) Try.func31 (by kernel_rfl) rfl rfl rfl rfl (w31oE0 x0 x1 h) ρ).mono fun out H h => KPost.ret rfl h
def labels_Value_h (N : Nat) : List (TV EE.T) → PV EE.T
  | [u0, u1] => match argD (.sl (.nam 2)) u0, argD .str u1 with
    | some x0, some x1 => .opt (labels_Value N x0 x1) labels_Value_u
    | _, _ => .bad
  | _ => .bad
theorem labels_Value_hok (N : Nat) (us : List (TV EE.T)) : (labels_Value_h N us).ok fun u => ∀ ρ, ACalls Try.prog 31 (us.map (TV.to EE.toEnc ρ)) [] (fun out H => out = .ret (u.to EE.toEnc ρ) ∧ H = []) := by
  unfold labels_Value_h
  split
  · split
    · rename_i h0 h1
      intro z hz ρ; refine acalls_le ?_ (labels_Value_ok _ _ hz ρ); exact ⟨argD_le h0 ρ, argD_le h1 ρ, trivial⟩
    · trivial
  · trivial
end Go.Proofs.Ytbpgpfigndlohaa
