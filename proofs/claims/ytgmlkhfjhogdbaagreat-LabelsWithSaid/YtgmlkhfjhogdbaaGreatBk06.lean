import Derived.Test.YtgmlkhfjhogdbaaGreatBk05
import Derived.Laws.IdiomCopy
import Derived.Laws.Externs
import Derived.Lib.Overlaps
import Derived.BigCall
/- The walks that prove plain functions right, written by gen/tgl.py. -/
namespace Go.Proofs.YtgmlkhfjhogdbaaGreat
open Go.RowKit P
set_option linter.unusedVariables false
set_option linter.unusedSimpArgs false
set_option maxRecDepth 100000
/-! ### gleaner/labels.each -/
def labels_each_u (r : Int) : TV EE.T := .a (.d (.int .i64) r)
def w26enc (r : Int) : RL EE.T := .ret (labels_each_u r) []
def w26lv : Lvs := ⟨[(9, ⟨[(0, false), (1, false), (6, false), (13, false), (14, false), (15, false)], [], [(6, (some 2, []))]⟩)], [(4, ⟨[(0, false), (1, false), (13, false), (14, false), (15, false)], [], []⟩), (14, ⟨[(7, false), (38, false), (39, false), (40, false)], [], [(37, (none, []))]⟩)], [9], [], false, [], []⟩
def w26rs : List ResultVar := [.tmp 4]
def w26G (N : Nat) : Gam EE := ⟨[⟨19, labels_IsName_h N⟩], EQT, [], []⟩
theorem w26Gok (N : Nat) : GOk Tryz.prog TT EE (w26G N) := GOk.cons (labels_IsName_hok N) (GOk.nil EQT_ok)
def w26kR9 (c : Code) : List It2 := atR 9 c
def w26sR9 (x0 : List VLabel) (x1 : Bool) (x13 : List VLabel) (x14 : Int) (x15 : Int) (b6 : VLabel) : TS EE.T := ⟨52, [(0, .a (.d (.sl (.nam 2)) x0)), (1, .a (.d .bool x1)), (6, .a (.box 6 0)), (13, .a (.d (.sl (.nam 2)) x13)), (14, .a (.d (.int .i64) x14)), (15, .a (.d (.int .i64) x15))], [(6, .cs (unpT EE (.nam 2) b6))], []⟩
def w26kL14 (c : Code) : List It2 := atL 14 c
def w26sL14 (x38 : List VLabel) (x39 : Int) (x40 : Int) (b37 : List (List UInt8 × Bool)) : TS EE.T := ⟨52, [(7, .a (.mpr 37)), (38, .a (.d (.sl (.nam 2)) x38)), (39, .a (.d (.int .i64) x39)), (40, .a (.d (.int .i64) x40))], [(37, .smap .bool b37)], []⟩
def w26kL4 (c : Code) : List It2 := atL 4 c
def w26sL4 (x0 : List VLabel) (x1 : Bool) (x13 : List VLabel) (x14 : Int) (x15 : Int) : TS EE.T := ⟨52, [(0, .a (.d (.sl (.nam 2)) x0)), (1, .a (.d .bool x1)), (13, .a (.d (.sl (.nam 2)) x13)), (14, .a (.d (.int .i64) x14)), (15, .a (.d (.int .i64) x15))], [], []⟩
def w26kE0 (c : Code) : List It2 := [.c c]
def w26sE0 (x0 : List VLabel) (x1 : Bool) : TS EE.T := ⟨52, [(0, .a (.d (.sl (.nam 2)) x0)), (1, .a (.d .bool x1))], [], []⟩
def w26TR9 (c : Code) (N : Nat) (k4 : (List VLabel) → Bool → (List VLabel) → Int → Int → Option Int) (n : Nat) (x0 : List VLabel) (x1 : Bool) (x13 : List VLabel) (x14 : Int) (x15 : Int) (b6 : VLabel) : Tree (Lf EE.T × Option Int) :=
  .cond (decide ((b6.Value.length : Int) > 100))
  (
    .leaf (.done (w26enc 2), some 2))
  (
    .leaf (.go (w26kL4 c) (w26sL4 x0 x1 x13 x14 (w64 (x15 + 1))), k4 x0 x1 x13 x14 (w64 (x15 + 1))))
theorem w26vR9 (N : Nat) (k4 : (List VLabel) → Bool → (List VLabel) → Int → Int → Option Int) (n : Nat) (x0 : List VLabel) (x1 : Bool) (x13 : List VLabel) (x14 : Int) (x15 : Int) (b6 : VLabel) : evM TT EE (w26G N) w26lv w26rs 4000 true (w26kR9 (bodyOf 0 Tryz.f26)) (w26sR9 x0 x1 x13 x14 x15 b6) = (w26TR9 (bodyOf 0 Tryz.f26) N k4 n x0 x1 x13 x14 x15 b6).map1 := by kernel_rfl
theorem w26nR9 (N : Nat) (k4 : (List VLabel) → Bool → (List VLabel) → Int → Int → Option Int) (n : Nat) (x0 : List VLabel) (x1 : Bool) (x13 : List VLabel) (x14 : Int) (x15 : Int) (b6 : VLabel) : labels_each_R9 N k4 n x0 x1 x13 x14 x15 b6 = (w26TR9 (bodyOf 0 Tryz.f26) N k4 n x0 x1 x13 x14 x15 b6).run := by kernel_rfl
theorem w26oR9 {N : Nat} {r : Int} {k4 : (List VLabel) → Bool → (List VLabel) → Int → Int → Option Int} (hk4 : ∀ x0 x1 x13 x14 x15, k4 x0 x1 x13 x14 x15 = some r → Ends (Y := TT) EE (w26G N) w26lv w26rs (fun u => u = w26enc r) (w26kL4 (bodyOf 0 Tryz.f26)) (w26sL4 x0 x1 x13 x14 x15)) (n : Nat) (x0 : List VLabel) (x1 : Bool) (x13 : List VLabel) (x14 : Int) (x15 : Int) (b6 : VLabel) (h : labels_each_R9 N k4 n x0 x1 x13 x14 x15 b6 = some r) : Ends (Y := TT) EE (w26G N) w26lv w26rs (fun u => u = w26enc r) (w26kR9 (bodyOf 0 Tryz.f26)) (w26sR9 x0 x1 x13 x14 x15 b6) :=
  tree_use (w26vR9 N k4 n x0 x1 x13 x14 x15 b6) (w26nR9 N k4 n x0 x1 x13 x14 x15 b6) h (show (w26TR9 (bodyOf 0 Tryz.f26) N k4 n x0 x1 x13 x14 x15 b6).all _ from ⟨retp (enc := w26enc) rfl, fun h => hk4 _ _ _ _ _ h⟩)
def w26TL14 (c : Code) (N : Nat) (n : Nat) (x38 : List VLabel) (x39 : Int) (x40 : Int) (b37 : List (List UInt8 × Bool)) : Tree (Lf EE.T × Option Int) :=
  .cond (decide (x40 < x39))
  (
    .bnd (idxC x38 x40) fun z3 =>
    .cond ((mget b37 z3.Name).getD false)
    (
      .leaf (.done (w26enc 6), some 6))
    (
      .leaf (.go (w26kL14 c) (w26sL14 x38 x39 (w64 (x40 + 1)) (mset b37 z3.Name true)), labels_each_L14 N n x38 x39 (w64 (x40 + 1)) (mset b37 z3.Name true))))
  (
    .leaf (.done (w26enc 0), some 0))
theorem w26vL14 (N : Nat) (n : Nat) (x38 : List VLabel) (x39 : Int) (x40 : Int) (b37 : List (List UInt8 × Bool)) : evM TT EE (w26G N) w26lv w26rs 4000 true (w26kL14 (bodyOf 0 Tryz.f26)) (w26sL14 x38 x39 x40 b37) = (w26TL14 (bodyOf 0 Tryz.f26) N n x38 x39 x40 b37).map1 := by kernel_rfl
theorem w26nL14 (N : Nat) (n : Nat) (x38 : List VLabel) (x39 : Int) (x40 : Int) (b37 : List (List UInt8 × Bool)) : labels_each_L14 N (n + 1) x38 x39 x40 b37 = (w26TL14 (bodyOf 0 Tryz.f26) N n x38 x39 x40 b37).run := by kernel_rfl
theorem w26oL14 {N : Nat} {r : Int} : ∀ (n : Nat) (x38 : List VLabel) (x39 : Int) (x40 : Int) (b37 : List (List UInt8 × Bool)), labels_each_L14 N n x38 x39 x40 b37 = some r → Ends (Y := TT) EE (w26G N) w26lv w26rs (fun u => u = w26enc r) (w26kL14 (bodyOf 0 Tryz.f26)) (w26sL14 x38 x39 x40 b37)
  | 0, _, _, _, _, h => by cases h
  | n + 1, x38, x39, x40, b37, h => tree_use (w26vL14 N n x38 x39 x40 b37) (w26nL14 N n x38 x39 x40 b37) h (show (w26TL14 (bodyOf 0 Tryz.f26) N n x38 x39 x40 b37).all _ from ⟨fun _ => ⟨retp (enc := w26enc) rfl, fun h => (w26oL14 n) _ _ _ _ h⟩, retp (enc := w26enc) rfl⟩)
def w26TL4 (c : Code) (N : Nat) (n : Nat) (x0 : List VLabel) (x1 : Bool) (x13 : List VLabel) (x14 : Int) (x15 : Int) : Tree (Lf EE.T × Option Int) :=
  .cond (decide (x15 < x14))
  (
    .bnd (idxC x13 x15) fun z1 =>
    .bnd (labels_IsName N z1.Name) fun z2 =>
    .cond (!z2)
    (
      .leaf (.done (w26enc 1), some 1))
    (
      .cond (decide (z1.Value = ([] : List UInt8)))
      (
        .cond (!x1)
        (
          .leaf (.done (w26enc 1), some 1))
        (
          .leaf (.go (w26kR9 c) (w26sR9 x0 x1 x13 x14 x15 z1), labels_each_R9 N (labels_each_L4 N n) n x0 x1 x13 x14 x15 z1)))
      (
        .leaf (.go (w26kR9 c) (w26sR9 x0 x1 x13 x14 x15 z1), labels_each_R9 N (labels_each_L4 N n) n x0 x1 x13 x14 x15 z1))))
  (
    .leaf (.go (w26kL14 c) (w26sL14 x0 (x0.length : Int) 0 ([] : List (List UInt8 × Bool))), labels_each_L14 N n x0 (x0.length : Int) 0 ([] : List (List UInt8 × Bool))))
theorem w26vL4 (N : Nat) (n : Nat) (x0 : List VLabel) (x1 : Bool) (x13 : List VLabel) (x14 : Int) (x15 : Int) : evM TT EE (w26G N) w26lv w26rs 4000 true (w26kL4 (bodyOf 0 Tryz.f26)) (w26sL4 x0 x1 x13 x14 x15) = (w26TL4 (bodyOf 0 Tryz.f26) N n x0 x1 x13 x14 x15).map1 := by kernel_rfl
theorem w26nL4 (N : Nat) (n : Nat) (x0 : List VLabel) (x1 : Bool) (x13 : List VLabel) (x14 : Int) (x15 : Int) : labels_each_L4 N (n + 1) x0 x1 x13 x14 x15 = (w26TL4 (bodyOf 0 Tryz.f26) N n x0 x1 x13 x14 x15).run := by kernel_rfl
theorem w26oL4 {N : Nat} {r : Int} : ∀ (n : Nat) (x0 : List VLabel) (x1 : Bool) (x13 : List VLabel) (x14 : Int) (x15 : Int), labels_each_L4 N n x0 x1 x13 x14 x15 = some r → Ends (Y := TT) EE (w26G N) w26lv w26rs (fun u => u = w26enc r) (w26kL4 (bodyOf 0 Tryz.f26)) (w26sL4 x0 x1 x13 x14 x15)
  | 0, _, _, _, _, _, h => by cases h
  | n + 1, x0, x1, x13, x14, x15, h => tree_use (w26vL4 N n x0 x1 x13 x14 x15) (w26nL4 N n x0 x1 x13 x14 x15) h (show (w26TL4 (bodyOf 0 Tryz.f26) N n x0 x1 x13 x14 x15).all _ from ⟨fun _ => fun _ => ⟨retp (enc := w26enc) rfl, ⟨⟨retp (enc := w26enc) rfl, fun h => w26oR9 (w26oL4 n) n _ _ _ _ _ _ h⟩, fun h => w26oR9 (w26oL4 n) n _ _ _ _ _ _ h⟩⟩, fun h => w26oL14 n _ _ _ _ h⟩)
def w26TE0 (c : Code) (N : Nat) (x0 : List VLabel) (x1 : Bool) : Tree (Lf EE.T × Option Int) :=
  .cond (decide ((x0.length : Int) > 20))
  (
    .leaf (.done (w26enc 2), some 2))
  (
    .leaf (.go (w26kL4 c) (w26sL4 x0 x1 x0 (x0.length : Int) 0), labels_each_L4 N N x0 x1 x0 (x0.length : Int) 0))
theorem w26vE0 (N : Nat) (x0 : List VLabel) (x1 : Bool) : evM TT EE (w26G N) w26lv w26rs 4000 true (w26kE0 (bodyOf 0 Tryz.f26)) (w26sE0 x0 x1) = (w26TE0 (bodyOf 0 Tryz.f26) N x0 x1).map1 := by kernel_rfl
theorem w26nE0 (N : Nat) (x0 : List VLabel) (x1 : Bool) : labels_each N x0 x1 = (w26TE0 (bodyOf 0 Tryz.f26) N x0 x1).run := by kernel_rfl
theorem w26oE0 {N : Nat} {r : Int} (x0 : List VLabel) (x1 : Bool) (h : labels_each N x0 x1 = some r) : Ends (Y := TT) EE (w26G N) w26lv w26rs (fun u => u = w26enc r) (w26kE0 (bodyOf 0 Tryz.f26)) (w26sE0 x0 x1) :=
  tree_use (w26vE0 N x0 x1) (w26nE0 N x0 x1) h (show (w26TE0 (bodyOf 0 Tryz.f26) N x0 x1).all _ from ⟨retp (enc := w26enc) rfl, fun h => w26oL4 N _ _ _ _ _ h⟩)
theorem labels_each_ok {N : Nat} (x0 : List VLabel) (x1 : Bool) {r : Int} (h : labels_each N x0 x1 = some r) (ρ : Nat → Nat) : ACalls Tryz.prog 26 (([.a (.d (.sl (.nam 2)) x0), .a (.d .bool x1)] : List (TV EE.T)).map (TV.to EE.toEnc ρ)) [] (fun out H => out = .ret ((labels_each_u r).to EE.toEnc ρ) ∧ H = []) :=
  (fn_ok (bodyOf 0 Tryz.f26) 52 mixed (w26Gok N) Tryz.func26 (by kernel_rfl) rfl rfl rfl rfl (w26oE0 x0 x1 h) ρ).mono fun out H h => KPost.ret rfl h
def labels_each_h (N : Nat) : List (TV EE.T) → PV EE.T
  | [u0, u1] => match argD (.sl (.nam 2)) u0, argD .bool u1 with
    | some x0, some x1 => .opt (labels_each N x0 x1) labels_each_u
    | _, _ => .bad
  | _ => .bad
theorem labels_each_hok (N : Nat) (us : List (TV EE.T)) : (labels_each_h N us).ok fun u => ∀ ρ, ACalls Tryz.prog 26 (us.map (TV.to EE.toEnc ρ)) [] (fun out H => out = .ret (u.to EE.toEnc ρ) ∧ H = []) := by
  unfold labels_each_h
  split
  · split
    · rename_i h0 h1
      intro z hz ρ; refine acalls_le ?_ (labels_each_ok _ _ hz ρ); exact ⟨argD_le h0 ρ, argD_le h1 ρ, trivial⟩
    · trivial
  · trivial
/-! ### cmp.isNaN[string] -/
def cmp_isNaN_string__u (r : Bool) : TV EE.T := .a (.d .bool r)
def w54enc (r : Bool) : RL EE.T := .ret (cmp_isNaN_string__u r) []
def w54lv : Lvs := ⟨[], [], [], [], false, [], []⟩
def w54rs : List ResultVar := [.tmp 2]
def w54G (N : Nat) : Gam EE := ⟨[], EQT, [], []⟩
theorem w54Gok (N : Nat) : GOk Tryz.prog TT EE (w54G N) := GOk.nil EQT_ok
def w54kE0 (c : Code) : List It2 := [.c c]
def w54sE0 (x0 : List UInt8) : TS EE.T := ⟨6, [(0, .a (.d .str x0))], [], []⟩
def w54TE0 (c : Code) (N : Nat) (x0 : List UInt8) : Tree (Lf EE.T × Option Bool) :=
  .leaf (.done (w54enc (!decide (x0 = x0))), some (!decide (x0 = x0)))
theorem w54vE0 (N : Nat) (x0 : List UInt8) : evM TT EE (w54G N) w54lv w54rs 4000 true (w54kE0 (bodyOf 0 Tryz.f54)) (w54sE0 x0) = (w54TE0 (bodyOf 0 Tryz.f54) N x0).map1 := by kernel_rfl
theorem w54nE0 (N : Nat) (x0 : List UInt8) : cmp_isNaN_string_ N x0 = (w54TE0 (bodyOf 0 Tryz.f54) N x0).run := by kernel_rfl
theorem w54oE0 {N : Nat} {r : Bool} (x0 : List UInt8) (h : cmp_isNaN_string_ N x0 = some r) : Ends (Y := TT) EE (w54G N) w54lv w54rs (fun u => u = w54enc r) (w54kE0 (bodyOf 0 Tryz.f54)) (w54sE0 x0) :=
  tree_use (w54vE0 N x0) (w54nE0 N x0) h (show (w54TE0 (bodyOf 0 Tryz.f54) N x0).all _ from retp (enc := w54enc) rfl)
theorem cmp_isNaN_string__ok {N : Nat} (x0 : List UInt8) {r : Bool} (h : cmp_isNaN_string_ N x0 = some r) (ρ : Nat → Nat) : ACalls Tryz.prog 54 (([.a (.d .str x0)] : List (TV EE.T)).map (TV.to EE.toEnc ρ)) [] (fun out H => out = .ret ((cmp_isNaN_string__u r).to EE.toEnc ρ) ∧ H = []) :=
  (fn_ok (bodyOf 0 Tryz.f54) 6 mixed (w54Gok N) Tryz.func54 (by kernel_rfl) rfl rfl rfl rfl (w54oE0 x0 h) ρ).mono fun out H h => KPost.ret rfl h
def cmp_isNaN_string__h (N : Nat) : List (TV EE.T) → PV EE.T
  | [u0] => match argD .str u0 with
    | some x0 => .opt (cmp_isNaN_string_ N x0) cmp_isNaN_string__u
    | _ => .bad
  | _ => .bad
theorem cmp_isNaN_string__hok (N : Nat) (us : List (TV EE.T)) : (cmp_isNaN_string__h N us).ok fun u => ∀ ρ, ACalls Tryz.prog 54 (us.map (TV.to EE.toEnc ρ)) [] (fun out H => out = .ret (u.to EE.toEnc ρ) ∧ H = []) := by
  unfold cmp_isNaN_string__h
  split
  · split
    · rename_i h0
      intro z hz ρ; refine acalls_le ?_ (cmp_isNaN_string__ok _ hz ρ); exact ⟨argD_le h0 ρ, trivial⟩
    · trivial
  · trivial
/-! ### cmp.Compare[string] -/
def cmp_Compare_string__u (r : Int) : TV EE.T := .a (.d (.int .i64) r)
def w40enc (r : Int) : RL EE.T := .ret (cmp_Compare_string__u r) []
def w40lv : Lvs := ⟨[], [], [], [], false, [], []⟩
def w40rs : List ResultVar := [.tmp 4]
def w40G (N : Nat) : Gam EE := ⟨[⟨54, cmp_isNaN_string__h N⟩], EQT, [], []⟩
theorem w40Gok (N : Nat) : GOk Tryz.prog TT EE (w40G N) := GOk.cons (cmp_isNaN_string__hok N) (GOk.nil EQT_ok)
def w40kE0 (c : Code) : List It2 := [.c c]
def w40sE0 (x0 : List UInt8) (x1 : List UInt8) : TS EE.T := ⟨20, [(0, .a (.d .str x0)), (1, .a (.d .str x1))], [], []⟩
def w40TE0 (c : Code) (N : Nat) (x0 : List UInt8) (x1 : List UInt8) : Tree (Lf EE.T × Option Int) :=
  .bnd (cmp_isNaN_string_ N x0) fun z1 =>
  .bnd (cmp_isNaN_string_ N x1) fun z2 =>
  .cond (z1)
  (
    .cond (z2)
    (
      .leaf (.done (w40enc 0), some 0))
    (
      .leaf (.done (w40enc (-1)), some (-1))))
  (
    .cond (z2)
    (
      .leaf (.done (w40enc 1), some 1))
    (
      .cond (Op.bytesLess x0 x1)
      (
        .leaf (.done (w40enc (-1)), some (-1)))
      (
        .cond (!(Op.bytesLess x0 x1 || decide (x0 = x1)))
        (
          .leaf (.done (w40enc 1), some 1))
        (
          .leaf (.done (w40enc 0), some 0)))))
theorem w40vE0 (N : Nat) (x0 : List UInt8) (x1 : List UInt8) : evM TT EE (w40G N) w40lv w40rs 4000 true (w40kE0 (bodyOf 0 Tryz.f40)) (w40sE0 x0 x1) = (w40TE0 (bodyOf 0 Tryz.f40) N x0 x1).map1 := by kernel_rfl
theorem w40nE0 (N : Nat) (x0 : List UInt8) (x1 : List UInt8) : cmp_Compare_string_ N x0 x1 = (w40TE0 (bodyOf 0 Tryz.f40) N x0 x1).run := by kernel_rfl
theorem w40oE0 {N : Nat} {r : Int} (x0 : List UInt8) (x1 : List UInt8) (h : cmp_Compare_string_ N x0 x1 = some r) : Ends (Y := TT) EE (w40G N) w40lv w40rs (fun u => u = w40enc r) (w40kE0 (bodyOf 0 Tryz.f40)) (w40sE0 x0 x1) :=
  tree_use (w40vE0 N x0 x1) (w40nE0 N x0 x1) h (show (w40TE0 (bodyOf 0 Tryz.f40) N x0 x1).all _ from fun _ => fun _ => ⟨⟨retp (enc := w40enc) rfl, retp (enc := w40enc) rfl⟩, ⟨retp (enc := w40enc) rfl, ⟨retp (enc := w40enc) rfl, ⟨retp (enc := w40enc) rfl, retp (enc := w40enc) rfl⟩⟩⟩⟩)
theorem cmp_Compare_string__ok {N : Nat} (x0 : List UInt8) (x1 : List UInt8) {r : Int} (h : cmp_Compare_string_ N x0 x1 = some r) (ρ : Nat → Nat) : ACalls Tryz.prog 40 (([.a (.d .str x0), .a (.d .str x1)] : List (TV EE.T)).map (TV.to EE.toEnc ρ)) [] (fun out H => out = .ret ((cmp_Compare_string__u r).to EE.toEnc ρ) ∧ H = []) :=
  (fn_ok (bodyOf 0 Tryz.f40) 20 mixed (w40Gok N) Tryz.func40 (by kernel_rfl) rfl rfl rfl rfl (w40oE0 x0 x1 h) ρ).mono fun out H h => KPost.ret rfl h
def cmp_Compare_string__h (N : Nat) : List (TV EE.T) → PV EE.T
  | [u0, u1] => match argD .str u0, argD .str u1 with
    | some x0, some x1 => .opt (cmp_Compare_string_ N x0 x1) cmp_Compare_string__u
    | _, _ => .bad
  | _ => .bad
theorem cmp_Compare_string__hok (N : Nat) (us : List (TV EE.T)) : (cmp_Compare_string__h N us).ok fun u => ∀ ρ, ACalls Tryz.prog 40 (us.map (TV.to EE.toEnc ρ)) [] (fun out H => out = .ret (u.to EE.toEnc ρ) ∧ H = []) := by
  unfold cmp_Compare_string__h
  split
  · split
    · rename_i h0 h1
      intro z hz ρ; refine acalls_le ?_ (cmp_Compare_string__ok _ _ hz ρ); exact ⟨argD_le h0 ρ, argD_le h1 ρ, trivial⟩
    · trivial
  · trivial
/-! ### gleaner/labels.byName -/
def labels_byName_u (r : Int) : TV EE.T := .a (.d (.int .i64) r)
def w28enc (r : Int) : RL EE.T := .ret (labels_byName_u r) []
def w28lv : Lvs := ⟨[], [], [], [], false, [], []⟩
def w28rs : List ResultVar := [.tmp 4]
def w28G (N : Nat) : Gam EE := ⟨[⟨40, cmp_Compare_string__h N⟩], EQT, [], []⟩
theorem w28Gok (N : Nat) : GOk Tryz.prog TT EE (w28G N) := GOk.cons (cmp_Compare_string__hok N) (GOk.nil EQT_ok)
def w28kE0 (c : Code) : List It2 := [.c c]
def w28sE0 (x0 : VLabel) (x1 : VLabel) : TS EE.T := ⟨10, [(0, .ag (unpT EE (.nam 2) x0)), (1, .ag (unpT EE (.nam 2) x1))], [], []⟩
def w28TE0 (c : Code) (N : Nat) (x0 : VLabel) (x1 : VLabel) : Tree (Lf EE.T × Option Int) :=
  .bnd (cmp_Compare_string_ N x0.Name x1.Name) fun z1 =>
  .leaf (.done (w28enc z1), some z1)
theorem w28vE0 (N : Nat) (x0 : VLabel) (x1 : VLabel) : evM TT EE (w28G N) w28lv w28rs 4000 true (w28kE0 (bodyOf 0 Tryz.f28)) (w28sE0 x0 x1) = (w28TE0 (bodyOf 0 Tryz.f28) N x0 x1).map1 := by kernel_rfl
theorem w28nE0 (N : Nat) (x0 : VLabel) (x1 : VLabel) : labels_byName N x0 x1 = (w28TE0 (bodyOf 0 Tryz.f28) N x0 x1).run := by kernel_rfl
theorem w28oE0 {N : Nat} {r : Int} (x0 : VLabel) (x1 : VLabel) (h : labels_byName N x0 x1 = some r) : Ends (Y := TT) EE (w28G N) w28lv w28rs (fun u => u = w28enc r) (w28kE0 (bodyOf 0 Tryz.f28)) (w28sE0 x0 x1) :=
  tree_use (w28vE0 N x0 x1) (w28nE0 N x0 x1) h (show (w28TE0 (bodyOf 0 Tryz.f28) N x0 x1).all _ from fun _ => retp (enc := w28enc) rfl)
theorem labels_byName_ok {N : Nat} (x0 : VLabel) (x1 : VLabel) {r : Int} (h : labels_byName N x0 x1 = some r) (ρ : Nat → Nat) : ACalls Tryz.prog 28 (([.ag (unpT EE (.nam 2) x0), .ag (unpT EE (.nam 2) x1)] : List (TV EE.T)).map (TV.to EE.toEnc ρ)) [] (fun out H => out = .ret ((labels_byName_u r).to EE.toEnc ρ) ∧ H = []) :=
  (fn_ok (bodyOf 0 Tryz.f28) 10 mixed (w28Gok N) Tryz.func28 (by kernel_rfl) rfl rfl rfl rfl (w28oE0 x0 x1 h) ρ).mono fun out H h => KPost.ret rfl h
def labels_byName_h (N : Nat) : List (TV EE.T) → PV EE.T
  | [u0, u1] => match argS EE 2 u0, argS EE 2 u1 with
    | some x0, some x1 => .opt (labels_byName N x0 x1) labels_byName_u
    | _, _ => .bad
  | _ => .bad
theorem labels_byName_hok (N : Nat) (us : List (TV EE.T)) : (labels_byName_h N us).ok fun u => ∀ ρ, ACalls Tryz.prog 28 (us.map (TV.to EE.toEnc ρ)) [] (fun out H => out = .ret (u.to EE.toEnc ρ) ∧ H = []) := by
  unfold labels_byName_h
  split
  · split
    · rename_i h0 h1
      intro z hz ρ; refine acalls_le ?_ (labels_byName_ok _ _ hz ρ); exact ⟨argS_le h0 ρ, argS_le h1 ρ, trivial⟩
    · trivial
  · trivial
/-! ### slices.IsSortedFunc[[]gleaner/api.Label,gleaner/api.Label] -/
def slices_IsSortedFunc_api_Label_api_Label__i0_u (r : Bool) : TV EE.T := .a (.d .bool r)
def w27i0hh (r : Bool) : List (Nat × TB EE.T) := []
def w27i0enc (r : Bool) : RL EE.T := .ret (slices_IsSortedFunc_api_Label_api_Label__i0_u r) (w27i0hh r)
def w27i0lv : Lvs := ⟨[(4, ⟨[(0, false), (1, false), (5, false)], [], []⟩)], [(2, ⟨[(0, false), (1, false), (5, false)], [], []⟩)], [], [], false, [], []⟩
def w27i0rs : List ResultVar := [.tmp 4]
def w27i0G (N : Nat) : Gam EE := ⟨[⟨28, labels_byName_h N⟩], EQT, [], []⟩
theorem w27i0Gok (N : Nat) : GOk Tryz.prog TT EE (w27i0G N) := GOk.cons (labels_byName_hok N) (GOk.nil EQT_ok)
def w27i0kL2 (c : Code) : List It2 := atL 2 c
def w27i0sL2 (x0 : List VLabel) (x5 : Int) : TS EE.T := ⟨25, [(0, .a (.d (.sl (.nam 2)) x0)), (1, .fn 28 []), (5, .a (.d (.int .i64) x5))], [], []⟩
def w27i0kE0 (c : Code) : List It2 := [.c c]
def w27i0sE0 (x0 : List VLabel) : TS EE.T := ⟨25, [(0, .a (.d (.sl (.nam 2)) x0)), (1, .fn 28 [])], [], []⟩
def w27i0TL2 (c : Code) (N : Nat) (n : Nat) (x0 : List VLabel) (x5 : Int) : Tree (Lf EE.T × Option Bool) :=
  .cond (decide (x5 > 0))
  (
    .bnd (idxC x0 x5) fun z1 =>
    .bnd (idxC x0 (w64 (x5 - 1))) fun z2 =>
    .bnd (labels_byName N z1 z2) fun z3 =>
    .cond (decide (z3 < 0))
    (
      .leaf (.done (w27i0enc false), some false))
    (
      .leaf (.go (w27i0kL2 c) (w27i0sL2 x0 (w64 (x5 - 1))), slices_IsSortedFunc_api_Label_api_Label__i0_L2 N n x0 (w64 (x5 - 1)))))
  (
    .leaf (.done (w27i0enc true), some true))
theorem w27i0vL2 (N : Nat) (n : Nat) (x0 : List VLabel) (x5 : Int) : evM TT EE (w27i0G N) w27i0lv w27i0rs 4000 true (w27i0kL2 (bodyOf 0 Tryz.f27)) (w27i0sL2 x0 x5) = (w27i0TL2 (bodyOf 0 Tryz.f27) N n x0 x5).map1 := by kernel_rfl
theorem w27i0nL2 (N : Nat) (n : Nat) (x0 : List VLabel) (x5 : Int) : slices_IsSortedFunc_api_Label_api_Label__i0_L2 N (n + 1) x0 x5 = (w27i0TL2 (bodyOf 0 Tryz.f27) N n x0 x5).run := by kernel_rfl
theorem w27i0oL2 {N : Nat} {r : Bool} : ∀ (n : Nat) (x0 : List VLabel) (x5 : Int), slices_IsSortedFunc_api_Label_api_Label__i0_L2 N n x0 x5 = some r → Ends (Y := TT) EE (w27i0G N) w27i0lv w27i0rs (fun u => u = w27i0enc r) (w27i0kL2 (bodyOf 0 Tryz.f27)) (w27i0sL2 x0 x5)
  | 0, _, _, h => by cases h
  | n + 1, x0, x5, h => tree_use (w27i0vL2 N n x0 x5) (w27i0nL2 N n x0 x5) h (show (w27i0TL2 (bodyOf 0 Tryz.f27) N n x0 x5).all _ from ⟨fun _ => fun _ => fun _ => ⟨retp (enc := w27i0enc) rfl, fun h => (w27i0oL2 n) _ _ h⟩, retp (enc := w27i0enc) rfl⟩)
def w27i0TE0 (c : Code) (N : Nat) (x0 : List VLabel) : Tree (Lf EE.T × Option Bool) :=
  .leaf (.go (w27i0kL2 c) (w27i0sL2 x0 (w64 ((x0.length : Int) - 1))), slices_IsSortedFunc_api_Label_api_Label__i0_L2 N N x0 (w64 ((x0.length : Int) - 1)))
theorem w27i0vE0 (N : Nat) (x0 : List VLabel) : evM TT EE (w27i0G N) w27i0lv w27i0rs 4000 true (w27i0kE0 (bodyOf 0 Tryz.f27)) (w27i0sE0 x0) = (w27i0TE0 (bodyOf 0 Tryz.f27) N x0).map1 := by kernel_rfl
theorem w27i0nE0 (N : Nat) (x0 : List VLabel) : slices_IsSortedFunc_api_Label_api_Label__i0 N x0 = (w27i0TE0 (bodyOf 0 Tryz.f27) N x0).run := by kernel_rfl
theorem w27i0oE0 {N : Nat} {r : Bool} (x0 : List VLabel) (h : slices_IsSortedFunc_api_Label_api_Label__i0 N x0 = some r) : Ends (Y := TT) EE (w27i0G N) w27i0lv w27i0rs (fun u => u = w27i0enc r) (w27i0kE0 (bodyOf 0 Tryz.f27)) (w27i0sE0 x0) :=
  tree_use (w27i0vE0 N x0) (w27i0nE0 N x0) h (show (w27i0TE0 (bodyOf 0 Tryz.f27) N x0).all _ from fun h => w27i0oL2 N _ _ h)
def w27i0us (x0 : List VLabel) : List (TV EE.T) := [.a (.d (.sl (.nam 2)) x0), .fn 28 []]
def w27i0h0 (x0 : List VLabel) : List (Nat × TB EE.T) := []
theorem slices_IsSortedFunc_api_Label_api_Label__i0_ok {N : Nat} (x0 : List VLabel) {r : Bool} (h : slices_IsSortedFunc_api_Label_api_Label__i0 N x0 = some r) (ρ : Nat → Nat) (hi : Inj ρ (w27i0h0 x0)) : ACalls Tryz.prog 27 ((w27i0us x0).map (TV.to EE.toEnc ρ)) (hTo EE.toEnc ρ (w27i0h0 x0)) (fun out H => out = .ret ((slices_IsSortedFunc_api_Label_api_Label__i0_u r).to EE.toEnc ρ) ∧ H = hTo EE.toEnc ρ (w27i0hh r)) :=
  (fn_okH (bodyOf 0 Tryz.f27) 25 mixed (w27i0Gok N) Tryz.func27 (by kernel_rfl) rfl rfl rfl rfl (w27i0oE0 x0 h) ρ hi).mono fun out H h => KPost.retH rfl rfl h
def slices_IsSortedFunc_api_Label_api_Label__i0_h (N : Nat) (us : List (TV EE.T)) (hs : List (Nat × TB EE.T)) : XR EE.T :=
  gdX (lenX us 2) <|
  bnX (aD (.sl (.nam 2)) us 0) fun x0 =>
  bnX (aF 28 us 1) fun c1 =>
  bnX (cbs c1) fun s1 =>
  gdX (lenX s1 0) <|
  gdX (goodIds hs []) <|
  .ret (slices_IsSortedFunc_api_Label_api_Label__i0 N x0) [] slices_IsSortedFunc_api_Label_api_Label__i0_u (w27i0hh)
theorem slices_IsSortedFunc_api_Label_api_Label__i0_hok (N : Nat) : XOk Tryz.prog EE 27 (slices_IsSortedFunc_api_Label_api_Label__i0_h N) := fun us hs =>
  gdX_ok fun h1 => bnX_ok fun x0 h2 => bnX_ok fun c1 h3 => bnX_ok fun s1 h4 => gdX_ok fun h5 => gdX_ok fun h6 => fun z hz => ⟨rfl, fun ρ hi => xcall (us' := w27i0us x0) (h0 := w27i0h0 x0) (ρ' := rhoS ρ []) ⟨aD_le h2, aF_le (js := []) h3 h4 (by rw [lis0 (lenX_ok h5)];  kernel_rfl), lenX_ok h1⟩ trivial (slices_IsSortedFunc_api_Label_api_Label__i0_ok x0 hz _ (rhoS_inj hi h6 _ (by kernel_rfl))) (fun out H h => ⟨h.1.trans (by kernel_rfl), h.2.trans (by kernel_rfl)⟩)⟩
/-! ### gleaner/labels.Check -/
def labels_Check_u (r : Int) : TV EE.T := .a (.d (.int .i64) r)
def w14enc (r : Int) : RL EE.T := .ret (labels_Check_u r) []
def w14lv : Lvs := ⟨[], [], [], [], false, [], []⟩
def w14rs : List ResultVar := [.tmp 2]
def w14G (N : Nat) : Gam EE := ⟨[⟨26, labels_each_h N⟩], EQT, [⟨27, slices_IsSortedFunc_api_Label_api_Label__i0_h N⟩], []⟩
theorem w14Gok (N : Nat) : GOk Tryz.prog TT EE (w14G N) := GOk.cons (labels_each_hok N) (GOk.consx (slices_IsSortedFunc_api_Label_api_Label__i0_hok N) (GOk.nil EQT_ok))
def w14kE0 (c : Code) : List It2 := [.c c]
def w14sE0 (x0 : List VLabel) : TS EE.T := ⟨12, [(0, .a (.d (.sl (.nam 2)) x0))], [], []⟩
def w14TE0 (c : Code) (N : Nat) (x0 : List VLabel) : Tree (Lf EE.T × Option Int) :=
  .bnd (labels_each N x0 false) fun z1 =>
  .cond (z1 != 0)
  (
    .leaf (.done (w14enc z1), some z1))
  (
    .bnd (slices_IsSortedFunc_api_Label_api_Label__i0 N x0) fun z2 =>
    .cond (!z2)
    (
      .leaf (.done (w14enc 4), some 4))
    (
      .leaf (.done (w14enc 0), some 0)))
theorem w14vE0 (N : Nat) (x0 : List VLabel) : evM TT EE (w14G N) w14lv w14rs 4000 true (w14kE0 (bodyOf 0 Tryz.f14)) (w14sE0 x0) = (w14TE0 (bodyOf 0 Tryz.f14) N x0).map1 := by kernel_rfl
theorem w14nE0 (N : Nat) (x0 : List VLabel) : labels_Check N x0 = (w14TE0 (bodyOf 0 Tryz.f14) N x0).run := by kernel_rfl
theorem w14oE0 {N : Nat} {r : Int} (x0 : List VLabel) (h : labels_Check N x0 = some r) : Ends (Y := TT) EE (w14G N) w14lv w14rs (fun u => u = w14enc r) (w14kE0 (bodyOf 0 Tryz.f14)) (w14sE0 x0) :=
  tree_use (w14vE0 N x0) (w14nE0 N x0) h (show (w14TE0 (bodyOf 0 Tryz.f14) N x0).all _ from fun _ => ⟨retp (enc := w14enc) rfl, fun _ => ⟨retp (enc := w14enc) rfl, retp (enc := w14enc) rfl⟩⟩)
theorem labels_Check_ok {N : Nat} (x0 : List VLabel) {r : Int} (h : labels_Check N x0 = some r) (ρ : Nat → Nat) : ACalls Tryz.prog 14 (([.a (.d (.sl (.nam 2)) x0)] : List (TV EE.T)).map (TV.to EE.toEnc ρ)) [] (fun out H => out = .ret ((labels_Check_u r).to EE.toEnc ρ) ∧ H = []) :=
  (fn_ok (bodyOf 0 Tryz.f14) 12 mixed (w14Gok N) Tryz.func14 (by kernel_rfl) rfl rfl rfl rfl (w14oE0 x0 h) ρ).mono fun out H h => KPost.ret rfl h
def labels_Check_h (N : Nat) : List (TV EE.T) → PV EE.T
  | [u0] => match argD (.sl (.nam 2)) u0 with
    | some x0 => .opt (labels_Check N x0) labels_Check_u
    | _ => .bad
  | _ => .bad
theorem labels_Check_hok (N : Nat) (us : List (TV EE.T)) : (labels_Check_h N us).ok fun u => ∀ ρ, ACalls Tryz.prog 14 (us.map (TV.to EE.toEnc ρ)) [] (fun out H => out = .ret (u.to EE.toEnc ρ) ∧ H = []) := by
  unfold labels_Check_h
  split
  · split
    · rename_i h0
      intro z hz ρ; refine acalls_le ?_ (labels_Check_ok _ hz ρ); exact ⟨argD_le h0 ρ, trivial⟩
    · trivial
  · trivial
/-! ### gleaner/labels.check -/
def labels_check_u (r : Int) : TV EE.T := .a (.d (.int .i64) r)
def w18enc (r : Int) : RL EE.T := .ret (labels_check_u r) []
def w18lv : Lvs := ⟨[], [(2, ⟨[(6, false), (7, false), (8, false)], [], []⟩)], [], [], false, [], []⟩
def w18rs : List ResultVar := [.tmp 2]
def w18G (N : Nat) : Gam EE := ⟨[⟨14, labels_Check_h N⟩], EQT, [], []⟩
theorem w18Gok (N : Nat) : GOk Tryz.prog TT EE (w18G N) := GOk.cons (labels_Check_hok N) (GOk.nil EQT_ok)
def w18kL2 (c : Code) : List It2 := atL 2 c
def w18sL2 (x6 : List (List VLabel)) (x7 : Int) (x8 : Int) : TS EE.T := ⟨18, [(6, .a (.d (.sl (.sl (.nam 2))) x6)), (7, .a (.d (.int .i64) x7)), (8, .a (.d (.int .i64) x8))], [], []⟩
def w18kE0 (c : Code) : List It2 := [.c c]
def w18sE0 (x0 : List (List VLabel)) : TS EE.T := ⟨18, [(0, .a (.d (.sl (.sl (.nam 2))) x0))], [], []⟩
def w18TL2 (c : Code) (N : Nat) (n : Nat) (x6 : List (List VLabel)) (x7 : Int) (x8 : Int) : Tree (Lf EE.T × Option Int) :=
  .cond (decide (x8 < x7))
  (
    .bnd (idxC x6 x8) fun z1 =>
    .bnd (labels_Check N z1) fun z2 =>
    .cond (z2 != 0)
    (
      .leaf (.done (w18enc z2), some z2))
    (
      .leaf (.go (w18kL2 c) (w18sL2 x6 x7 (w64 (x8 + 1))), labels_check_L2 N n x6 x7 (w64 (x8 + 1)))))
  (
    .leaf (.done (w18enc 0), some 0))
theorem w18vL2 (N : Nat) (n : Nat) (x6 : List (List VLabel)) (x7 : Int) (x8 : Int) : evM TT EE (w18G N) w18lv w18rs 4000 true (w18kL2 (bodyOf 0 Tryz.f18)) (w18sL2 x6 x7 x8) = (w18TL2 (bodyOf 0 Tryz.f18) N n x6 x7 x8).map1 := by kernel_rfl
theorem w18nL2 (N : Nat) (n : Nat) (x6 : List (List VLabel)) (x7 : Int) (x8 : Int) : labels_check_L2 N (n + 1) x6 x7 x8 = (w18TL2 (bodyOf 0 Tryz.f18) N n x6 x7 x8).run := by kernel_rfl
theorem w18oL2 {N : Nat} {r : Int} : ∀ (n : Nat) (x6 : List (List VLabel)) (x7 : Int) (x8 : Int), labels_check_L2 N n x6 x7 x8 = some r → Ends (Y := TT) EE (w18G N) w18lv w18rs (fun u => u = w18enc r) (w18kL2 (bodyOf 0 Tryz.f18)) (w18sL2 x6 x7 x8)
  | 0, _, _, _, h => by cases h
  | n + 1, x6, x7, x8, h => tree_use (w18vL2 N n x6 x7 x8) (w18nL2 N n x6 x7 x8) h (show (w18TL2 (bodyOf 0 Tryz.f18) N n x6 x7 x8).all _ from ⟨fun _ => fun _ => ⟨retp (enc := w18enc) rfl, fun h => (w18oL2 n) _ _ _ h⟩, retp (enc := w18enc) rfl⟩)
def w18TE0 (c : Code) (N : Nat) (x0 : List (List VLabel)) : Tree (Lf EE.T × Option Int) :=
  .leaf (.go (w18kL2 c) (w18sL2 x0 (x0.length : Int) 0), labels_check_L2 N N x0 (x0.length : Int) 0)
theorem w18vE0 (N : Nat) (x0 : List (List VLabel)) : evM TT EE (w18G N) w18lv w18rs 4000 true (w18kE0 (bodyOf 0 Tryz.f18)) (w18sE0 x0) = (w18TE0 (bodyOf 0 Tryz.f18) N x0).map1 := by kernel_rfl
theorem w18nE0 (N : Nat) (x0 : List (List VLabel)) : labels_check N x0 = (w18TE0 (bodyOf 0 Tryz.f18) N x0).run := by kernel_rfl
theorem w18oE0 {N : Nat} {r : Int} (x0 : List (List VLabel)) (h : labels_check N x0 = some r) : Ends (Y := TT) EE (w18G N) w18lv w18rs (fun u => u = w18enc r) (w18kE0 (bodyOf 0 Tryz.f18)) (w18sE0 x0) :=
  tree_use (w18vE0 N x0) (w18nE0 N x0) h (show (w18TE0 (bodyOf 0 Tryz.f18) N x0).all _ from fun h => w18oL2 N _ _ _ h)
theorem labels_check_ok {N : Nat} (x0 : List (List VLabel)) {r : Int} (h : labels_check N x0 = some r) (ρ : Nat → Nat) : ACalls Tryz.prog 18 (([.a (.d (.sl (.sl (.nam 2))) x0)] : List (TV EE.T)).map (TV.to EE.toEnc ρ)) [] (fun out H => out = .ret ((labels_check_u r).to EE.toEnc ρ) ∧ H = []) :=
  (fn_ok (bodyOf 0 Tryz.f18) 18 mixed (w18Gok N) Tryz.func18 (by kernel_rfl) rfl rfl rfl rfl (w18oE0 x0 h) ρ).mono fun out H h => KPost.ret rfl h
def labels_check_h (N : Nat) : List (TV EE.T) → PV EE.T
  | [u0] => match argD (.sl (.sl (.nam 2))) u0 with
    | some x0 => .opt (labels_check N x0) labels_check_u
    | _ => .bad
  | _ => .bad
theorem labels_check_hok (N : Nat) (us : List (TV EE.T)) : (labels_check_h N us).ok fun u => ∀ ρ, ACalls Tryz.prog 18 (us.map (TV.to EE.toEnc ρ)) [] (fun out H => out = .ret (u.to EE.toEnc ρ) ∧ H = []) := by
  unfold labels_check_h
  split
  · split
    · rename_i h0
      intro z hz ρ; refine acalls_le ?_ (labels_check_ok _ hz ρ); exact ⟨argD_le h0 ρ, trivial⟩
    · trivial
  · trivial
/-! ### gleaner/labels.find$1 -/
def labels_find_1_u (r : Int) : TV EE.T := .a (.d (.int .i64) r)
def w45enc (r : Int) : RL EE.T := .ret (labels_find_1_u r) []
def w45lv : Lvs := ⟨[], [], [], [], false, [], []⟩
def w45rs : List ResultVar := [.tmp 4]
def w45G (N : Nat) : Gam EE := ⟨[⟨40, cmp_Compare_string__h N⟩], EQT, [], []⟩
theorem w45Gok (N : Nat) : GOk Tryz.prog TT EE (w45G N) := GOk.cons (cmp_Compare_string__hok N) (GOk.nil EQT_ok)
def w45kE0 (c : Code) : List It2 := [.c c]
def w45sE0 (x0 : VLabel) (x1 : List UInt8) : TS EE.T := ⟨9, [(0, .ag (unpT EE (.nam 2) x0)), (1, .a (.d .str x1))], [], []⟩
def w45TE0 (c : Code) (N : Nat) (x0 : VLabel) (x1 : List UInt8) : Tree (Lf EE.T × Option Int) :=
  .bnd (cmp_Compare_string_ N x0.Name x1) fun z1 =>
  .leaf (.done (w45enc z1), some z1)
theorem w45vE0 (N : Nat) (x0 : VLabel) (x1 : List UInt8) : evM TT EE (w45G N) w45lv w45rs 4000 true (w45kE0 (bodyOf 0 Tryz.f45)) (w45sE0 x0 x1) = (w45TE0 (bodyOf 0 Tryz.f45) N x0 x1).map1 := by kernel_rfl
theorem w45nE0 (N : Nat) (x0 : VLabel) (x1 : List UInt8) : labels_find_1 N x0 x1 = (w45TE0 (bodyOf 0 Tryz.f45) N x0 x1).run := by kernel_rfl
theorem w45oE0 {N : Nat} {r : Int} (x0 : VLabel) (x1 : List UInt8) (h : labels_find_1 N x0 x1 = some r) : Ends (Y := TT) EE (w45G N) w45lv w45rs (fun u => u = w45enc r) (w45kE0 (bodyOf 0 Tryz.f45)) (w45sE0 x0 x1) :=
  tree_use (w45vE0 N x0 x1) (w45nE0 N x0 x1) h (show (w45TE0 (bodyOf 0 Tryz.f45) N x0 x1).all _ from fun _ => retp (enc := w45enc) rfl)
theorem labels_find_1_ok {N : Nat} (x0 : VLabel) (x1 : List UInt8) {r : Int} (h : labels_find_1 N x0 x1 = some r) (ρ : Nat → Nat) : ACalls Tryz.prog 45 (([.ag (unpT EE (.nam 2) x0), .a (.d .str x1)] : List (TV EE.T)).map (TV.to EE.toEnc ρ)) [] (fun out H => out = .ret ((labels_find_1_u r).to EE.toEnc ρ) ∧ H = []) :=
  (fn_ok (bodyOf 0 Tryz.f45) 9 mixed (w45Gok N) Tryz.func45 (by kernel_rfl) rfl rfl rfl rfl (w45oE0 x0 x1 h) ρ).mono fun out H h => KPost.ret rfl h
def labels_find_1_h (N : Nat) : List (TV EE.T) → PV EE.T
  | [u0, u1] => match argS EE 2 u0, argD .str u1 with
    | some x0, some x1 => .opt (labels_find_1 N x0 x1) labels_find_1_u
    | _, _ => .bad
  | _ => .bad
theorem labels_find_1_hok (N : Nat) (us : List (TV EE.T)) : (labels_find_1_h N us).ok fun u => ∀ ρ, ACalls Tryz.prog 45 (us.map (TV.to EE.toEnc ρ)) [] (fun out H => out = .ret (u.to EE.toEnc ρ) ∧ H = []) := by
  unfold labels_find_1_h
  split
  · split
    · rename_i h0 h1
      intro z hz ρ; refine acalls_le ?_ (labels_find_1_ok _ _ hz ρ); exact ⟨argS_le h0 ρ, argD_le h1 ρ, trivial⟩
    · trivial
  · trivial
/-! ### slices.BinarySearchFunc[[]gleaner/api.Label,gleaner/api.Label,string] -/
def slices_BinarySearchFunc_api_Label_api_Label_string__i0_u (r : Int × Bool) : TV EE.T := .tu [.a (.d (.int .i64) r.1), .a (.d .bool r.2)]
def w44i0hh (r : Int × Bool) : List (Nat × TB EE.T) := []
def w44i0enc (r : Int × Bool) : RL EE.T := .ret (slices_BinarySearchFunc_api_Label_api_Label_string__i0_u r) (w44i0hh r)
def w44i0lv : Lvs := ⟨[], [(3, ⟨[(0, false), (1, false), (2, false), (8, false), (9, false), (10, false)], [], []⟩)], [], [], false, [], []⟩
def w44i0rs : List ResultVar := [.tmp 6, .tmp 7]
def w44i0G (N : Nat) : Gam EE := ⟨[], EQT, [⟨45, xOf (labels_find_1_h N)⟩], []⟩
theorem w44i0Gok (N : Nat) : GOk Tryz.prog TT EE (w44i0G N) := GOk.consx (xOf_ok (labels_find_1_hok N)) (GOk.nil EQT_ok)
def w44i0kL3 (c : Code) : List It2 := atL 3 c
def w44i0sL3 (x0 : List VLabel) (x1 : List UInt8) (x8 : Int) (x9 : Int) (x10 : Int) : TS EE.T := ⟨49, [(0, .a (.d (.sl (.nam 2)) x0)), (1, .a (.d .str x1)), (2, .fn 45 []), (8, .a (.d (.int .i64) x8)), (9, .a (.d (.int .i64) x9)), (10, .a (.d (.int .i64) x10))], [], []⟩
def w44i0kE0 (c : Code) : List It2 := [.c c]
def w44i0sE0 (x0 : List VLabel) (x1 : List UInt8) : TS EE.T := ⟨49, [(0, .a (.d (.sl (.nam 2)) x0)), (1, .a (.d .str x1)), (2, .fn 45 [])], [], []⟩
def w44i0TL3 (c : Code) (N : Nat) (n : Nat) (x0 : List VLabel) (x1 : List UInt8) (x8 : Int) (x9 : Int) (x10 : Int) : Tree (Lf EE.T × Option (Int × Bool)) :=
  .cond (decide (x9 < x10))
  (
    .bnd (shrC .u64 (IntKind.wrap .u64 (w64 (x9 + x10))) 1) fun z1 =>
    .bnd (idxC x0 (w64 z1)) fun z2 =>
    .bnd (labels_find_1 N z2 x1) fun z3 =>
    .cond (decide (z3 < 0))
    (
      .leaf (.go (w44i0kL3 c) (w44i0sL3 x0 x1 x8 (w64 ((w64 z1) + 1)) x10), slices_BinarySearchFunc_api_Label_api_Label_string__i0_L3 N n x0 x1 x8 (w64 ((w64 z1) + 1)) x10))
    (
      .leaf (.go (w44i0kL3 c) (w44i0sL3 x0 x1 x8 x9 (w64 z1)), slices_BinarySearchFunc_api_Label_api_Label_string__i0_L3 N n x0 x1 x8 x9 (w64 z1))))
  (
    .cond (decide (x9 < x8))
    (
      .bnd (idxC x0 x9) fun z4 =>
      .bnd (labels_find_1 N z4 x1) fun z5 =>
      .leaf (.done (w44i0enc (x9, z5 == 0)), some (x9, z5 == 0)))
    (
      .leaf (.done (w44i0enc (x9, false)), some (x9, false))))
theorem w44i0vL3 (N : Nat) (n : Nat) (x0 : List VLabel) (x1 : List UInt8) (x8 : Int) (x9 : Int) (x10 : Int) : evM TT EE (w44i0G N) w44i0lv w44i0rs 4000 true (w44i0kL3 (bodyOf 0 Tryz.f44)) (w44i0sL3 x0 x1 x8 x9 x10) = (w44i0TL3 (bodyOf 0 Tryz.f44) N n x0 x1 x8 x9 x10).map1 := by kernel_rfl
theorem w44i0nL3 (N : Nat) (n : Nat) (x0 : List VLabel) (x1 : List UInt8) (x8 : Int) (x9 : Int) (x10 : Int) : slices_BinarySearchFunc_api_Label_api_Label_string__i0_L3 N (n + 1) x0 x1 x8 x9 x10 = (w44i0TL3 (bodyOf 0 Tryz.f44) N n x0 x1 x8 x9 x10).run := by kernel_rfl
theorem w44i0oL3 {N : Nat} {r : Int × Bool} : ∀ (n : Nat) (x0 : List VLabel) (x1 : List UInt8) (x8 : Int) (x9 : Int) (x10 : Int), slices_BinarySearchFunc_api_Label_api_Label_string__i0_L3 N n x0 x1 x8 x9 x10 = some r → Ends (Y := TT) EE (w44i0G N) w44i0lv w44i0rs (fun u => u = w44i0enc r) (w44i0kL3 (bodyOf 0 Tryz.f44)) (w44i0sL3 x0 x1 x8 x9 x10)
  | 0, _, _, _, _, _, h => by cases h
  | n + 1, x0, x1, x8, x9, x10, h => tree_use (w44i0vL3 N n x0 x1 x8 x9 x10) (w44i0nL3 N n x0 x1 x8 x9 x10) h (show (w44i0TL3 (bodyOf 0 Tryz.f44) N n x0 x1 x8 x9 x10).all _ from ⟨fun _ => fun _ => fun _ => ⟨fun h => (w44i0oL3 n) _ _ _ _ _ h, fun h => (w44i0oL3 n) _ _ _ _ _ h⟩, ⟨fun _ => fun _ => retp (enc := w44i0enc) rfl, retp (enc := w44i0enc) rfl⟩⟩)
def w44i0TE0 (c : Code) (N : Nat) (x0 : List VLabel) (x1 : List UInt8) : Tree (Lf EE.T × Option (Int × Bool)) :=
  .leaf (.go (w44i0kL3 c) (w44i0sL3 x0 x1 (x0.length : Int) 0 (x0.length : Int)), slices_BinarySearchFunc_api_Label_api_Label_string__i0_L3 N N x0 x1 (x0.length : Int) 0 (x0.length : Int))
theorem w44i0vE0 (N : Nat) (x0 : List VLabel) (x1 : List UInt8) : evM TT EE (w44i0G N) w44i0lv w44i0rs 4000 true (w44i0kE0 (bodyOf 0 Tryz.f44)) (w44i0sE0 x0 x1) = (w44i0TE0 (bodyOf 0 Tryz.f44) N x0 x1).map1 := by kernel_rfl
theorem w44i0nE0 (N : Nat) (x0 : List VLabel) (x1 : List UInt8) : slices_BinarySearchFunc_api_Label_api_Label_string__i0 N x0 x1 = (w44i0TE0 (bodyOf 0 Tryz.f44) N x0 x1).run := by kernel_rfl
theorem w44i0oE0 {N : Nat} {r : Int × Bool} (x0 : List VLabel) (x1 : List UInt8) (h : slices_BinarySearchFunc_api_Label_api_Label_string__i0 N x0 x1 = some r) : Ends (Y := TT) EE (w44i0G N) w44i0lv w44i0rs (fun u => u = w44i0enc r) (w44i0kE0 (bodyOf 0 Tryz.f44)) (w44i0sE0 x0 x1) :=
  tree_use (w44i0vE0 N x0 x1) (w44i0nE0 N x0 x1) h (show (w44i0TE0 (bodyOf 0 Tryz.f44) N x0 x1).all _ from fun h => w44i0oL3 N _ _ _ _ _ h)
def w44i0us (x0 : List VLabel) (x1 : List UInt8) : List (TV EE.T) := [.a (.d (.sl (.nam 2)) x0), .a (.d .str x1), .fn 45 []]
def w44i0h0 (x0 : List VLabel) (x1 : List UInt8) : List (Nat × TB EE.T) := []
theorem slices_BinarySearchFunc_api_Label_api_Label_string__i0_ok {N : Nat} (x0 : List VLabel) (x1 : List UInt8) {r : Int × Bool} (h : slices_BinarySearchFunc_api_Label_api_Label_string__i0 N x0 x1 = some r) (ρ : Nat → Nat) (hi : Inj ρ (w44i0h0 x0 x1)) : ACalls Tryz.prog 44 ((w44i0us x0 x1).map (TV.to EE.toEnc ρ)) (hTo EE.toEnc ρ (w44i0h0 x0 x1)) (fun out H => out = .ret ((slices_BinarySearchFunc_api_Label_api_Label_string__i0_u r).to EE.toEnc ρ) ∧ H = hTo EE.toEnc ρ (w44i0hh r)) :=
  (fn_okH (bodyOf 0 Tryz.f44) 49 mixed (w44i0Gok N) Tryz.func44 (by kernel_rfl) rfl rfl rfl rfl (w44i0oE0 x0 x1 h) ρ hi).mono fun out H h => KPost.retH rfl rfl h
def slices_BinarySearchFunc_api_Label_api_Label_string__i0_h (N : Nat) (us : List (TV EE.T)) (hs : List (Nat × TB EE.T)) : XR EE.T :=
  gdX (lenX us 3) <|
  bnX (aD (.sl (.nam 2)) us 0) fun x0 =>
  bnX (aD .str us 1) fun x1 =>
  bnX (aF 45 us 2) fun c2 =>
  bnX (cbs c2) fun s2 =>
  gdX (lenX s2 0) <|
  gdX (goodIds hs []) <|
  .ret (slices_BinarySearchFunc_api_Label_api_Label_string__i0 N x0 x1) [] slices_BinarySearchFunc_api_Label_api_Label_string__i0_u (w44i0hh)
theorem slices_BinarySearchFunc_api_Label_api_Label_string__i0_hok (N : Nat) : XOk Tryz.prog EE 44 (slices_BinarySearchFunc_api_Label_api_Label_string__i0_h N) := fun us hs =>
  gdX_ok fun h1 => bnX_ok fun x0 h2 => bnX_ok fun x1 h3 => bnX_ok fun c2 h4 => bnX_ok fun s2 h5 => gdX_ok fun h6 => gdX_ok fun h7 => fun z hz => ⟨rfl, fun ρ hi => xcall (us' := w44i0us x0 x1) (h0 := w44i0h0 x0 x1) (ρ' := rhoS ρ []) ⟨aD_le h2, aD_le h3, aF_le (js := []) h4 h5 (by rw [lis0 (lenX_ok h6)];  kernel_rfl), lenX_ok h1⟩ trivial (slices_BinarySearchFunc_api_Label_api_Label_string__i0_ok x0 x1 hz _ (rhoS_inj hi h7 _ (by kernel_rfl))) (fun out H h => ⟨h.1.trans (by kernel_rfl), h.2.trans (by kernel_rfl)⟩)⟩
/-! ### gleaner/labels.find -/
def labels_find_u (r : Int × Bool) : TV EE.T := .tu [.a (.d (.int .i64) r.1), .a (.d .bool r.2)]
def w33enc (r : Int × Bool) : RL EE.T := .ret (labels_find_u r) []
def w33lv : Lvs := ⟨[], [], [], [], false, [], []⟩
def w33rs : List ResultVar := [.tmp 4, .tmp 5]
def w33G (N : Nat) : Gam EE := ⟨[], EQT, [⟨44, slices_BinarySearchFunc_api_Label_api_Label_string__i0_h N⟩], []⟩
theorem w33Gok (N : Nat) : GOk Tryz.prog TT EE (w33G N) := GOk.consx (slices_BinarySearchFunc_api_Label_api_Label_string__i0_hok N) (GOk.nil EQT_ok)
def w33kE0 (c : Code) : List It2 := [.c c]
def w33sE0 (x0 : List VLabel) (x1 : List UInt8) : TS EE.T := ⟨11, [(0, .a (.d (.sl (.nam 2)) x0)), (1, .a (.d .str x1))], [], []⟩
def w33TE0 (c : Code) (N : Nat) (x0 : List VLabel) (x1 : List UInt8) : Tree (Lf EE.T × Option (Int × Bool)) :=
  .bnd (slices_BinarySearchFunc_api_Label_api_Label_string__i0 N x0 x1) fun z1 =>
  .leaf (.done (w33enc (z1.1, z1.2)), some (z1.1, z1.2))
theorem w33vE0 (N : Nat) (x0 : List VLabel) (x1 : List UInt8) : evM TT EE (w33G N) w33lv w33rs 4000 true (w33kE0 (bodyOf 0 Tryz.f33)) (w33sE0 x0 x1) = (w33TE0 (bodyOf 0 Tryz.f33) N x0 x1).map1 := by kernel_rfl
theorem w33nE0 (N : Nat) (x0 : List VLabel) (x1 : List UInt8) : labels_find N x0 x1 = (w33TE0 (bodyOf 0 Tryz.f33) N x0 x1).run := by kernel_rfl
theorem w33oE0 {N : Nat} {r : Int × Bool} (x0 : List VLabel) (x1 : List UInt8) (h : labels_find N x0 x1 = some r) : Ends (Y := TT) EE (w33G N) w33lv w33rs (fun u => u = w33enc r) (w33kE0 (bodyOf 0 Tryz.f33)) (w33sE0 x0 x1) :=
  tree_use (w33vE0 N x0 x1) (w33nE0 N x0 x1) h (show (w33TE0 (bodyOf 0 Tryz.f33) N x0 x1).all _ from fun _ => retp (enc := w33enc) rfl)
theorem labels_find_ok {N : Nat} (x0 : List VLabel) (x1 : List UInt8) {r : Int × Bool} (h : labels_find N x0 x1 = some r) (ρ : Nat → Nat) : ACalls Tryz.prog 33 (([.a (.d (.sl (.nam 2)) x0), .a (.d .str x1)] : List (TV EE.T)).map (TV.to EE.toEnc ρ)) [] (fun out H => out = .ret ((labels_find_u r).to EE.toEnc ρ) ∧ H = []) :=
  (fn_ok (bodyOf 0 Tryz.f33) 11 mixed (w33Gok N) Tryz.func33 (by kernel_rfl) rfl rfl rfl rfl (w33oE0 x0 x1 h) ρ).mono fun out H h => KPost.ret rfl h
def labels_find_h (N : Nat) : List (TV EE.T) → PV EE.T
  | [u0, u1] => match argD (.sl (.nam 2)) u0, argD .str u1 with
    | some x0, some x1 => .opt (labels_find N x0 x1) labels_find_u
    | _, _ => .bad
  | _ => .bad
theorem labels_find_hok (N : Nat) (us : List (TV EE.T)) : (labels_find_h N us).ok fun u => ∀ ρ, ACalls Tryz.prog 33 (us.map (TV.to EE.toEnc ρ)) [] (fun out H => out = .ret (u.to EE.toEnc ρ) ∧ H = []) := by
  unfold labels_find_h
  split
  · split
    · rename_i h0 h1
      intro z hz ρ; refine acalls_le ?_ (labels_find_ok _ _ hz ρ); exact ⟨argD_le h0 ρ, argD_le h1 ρ, trivial⟩
    · trivial
  · trivial
/-! ### gleaner/labels.Value -/
def labels_Value_u (r : List UInt8) : TV EE.T := .a (.d .str r)
def w25enc (r : List UInt8) : RL EE.T := .ret (labels_Value_u r) []
def w25lv : Lvs := ⟨[], [], [], [], false, [], []⟩
def w25rs : List ResultVar := [.tmp 4]
def w25G (N : Nat) : Gam EE := ⟨[⟨33, labels_find_h N⟩], EQT, [], []⟩
theorem w25Gok (N : Nat) : GOk Tryz.prog TT EE (w25G N) := GOk.cons (labels_find_hok N) (GOk.nil EQT_ok)
def w25kE0 (c : Code) : List It2 := [.c c]
def w25sE0 (x0 : List VLabel) (x1 : List UInt8) : TS EE.T := ⟨19, [(0, .a (.d (.sl (.nam 2)) x0)), (1, .a (.d .str x1))], [], []⟩
def w25TE0 (c : Code) (N : Nat) (x0 : List VLabel) (x1 : List UInt8) : Tree (Lf EE.T × Option (List UInt8)) :=
  .bnd (labels_find N x0 x1) fun z1 =>
  .cond (z1.2)
  (
    .bnd (idxC x0 z1.1) fun z2 =>
    .leaf (.done (w25enc z2.Value), some z2.Value))
  (
    .leaf (.done (w25enc ([] : List UInt8)), some ([] : List UInt8)))
theorem w25vE0 (N : Nat) (x0 : List VLabel) (x1 : List UInt8) : evM TT EE (w25G N) w25lv w25rs 4000 true (w25kE0 (bodyOf 0 Tryz.f25)) (w25sE0 x0 x1) = (w25TE0 (bodyOf 0 Tryz.f25) N x0 x1).map1 := by kernel_rfl
theorem w25nE0 (N : Nat) (x0 : List VLabel) (x1 : List UInt8) : labels_Value N x0 x1 = (w25TE0 (bodyOf 0 Tryz.f25) N x0 x1).run := by kernel_rfl
theorem w25oE0 {N : Nat} {r : List UInt8} (x0 : List VLabel) (x1 : List UInt8) (h : labels_Value N x0 x1 = some r) : Ends (Y := TT) EE (w25G N) w25lv w25rs (fun u => u = w25enc r) (w25kE0 (bodyOf 0 Tryz.f25)) (w25sE0 x0 x1) :=
  tree_use (w25vE0 N x0 x1) (w25nE0 N x0 x1) h (show (w25TE0 (bodyOf 0 Tryz.f25) N x0 x1).all _ from fun _ => ⟨fun _ => retp (enc := w25enc) rfl, retp (enc := w25enc) rfl⟩)
theorem labels_Value_ok {N : Nat} (x0 : List VLabel) (x1 : List UInt8) {r : List UInt8} (h : labels_Value N x0 x1 = some r) (ρ : Nat → Nat) : ACalls Tryz.prog 25 (([.a (.d (.sl (.nam 2)) x0), .a (.d .str x1)] : List (TV EE.T)).map (TV.to EE.toEnc ρ)) [] (fun out H => out = .ret ((labels_Value_u r).to EE.toEnc ρ) ∧ H = []) :=
  (fn_ok (bodyOf 0 Tryz.f25) 19 mixed (w25Gok N) Tryz.func25 (by kernel_rfl) rfl rfl rfl rfl (w25oE0 x0 x1 h) ρ).mono fun out H h => KPost.ret rfl h
def labels_Value_h (N : Nat) : List (TV EE.T) → PV EE.T
  | [u0, u1] => match argD (.sl (.nam 2)) u0, argD .str u1 with
    | some x0, some x1 => .opt (labels_Value N x0 x1) labels_Value_u
    | _, _ => .bad
  | _ => .bad
theorem labels_Value_hok (N : Nat) (us : List (TV EE.T)) : (labels_Value_h N us).ok fun u => ∀ ρ, ACalls Tryz.prog 25 (us.map (TV.to EE.toEnc ρ)) [] (fun out H => out = .ret (u.to EE.toEnc ρ) ∧ H = []) := by
  unfold labels_Value_h
  split
  · split
    · rename_i h0 h1
      intro z hz ρ; refine acalls_le ?_ (labels_Value_ok _ _ hz ρ); exact ⟨argD_le h0 ρ, argD_le h1 ρ, trivial⟩
    · trivial
  · trivial
/-! ### gleaner/labels.Get -/
def labels_Get_u (r : (List UInt8) × Int) : TV EE.T := .tu [.a (.d .str r.1), .a (.d (.int .i64) r.2)]
def w12enc (r : (List UInt8) × Int) : RL EE.T := .ret (labels_Get_u r) []
def w12lv : Lvs := ⟨[], [], [], [], false, [], []⟩
def w12rs : List ResultVar := [.tmp 4, .tmp 5]
def w12G (N : Nat) : Gam EE := ⟨[⟨19, labels_IsName_h N⟩, ⟨25, labels_Value_h N⟩, ⟨18, labels_check_h N⟩], EQT, [], []⟩
theorem w12Gok (N : Nat) : GOk Tryz.prog TT EE (w12G N) := GOk.cons (labels_IsName_hok N) (GOk.cons (labels_Value_hok N) (GOk.cons (labels_check_hok N) (GOk.nil EQT_ok)))
def w12kE0 (c : Code) : List It2 := [.c c]
def w12sE0 (x0 : List VLabel) (x1 : List UInt8) : TS EE.T := ⟨19, [(0, .a (.d (.sl (.nam 2)) x0)), (1, .a (.d .str x1))], [], []⟩
def w12TE0 (c : Code) (N : Nat) (x0 : List VLabel) (x1 : List UInt8) : Tree (Lf EE.T × Option ((List UInt8) × Int)) :=
  .bnd (labels_check N ([x0] : List (List VLabel))) fun z1 =>
  .cond (z1 != 0)
  (
    .leaf (.done (w12enc (([] : List UInt8), z1)), some (([] : List UInt8), z1)))
  (
    .bnd (labels_IsName N x1) fun z2 =>
    .cond (!z2)
    (
      .leaf (.done (w12enc (([] : List UInt8), 1)), some (([] : List UInt8), 1)))
    (
      .bnd (labels_Value N x0 x1) fun z3 =>
      .leaf (.done (w12enc (z3, 0)), some (z3, 0))))
theorem w12vE0 (N : Nat) (x0 : List VLabel) (x1 : List UInt8) : evM TT EE (w12G N) w12lv w12rs 4000 true (w12kE0 (bodyOf 0 Tryz.f12)) (w12sE0 x0 x1) = (w12TE0 (bodyOf 0 Tryz.f12) N x0 x1).map1 := by kernel_rfl
theorem w12nE0 (N : Nat) (x0 : List VLabel) (x1 : List UInt8) : labels_Get N x0 x1 = (w12TE0 (bodyOf 0 Tryz.f12) N x0 x1).run := by kernel_rfl
theorem w12oE0 {N : Nat} {r : (List UInt8) × Int} (x0 : List VLabel) (x1 : List UInt8) (h : labels_Get N x0 x1 = some r) : Ends (Y := TT) EE (w12G N) w12lv w12rs (fun u => u = w12enc r) (w12kE0 (bodyOf 0 Tryz.f12)) (w12sE0 x0 x1) :=
  tree_use (w12vE0 N x0 x1) (w12nE0 N x0 x1) h (show (w12TE0 (bodyOf 0 Tryz.f12) N x0 x1).all _ from fun _ => ⟨retp (enc := w12enc) rfl, fun _ => ⟨retp (enc := w12enc) rfl, fun _ => retp (enc := w12enc) rfl⟩⟩)
theorem labels_Get_ok {N : Nat} (x0 : List VLabel) (x1 : List UInt8) {r : (List UInt8) × Int} (h : labels_Get N x0 x1 = some r) (ρ : Nat → Nat) : ACalls Tryz.prog 12 (([.a (.d (.sl (.nam 2)) x0), .a (.d .str x1)] : List (TV EE.T)).map (TV.to EE.toEnc ρ)) [] (fun out H => out = .ret ((labels_Get_u r).to EE.toEnc ρ) ∧ H = []) :=
  (fn_ok (bodyOf 0 Tryz.f12) 19 mixed (w12Gok N) Tryz.func12 (by kernel_rfl) rfl rfl rfl rfl (w12oE0 x0 x1 h) ρ).mono fun out H h => KPost.ret rfl h
def labels_Get_h (N : Nat) : List (TV EE.T) → PV EE.T
  | [u0, u1] => match argD (.sl (.nam 2)) u0, argD .str u1 with
    | some x0, some x1 => .opt (labels_Get N x0 x1) labels_Get_u
    | _, _ => .bad
  | _ => .bad
theorem labels_Get_hok (N : Nat) (us : List (TV EE.T)) : (labels_Get_h N us).ok fun u => ∀ ρ, ACalls Tryz.prog 12 (us.map (TV.to EE.toEnc ρ)) [] (fun out H => out = .ret (u.to EE.toEnc ρ) ∧ H = []) := by
  unfold labels_Get_h
  split
  · split
    · rename_i h0 h1
      intro z hz ρ; refine acalls_le ?_ (labels_Get_ok _ _ hz ρ); exact ⟨argD_le h0 ρ, argD_le h1 ρ, trivial⟩
    · trivial
  · trivial
/-! ### gleaner/gleanerref.IsLetter -/
def ref_IsLetter_u (r : Bool) : TV EE.T := .a (.d .bool r)
def w21enc (r : Bool) : RL EE.T := .ret (ref_IsLetter_u r) []
def w21lv : Lvs := ⟨[], [], [], [], false, [], []⟩
def w21rs : List ResultVar := [.tmp 2]
def w21G (N : Nat) : Gam EE := ⟨[], EQT, [], []⟩
theorem w21Gok (N : Nat) : GOk Tryz.prog TT EE (w21G N) := GOk.nil EQT_ok
def w21kE0 (c : Code) : List It2 := [.c c]
def w21sE0 (x0 : UInt8) : TS EE.T := ⟨21, [(0, .a (.d .byte x0))], [], []⟩
def w21TE0 (c : Code) (N : Nat) (x0 : UInt8) : Tree (Lf EE.T × Option Bool) :=
  .cond (decide ((b2i x0) ≥ (b2i 97)))
  (
    .cond (decide ((b2i x0) ≤ (b2i 122)))
    (
      .leaf (.done (w21enc true), some true))
    (
      .cond (decide ((b2i x0) ≥ (b2i 65)))
      (
        .cond (decide ((b2i x0) ≤ (b2i 90)))
        (
          .leaf (.done (w21enc true), some true))
        (
          .leaf (.done (w21enc ((b2i x0) == (b2i 95))), some ((b2i x0) == (b2i 95)))))
      (
        .leaf (.done (w21enc ((b2i x0) == (b2i 95))), some ((b2i x0) == (b2i 95))))))
  (
    .cond (decide ((b2i x0) ≥ (b2i 65)))
    (
      .cond (decide ((b2i x0) ≤ (b2i 90)))
      (
        .leaf (.done (w21enc true), some true))
      (
        .leaf (.done (w21enc ((b2i x0) == (b2i 95))), some ((b2i x0) == (b2i 95)))))
    (
      .leaf (.done (w21enc ((b2i x0) == (b2i 95))), some ((b2i x0) == (b2i 95)))))
theorem w21vE0 (N : Nat) (x0 : UInt8) : evM TT EE (w21G N) w21lv w21rs 4000 true (w21kE0 (bodyOf 0 Tryz.f21)) (w21sE0 x0) = (w21TE0 (bodyOf 0 Tryz.f21) N x0).map1 := by kernel_rfl
theorem w21nE0 (N : Nat) (x0 : UInt8) : ref_IsLetter N x0 = (w21TE0 (bodyOf 0 Tryz.f21) N x0).run := by kernel_rfl
theorem w21oE0 {N : Nat} {r : Bool} (x0 : UInt8) (h : ref_IsLetter N x0 = some r) : Ends (Y := TT) EE (w21G N) w21lv w21rs (fun u => u = w21enc r) (w21kE0 (bodyOf 0 Tryz.f21)) (w21sE0 x0) :=
  tree_use (w21vE0 N x0) (w21nE0 N x0) h (show (w21TE0 (bodyOf 0 Tryz.f21) N x0).all _ from ⟨⟨retp (enc := w21enc) rfl, ⟨⟨retp (enc := w21enc) rfl, retp (enc := w21enc) rfl⟩, retp (enc := w21enc) rfl⟩⟩, ⟨⟨retp (enc := w21enc) rfl, retp (enc := w21enc) rfl⟩, retp (enc := w21enc) rfl⟩⟩)
theorem ref_IsLetter_ok {N : Nat} (x0 : UInt8) {r : Bool} (h : ref_IsLetter N x0 = some r) (ρ : Nat → Nat) : ACalls Tryz.prog 21 (([.a (.d .byte x0)] : List (TV EE.T)).map (TV.to EE.toEnc ρ)) [] (fun out H => out = .ret ((ref_IsLetter_u r).to EE.toEnc ρ) ∧ H = []) :=
  (fn_ok (bodyOf 0 Tryz.f21) 21 mixed (w21Gok N) Tryz.func21 (by kernel_rfl) rfl rfl rfl rfl (w21oE0 x0 h) ρ).mono fun out H h => KPost.ret rfl h
def ref_IsLetter_h (N : Nat) : List (TV EE.T) → PV EE.T
  | [u0] => match argD .byte u0 with
    | some x0 => .opt (ref_IsLetter N x0) ref_IsLetter_u
    | _ => .bad
  | _ => .bad
theorem ref_IsLetter_hok (N : Nat) (us : List (TV EE.T)) : (ref_IsLetter_h N us).ok fun u => ∀ ρ, ACalls Tryz.prog 21 (us.map (TV.to EE.toEnc ρ)) [] (fun out H => out = .ret (u.to EE.toEnc ρ) ∧ H = []) := by
  unfold ref_IsLetter_h
  split
  · split
    · rename_i h0
      intro z hz ρ; refine acalls_le ?_ (ref_IsLetter_ok _ hz ρ); exact ⟨argD_le h0 ρ, trivial⟩
    · trivial
  · trivial
/-! ### gleaner/gleanerref.IsNumeral -/
def ref_IsNumeral_u (r : Bool) : TV EE.T := .a (.d .bool r)
def w22enc (r : Bool) : RL EE.T := .ret (ref_IsNumeral_u r) []
def w22lv : Lvs := ⟨[], [], [], [], false, [], []⟩
def w22rs : List ResultVar := [.tmp 2]
def w22G (N : Nat) : Gam EE := ⟨[], EQT, [], []⟩
theorem w22Gok (N : Nat) : GOk Tryz.prog TT EE (w22G N) := GOk.nil EQT_ok
def w22kE0 (c : Code) : List It2 := [.c c]
def w22sE0 (x0 : UInt8) : TS EE.T := ⟨9, [(0, .a (.d .byte x0))], [], []⟩
def w22TE0 (c : Code) (N : Nat) (x0 : UInt8) : Tree (Lf EE.T × Option Bool) :=
  .cond (decide ((b2i x0) ≥ (b2i 48)))
  (
    .leaf (.done (w22enc (decide ((b2i x0) ≤ (b2i 57)))), some (decide ((b2i x0) ≤ (b2i 57)))))
  (
    .leaf (.done (w22enc false), some false))
theorem w22vE0 (N : Nat) (x0 : UInt8) : evM TT EE (w22G N) w22lv w22rs 4000 true (w22kE0 (bodyOf 0 Tryz.f22)) (w22sE0 x0) = (w22TE0 (bodyOf 0 Tryz.f22) N x0).map1 := by kernel_rfl
theorem w22nE0 (N : Nat) (x0 : UInt8) : ref_IsNumeral N x0 = (w22TE0 (bodyOf 0 Tryz.f22) N x0).run := by kernel_rfl
theorem w22oE0 {N : Nat} {r : Bool} (x0 : UInt8) (h : ref_IsNumeral N x0 = some r) : Ends (Y := TT) EE (w22G N) w22lv w22rs (fun u => u = w22enc r) (w22kE0 (bodyOf 0 Tryz.f22)) (w22sE0 x0) :=
  tree_use (w22vE0 N x0) (w22nE0 N x0) h (show (w22TE0 (bodyOf 0 Tryz.f22) N x0).all _ from ⟨retp (enc := w22enc) rfl, retp (enc := w22enc) rfl⟩)
theorem ref_IsNumeral_ok {N : Nat} (x0 : UInt8) {r : Bool} (h : ref_IsNumeral N x0 = some r) (ρ : Nat → Nat) : ACalls Tryz.prog 22 (([.a (.d .byte x0)] : List (TV EE.T)).map (TV.to EE.toEnc ρ)) [] (fun out H => out = .ret ((ref_IsNumeral_u r).to EE.toEnc ρ) ∧ H = []) :=
  (fn_ok (bodyOf 0 Tryz.f22) 9 mixed (w22Gok N) Tryz.func22 (by kernel_rfl) rfl rfl rfl rfl (w22oE0 x0 h) ρ).mono fun out H h => KPost.ret rfl h
def ref_IsNumeral_h (N : Nat) : List (TV EE.T) → PV EE.T
  | [u0] => match argD .byte u0 with
    | some x0 => .opt (ref_IsNumeral N x0) ref_IsNumeral_u
    | _ => .bad
  | _ => .bad
theorem ref_IsNumeral_hok (N : Nat) (us : List (TV EE.T)) : (ref_IsNumeral_h N us).ok fun u => ∀ ρ, ACalls Tryz.prog 22 (us.map (TV.to EE.toEnc ρ)) [] (fun out H => out = .ret (u.to EE.toEnc ρ) ∧ H = []) := by
  unfold ref_IsNumeral_h
  split
  · split
    · rename_i h0
      intro z hz ρ; refine acalls_le ?_ (ref_IsNumeral_ok _ hz ρ); exact ⟨argD_le h0 ρ, trivial⟩
    · trivial
  · trivial
/-! ### gleaner/gleanerref.IsName -/
def ref_IsName_u (r : Bool) : TV EE.T := .a (.d .bool r)
def w8enc (r : Bool) : RL EE.T := .ret (ref_IsName_u r) []
def w8lv : Lvs := ⟨[(3, ⟨[(0, false), (3, false)], [], []⟩)], [(2, ⟨[(0, false), (3, false)], [], []⟩)], [3], [], false, [], []⟩
def w8rs : List ResultVar := [.tmp 2]
def w8G (N : Nat) : Gam EE := ⟨[⟨21, ref_IsLetter_h N⟩, ⟨22, ref_IsNumeral_h N⟩], EQT, [], []⟩
theorem w8Gok (N : Nat) : GOk Tryz.prog TT EE (w8G N) := GOk.cons (ref_IsLetter_hok N) (GOk.cons (ref_IsNumeral_hok N) (GOk.nil EQT_ok))
def w8kR3 (c : Code) : List It2 := atR 3 c
def w8sR3 (x0 : List UInt8) (x3 : Int) : TS EE.T := ⟨34, [(0, .a (.d .str x0)), (3, .a (.d (.int .i64) x3))], [], []⟩
def w8kL2 (c : Code) : List It2 := atL 2 c
def w8sL2 (x0 : List UInt8) (x3 : Int) : TS EE.T := ⟨34, [(0, .a (.d .str x0)), (3, .a (.d (.int .i64) x3))], [], []⟩
def w8kE0 (c : Code) : List It2 := [.c c]
def w8sE0 (x0 : List UInt8) : TS EE.T := ⟨34, [(0, .a (.d .str x0))], [], []⟩
def w8TR3 (c : Code) (N : Nat) (k2 : (List UInt8) → Int → Option Bool) (n : Nat) (x0 : List UInt8) (x3 : Int) : Tree (Lf EE.T × Option Bool) :=
  .leaf (.go (w8kL2 c) (w8sL2 x0 (w64 (x3 + 1))), k2 x0 (w64 (x3 + 1)))
theorem w8vR3 (N : Nat) (k2 : (List UInt8) → Int → Option Bool) (n : Nat) (x0 : List UInt8) (x3 : Int) : evM TT EE (w8G N) w8lv w8rs 4000 true (w8kR3 (bodyOf 0 Tryz.f8)) (w8sR3 x0 x3) = (w8TR3 (bodyOf 0 Tryz.f8) N k2 n x0 x3).map1 := by kernel_rfl
theorem w8nR3 (N : Nat) (k2 : (List UInt8) → Int → Option Bool) (n : Nat) (x0 : List UInt8) (x3 : Int) : ref_IsName_R3 N k2 n x0 x3 = (w8TR3 (bodyOf 0 Tryz.f8) N k2 n x0 x3).run := by kernel_rfl
theorem w8oR3 {N : Nat} {r : Bool} {k2 : (List UInt8) → Int → Option Bool} (hk2 : ∀ x0 x3, k2 x0 x3 = some r → Ends (Y := TT) EE (w8G N) w8lv w8rs (fun u => u = w8enc r) (w8kL2 (bodyOf 0 Tryz.f8)) (w8sL2 x0 x3)) (n : Nat) (x0 : List UInt8) (x3 : Int) (h : ref_IsName_R3 N k2 n x0 x3 = some r) : Ends (Y := TT) EE (w8G N) w8lv w8rs (fun u => u = w8enc r) (w8kR3 (bodyOf 0 Tryz.f8)) (w8sR3 x0 x3) :=
  tree_use (w8vR3 N k2 n x0 x3) (w8nR3 N k2 n x0 x3) h (show (w8TR3 (bodyOf 0 Tryz.f8) N k2 n x0 x3).all _ from fun h => hk2 _ _ h)
def w8TL2 (c : Code) (N : Nat) (n : Nat) (x0 : List UInt8) (x3 : Int) : Tree (Lf EE.T × Option Bool) :=
  .cond (decide (x3 < (x0.length : Int)))
  (
    .bnd (idxC x0 x3) fun z1 =>
    .bnd (ref_IsLetter N z1) fun z2 =>
    .cond (!z2)
    (
      .cond (x3 == 0)
      (
        .leaf (.done (w8enc false), some false))
      (
        .bnd (idxC x0 x3) fun z3 =>
        .bnd (ref_IsNumeral N z3) fun z4 =>
        .cond (!z4)
        (
          .leaf (.done (w8enc false), some false))
        (
          .leaf (.go (w8kR3 c) (w8sR3 x0 x3), ref_IsName_R3 N (ref_IsName_L2 N n) n x0 x3))))
    (
      .leaf (.go (w8kR3 c) (w8sR3 x0 x3), ref_IsName_R3 N (ref_IsName_L2 N n) n x0 x3)))
  (
    .cond (decide ((x0.length : Int) ≥ 1))
    (
      .leaf (.done (w8enc (decide ((x0.length : Int) ≤ 40))), some (decide ((x0.length : Int) ≤ 40))))
    (
      .leaf (.done (w8enc false), some false)))
theorem w8vL2 (N : Nat) (n : Nat) (x0 : List UInt8) (x3 : Int) : evM TT EE (w8G N) w8lv w8rs 4000 true (w8kL2 (bodyOf 0 Tryz.f8)) (w8sL2 x0 x3) = (w8TL2 (bodyOf 0 Tryz.f8) N n x0 x3).map1 := by kernel_rfl
theorem w8nL2 (N : Nat) (n : Nat) (x0 : List UInt8) (x3 : Int) : ref_IsName_L2 N (n + 1) x0 x3 = (w8TL2 (bodyOf 0 Tryz.f8) N n x0 x3).run := by kernel_rfl
theorem w8oL2 {N : Nat} {r : Bool} : ∀ (n : Nat) (x0 : List UInt8) (x3 : Int), ref_IsName_L2 N n x0 x3 = some r → Ends (Y := TT) EE (w8G N) w8lv w8rs (fun u => u = w8enc r) (w8kL2 (bodyOf 0 Tryz.f8)) (w8sL2 x0 x3)
  | 0, _, _, h => by cases h
  | n + 1, x0, x3, h => tree_use (w8vL2 N n x0 x3) (w8nL2 N n x0 x3) h (show (w8TL2 (bodyOf 0 Tryz.f8) N n x0 x3).all _ from ⟨fun _ => fun _ => ⟨⟨retp (enc := w8enc) rfl, fun _ => fun _ => ⟨retp (enc := w8enc) rfl, fun h => w8oR3 (w8oL2 n) n _ _ h⟩⟩, fun h => w8oR3 (w8oL2 n) n _ _ h⟩, ⟨retp (enc := w8enc) rfl, retp (enc := w8enc) rfl⟩⟩)
def w8TE0 (c : Code) (N : Nat) (x0 : List UInt8) : Tree (Lf EE.T × Option Bool) :=
  .leaf (.go (w8kL2 c) (w8sL2 x0 0), ref_IsName_L2 N N x0 0)
theorem w8vE0 (N : Nat) (x0 : List UInt8) : evM TT EE (w8G N) w8lv w8rs 4000 true (w8kE0 (bodyOf 0 Tryz.f8)) (w8sE0 x0) = (w8TE0 (bodyOf 0 Tryz.f8) N x0).map1 := by kernel_rfl
theorem w8nE0 (N : Nat) (x0 : List UInt8) : ref_IsName N x0 = (w8TE0 (bodyOf 0 Tryz.f8) N x0).run := by kernel_rfl
theorem w8oE0 {N : Nat} {r : Bool} (x0 : List UInt8) (h : ref_IsName N x0 = some r) : Ends (Y := TT) EE (w8G N) w8lv w8rs (fun u => u = w8enc r) (w8kE0 (bodyOf 0 Tryz.f8)) (w8sE0 x0) :=
  tree_use (w8vE0 N x0) (w8nE0 N x0) h (show (w8TE0 (bodyOf 0 Tryz.f8) N x0).all _ from fun h => w8oL2 N _ _ h)
theorem ref_IsName_ok {N : Nat} (x0 : List UInt8) {r : Bool} (h : ref_IsName N x0 = some r) (ρ : Nat → Nat) : ACalls Tryz.prog 8 (([.a (.d .str x0)] : List (TV EE.T)).map (TV.to EE.toEnc ρ)) [] (fun out H => out = .ret ((ref_IsName_u r).to EE.toEnc ρ) ∧ H = []) :=
  (fn_ok (bodyOf 0 Tryz.f8) 34 mixed (w8Gok N) Tryz.func8 (by kernel_rfl) rfl rfl rfl rfl (w8oE0 x0 h) ρ).mono fun out H h => KPost.ret rfl h
def ref_IsName_h (N : Nat) : List (TV EE.T) → PV EE.T
  | [u0] => match argD .str u0 with
    | some x0 => .opt (ref_IsName N x0) ref_IsName_u
    | _ => .bad
  | _ => .bad
theorem ref_IsName_hok (N : Nat) (us : List (TV EE.T)) : (ref_IsName_h N us).ok fun u => ∀ ρ, ACalls Tryz.prog 8 (us.map (TV.to EE.toEnc ρ)) [] (fun out H => out = .ret (u.to EE.toEnc ρ) ∧ H = []) := by
  unfold ref_IsName_h
  split
  · split
    · rename_i h0
      intro z hz ρ; refine acalls_le ?_ (ref_IsName_ok _ hz ρ); exact ⟨argD_le h0 ρ, trivial⟩
    · trivial
  · trivial
/-! ### gleaner/gleanerref.EachLabel -/
def ref_EachLabel_u (r : Int) : TV EE.T := .a (.d (.int .i64) r)
def w16enc (r : Int) : RL EE.T := .ret (ref_EachLabel_u r) []
def w16lv : Lvs := ⟨[(8, ⟨[(0, false), (1, false), (5, false)], [], []⟩), (16, ⟨[(0, false), (6, false), (7, false)], [], []⟩)], [(4, ⟨[(0, false), (1, false), (5, false)], [], []⟩), (11, ⟨[(0, false), (6, false)], [], []⟩), (14, ⟨[(0, false), (6, false), (7, false)], [], []⟩)], [8], [], false, [], []⟩
def w16rs : List ResultVar := [.tmp 4]
def w16G (N : Nat) : Gam EE := ⟨[⟨8, ref_IsName_h N⟩], EQT, [], []⟩
theorem w16Gok (N : Nat) : GOk Tryz.prog TT EE (w16G N) := GOk.cons (ref_IsName_hok N) (GOk.nil EQT_ok)
def w16kR8 (c : Code) : List It2 := atR 8 c
def w16sR8 (x0 : List VLabel) (x1 : Bool) (x5 : Int) : TS EE.T := ⟨65, [(0, .a (.d (.sl (.nam 2)) x0)), (1, .a (.d .bool x1)), (5, .a (.d (.int .i64) x5))], [], []⟩
def w16kL14 (c : Code) : List It2 := atL 14 c
def w16sL14 (x0 : List VLabel) (x6 : Int) (x7 : Int) : TS EE.T := ⟨65, [(0, .a (.d (.sl (.nam 2)) x0)), (6, .a (.d (.int .i64) x6)), (7, .a (.d (.int .i64) x7))], [], []⟩
def w16kL11 (c : Code) : List It2 := atL 11 c
def w16sL11 (x0 : List VLabel) (x6 : Int) : TS EE.T := ⟨65, [(0, .a (.d (.sl (.nam 2)) x0)), (6, .a (.d (.int .i64) x6))], [], []⟩
def w16kL4 (c : Code) : List It2 := atL 4 c
def w16sL4 (x0 : List VLabel) (x1 : Bool) (x5 : Int) : TS EE.T := ⟨65, [(0, .a (.d (.sl (.nam 2)) x0)), (1, .a (.d .bool x1)), (5, .a (.d (.int .i64) x5))], [], []⟩
def w16kE0 (c : Code) : List It2 := [.c c]
def w16sE0 (x0 : List VLabel) (x1 : Bool) : TS EE.T := ⟨65, [(0, .a (.d (.sl (.nam 2)) x0)), (1, .a (.d .bool x1))], [], []⟩
def w16TR8 (c : Code) (N : Nat) (k4 : (List VLabel) → Bool → Int → Option Int) (n : Nat) (x0 : List VLabel) (x1 : Bool) (x5 : Int) : Tree (Lf EE.T × Option Int) :=
  .bnd (idxC x0 x5) fun z4 =>
  .cond (decide ((z4.Value.length : Int) > 100))
  (
    .leaf (.done (w16enc 2), some 2))
  (
    .leaf (.go (w16kL4 c) (w16sL4 x0 x1 (w64 (x5 + 1))), k4 x0 x1 (w64 (x5 + 1))))
theorem w16vR8 (N : Nat) (k4 : (List VLabel) → Bool → Int → Option Int) (n : Nat) (x0 : List VLabel) (x1 : Bool) (x5 : Int) : evM TT EE (w16G N) w16lv w16rs 4000 true (w16kR8 (bodyOf 0 Tryz.f16)) (w16sR8 x0 x1 x5) = (w16TR8 (bodyOf 0 Tryz.f16) N k4 n x0 x1 x5).map1 := by kernel_rfl
theorem w16nR8 (N : Nat) (k4 : (List VLabel) → Bool → Int → Option Int) (n : Nat) (x0 : List VLabel) (x1 : Bool) (x5 : Int) : ref_EachLabel_R8 N k4 n x0 x1 x5 = (w16TR8 (bodyOf 0 Tryz.f16) N k4 n x0 x1 x5).run := by kernel_rfl
theorem w16oR8 {N : Nat} {r : Int} {k4 : (List VLabel) → Bool → Int → Option Int} (hk4 : ∀ x0 x1 x5, k4 x0 x1 x5 = some r → Ends (Y := TT) EE (w16G N) w16lv w16rs (fun u => u = w16enc r) (w16kL4 (bodyOf 0 Tryz.f16)) (w16sL4 x0 x1 x5)) (n : Nat) (x0 : List VLabel) (x1 : Bool) (x5 : Int) (h : ref_EachLabel_R8 N k4 n x0 x1 x5 = some r) : Ends (Y := TT) EE (w16G N) w16lv w16rs (fun u => u = w16enc r) (w16kR8 (bodyOf 0 Tryz.f16)) (w16sR8 x0 x1 x5) :=
  tree_use (w16vR8 N k4 n x0 x1 x5) (w16nR8 N k4 n x0 x1 x5) h (show (w16TR8 (bodyOf 0 Tryz.f16) N k4 n x0 x1 x5).all _ from fun _ => ⟨retp (enc := w16enc) rfl, fun h => hk4 _ _ _ h⟩)
def w16TL14 (c : Code) (N : Nat) (k11 : (List VLabel) → Int → Option Int) (n : Nat) (x0 : List VLabel) (x6 : Int) (x7 : Int) : Tree (Lf EE.T × Option Int) :=
  .cond (decide (x7 < x6))
  (
    .bnd (idxC x0 x7) fun z5 =>
    .bnd (idxC x0 x6) fun z6 =>
    .cond (decide (z5.Name = z6.Name))
    (
      .leaf (.done (w16enc 6), some 6))
    (
      .leaf (.go (w16kL14 c) (w16sL14 x0 x6 (w64 (x7 + 1))), ref_EachLabel_L14 N k11 n x0 x6 (w64 (x7 + 1)))))
  (
    .leaf (.go (w16kL11 c) (w16sL11 x0 (w64 (x6 + 1))), k11 x0 (w64 (x6 + 1))))
theorem w16vL14 (N : Nat) (k11 : (List VLabel) → Int → Option Int) (n : Nat) (x0 : List VLabel) (x6 : Int) (x7 : Int) : evM TT EE (w16G N) w16lv w16rs 4000 true (w16kL14 (bodyOf 0 Tryz.f16)) (w16sL14 x0 x6 x7) = (w16TL14 (bodyOf 0 Tryz.f16) N k11 n x0 x6 x7).map1 := by kernel_rfl
theorem w16nL14 (N : Nat) (k11 : (List VLabel) → Int → Option Int) (n : Nat) (x0 : List VLabel) (x6 : Int) (x7 : Int) : ref_EachLabel_L14 N k11 (n + 1) x0 x6 x7 = (w16TL14 (bodyOf 0 Tryz.f16) N k11 n x0 x6 x7).run := by kernel_rfl
theorem w16oL14 {N : Nat} {r : Int} {k11 : (List VLabel) → Int → Option Int} (hk11 : ∀ x0 x6, k11 x0 x6 = some r → Ends (Y := TT) EE (w16G N) w16lv w16rs (fun u => u = w16enc r) (w16kL11 (bodyOf 0 Tryz.f16)) (w16sL11 x0 x6)) : ∀ (n : Nat) (x0 : List VLabel) (x6 : Int) (x7 : Int), ref_EachLabel_L14 N k11 n x0 x6 x7 = some r → Ends (Y := TT) EE (w16G N) w16lv w16rs (fun u => u = w16enc r) (w16kL14 (bodyOf 0 Tryz.f16)) (w16sL14 x0 x6 x7)
  | 0, _, _, _, h => by cases h
  | n + 1, x0, x6, x7, h => tree_use (w16vL14 N k11 n x0 x6 x7) (w16nL14 N k11 n x0 x6 x7) h (show (w16TL14 (bodyOf 0 Tryz.f16) N k11 n x0 x6 x7).all _ from ⟨fun _ => fun _ => ⟨retp (enc := w16enc) rfl, fun h => (w16oL14 hk11 n) _ _ _ h⟩, fun h => hk11 _ _ h⟩)
def w16TL11 (c : Code) (N : Nat) (n : Nat) (x0 : List VLabel) (x6 : Int) : Tree (Lf EE.T × Option Int) :=
  .cond (decide (x6 < (x0.length : Int)))
  (
    .leaf (.go (w16kL14 c) (w16sL14 x0 x6 0), ref_EachLabel_L14 N (ref_EachLabel_L11 N n) n x0 x6 0))
  (
    .leaf (.done (w16enc 0), some 0))
theorem w16vL11 (N : Nat) (n : Nat) (x0 : List VLabel) (x6 : Int) : evM TT EE (w16G N) w16lv w16rs 4000 true (w16kL11 (bodyOf 0 Tryz.f16)) (w16sL11 x0 x6) = (w16TL11 (bodyOf 0 Tryz.f16) N n x0 x6).map1 := by kernel_rfl
theorem w16nL11 (N : Nat) (n : Nat) (x0 : List VLabel) (x6 : Int) : ref_EachLabel_L11 N (n + 1) x0 x6 = (w16TL11 (bodyOf 0 Tryz.f16) N n x0 x6).run := by kernel_rfl
theorem w16oL11 {N : Nat} {r : Int} : ∀ (n : Nat) (x0 : List VLabel) (x6 : Int), ref_EachLabel_L11 N n x0 x6 = some r → Ends (Y := TT) EE (w16G N) w16lv w16rs (fun u => u = w16enc r) (w16kL11 (bodyOf 0 Tryz.f16)) (w16sL11 x0 x6)
  | 0, _, _, h => by cases h
  | n + 1, x0, x6, h => tree_use (w16vL11 N n x0 x6) (w16nL11 N n x0 x6) h (show (w16TL11 (bodyOf 0 Tryz.f16) N n x0 x6).all _ from ⟨fun h => w16oL14 (w16oL11 n) n _ _ _ h, retp (enc := w16enc) rfl⟩)
def w16TL4 (c : Code) (N : Nat) (n : Nat) (x0 : List VLabel) (x1 : Bool) (x5 : Int) : Tree (Lf EE.T × Option Int) :=
  .cond (decide (x5 < (x0.length : Int)))
  (
    .bnd (idxC x0 x5) fun z1 =>
    .bnd (ref_IsName N z1.Name) fun z2 =>
    .cond (!z2)
    (
      .leaf (.done (w16enc 1), some 1))
    (
      .bnd (idxC x0 x5) fun z3 =>
      .cond (decide (z3.Value = ([] : List UInt8)))
      (
        .cond (!x1)
        (
          .leaf (.done (w16enc 1), some 1))
        (
          .leaf (.go (w16kR8 c) (w16sR8 x0 x1 x5), ref_EachLabel_R8 N (ref_EachLabel_L4 N n) n x0 x1 x5)))
      (
        .leaf (.go (w16kR8 c) (w16sR8 x0 x1 x5), ref_EachLabel_R8 N (ref_EachLabel_L4 N n) n x0 x1 x5))))
  (
    .leaf (.go (w16kL11 c) (w16sL11 x0 0), ref_EachLabel_L11 N n x0 0))
theorem w16vL4 (N : Nat) (n : Nat) (x0 : List VLabel) (x1 : Bool) (x5 : Int) : evM TT EE (w16G N) w16lv w16rs 4000 true (w16kL4 (bodyOf 0 Tryz.f16)) (w16sL4 x0 x1 x5) = (w16TL4 (bodyOf 0 Tryz.f16) N n x0 x1 x5).map1 := by kernel_rfl
theorem w16nL4 (N : Nat) (n : Nat) (x0 : List VLabel) (x1 : Bool) (x5 : Int) : ref_EachLabel_L4 N (n + 1) x0 x1 x5 = (w16TL4 (bodyOf 0 Tryz.f16) N n x0 x1 x5).run := by kernel_rfl
theorem w16oL4 {N : Nat} {r : Int} : ∀ (n : Nat) (x0 : List VLabel) (x1 : Bool) (x5 : Int), ref_EachLabel_L4 N n x0 x1 x5 = some r → Ends (Y := TT) EE (w16G N) w16lv w16rs (fun u => u = w16enc r) (w16kL4 (bodyOf 0 Tryz.f16)) (w16sL4 x0 x1 x5)
  | 0, _, _, _, h => by cases h
  | n + 1, x0, x1, x5, h => tree_use (w16vL4 N n x0 x1 x5) (w16nL4 N n x0 x1 x5) h (show (w16TL4 (bodyOf 0 Tryz.f16) N n x0 x1 x5).all _ from ⟨fun _ => fun _ => ⟨retp (enc := w16enc) rfl, fun _ => ⟨⟨retp (enc := w16enc) rfl, fun h => w16oR8 (w16oL4 n) n _ _ _ h⟩, fun h => w16oR8 (w16oL4 n) n _ _ _ h⟩⟩, fun h => w16oL11 n _ _ h⟩)
def w16TE0 (c : Code) (N : Nat) (x0 : List VLabel) (x1 : Bool) : Tree (Lf EE.T × Option Int) :=
  .cond (decide ((x0.length : Int) > 20))
  (
    .leaf (.done (w16enc 2), some 2))
  (
    .leaf (.go (w16kL4 c) (w16sL4 x0 x1 0), ref_EachLabel_L4 N N x0 x1 0))
theorem w16vE0 (N : Nat) (x0 : List VLabel) (x1 : Bool) : evM TT EE (w16G N) w16lv w16rs 4000 true (w16kE0 (bodyOf 0 Tryz.f16)) (w16sE0 x0 x1) = (w16TE0 (bodyOf 0 Tryz.f16) N x0 x1).map1 := by kernel_rfl
theorem w16nE0 (N : Nat) (x0 : List VLabel) (x1 : Bool) : ref_EachLabel N x0 x1 = (w16TE0 (bodyOf 0 Tryz.f16) N x0 x1).run := by kernel_rfl
theorem w16oE0 {N : Nat} {r : Int} (x0 : List VLabel) (x1 : Bool) (h : ref_EachLabel N x0 x1 = some r) : Ends (Y := TT) EE (w16G N) w16lv w16rs (fun u => u = w16enc r) (w16kE0 (bodyOf 0 Tryz.f16)) (w16sE0 x0 x1) :=
  tree_use (w16vE0 N x0 x1) (w16nE0 N x0 x1) h (show (w16TE0 (bodyOf 0 Tryz.f16) N x0 x1).all _ from ⟨retp (enc := w16enc) rfl, fun h => w16oL4 N _ _ _ h⟩)
theorem ref_EachLabel_ok {N : Nat} (x0 : List VLabel) (x1 : Bool) {r : Int} (h : ref_EachLabel N x0 x1 = some r) (ρ : Nat → Nat) : ACalls Tryz.prog 16 (([.a (.d (.sl (.nam 2)) x0), .a (.d .bool x1)] : List (TV EE.T)).map (TV.to EE.toEnc ρ)) [] (fun out H => out = .ret ((ref_EachLabel_u r).to EE.toEnc ρ) ∧ H = []) :=
  (fn_ok (bodyOf 0 Tryz.f16) 65 mixed (w16Gok N) Tryz.func16 (by kernel_rfl) rfl rfl rfl rfl (w16oE0 x0 x1 h) ρ).mono fun out H h => KPost.ret rfl h
def ref_EachLabel_h (N : Nat) : List (TV EE.T) → PV EE.T
  | [u0, u1] => match argD (.sl (.nam 2)) u0, argD .bool u1 with
    | some x0, some x1 => .opt (ref_EachLabel N x0 x1) ref_EachLabel_u
    | _, _ => .bad
  | _ => .bad
theorem ref_EachLabel_hok (N : Nat) (us : List (TV EE.T)) : (ref_EachLabel_h N us).ok fun u => ∀ ρ, ACalls Tryz.prog 16 (us.map (TV.to EE.toEnc ρ)) [] (fun out H => out = .ret (u.to EE.toEnc ρ) ∧ H = []) := by
  unfold ref_EachLabel_h
  split
  · split
    · rename_i h0 h1
      intro z hz ρ; refine acalls_le ?_ (ref_EachLabel_ok _ _ hz ρ); exact ⟨argD_le h0 ρ, argD_le h1 ρ, trivial⟩
    · trivial
  · trivial
/-! ### gleaner/gleanerref.CheckLabels -/
def ref_CheckLabels_u (r : Int) : TV EE.T := .a (.d (.int .i64) r)
def w7enc (r : Int) : RL EE.T := .ret (ref_CheckLabels_u r) []
def w7lv : Lvs := ⟨[(4, ⟨[(0, false), (3, false), (4, false)], [], []⟩), (5, ⟨[(0, false), (3, false), (4, false)], [], []⟩)], [(3, ⟨[(0, false), (3, false), (4, false)], [], []⟩)], [4], [], false, [], []⟩
def w7rs : List ResultVar := [.tmp 2]
def w7G (N : Nat) : Gam EE := ⟨[⟨16, ref_EachLabel_h N⟩], EQT, [], []⟩
theorem w7Gok (N : Nat) : GOk Tryz.prog TT EE (w7G N) := GOk.cons (ref_EachLabel_hok N) (GOk.nil EQT_ok)
def w7kR4 (c : Code) : List It2 := atR 4 c
def w7sR4 (x0 : List VLabel) (x3 : Int) (x4 : Int) : TS EE.T := ⟨30, [(0, .a (.d (.sl (.nam 2)) x0)), (3, .a (.d (.int .i64) x3)), (4, .a (.d (.int .i64) x4))], [], []⟩
def w7kL3 (c : Code) : List It2 := atL 3 c
def w7sL3 (x0 : List VLabel) (x3 : Int) (x4 : Int) : TS EE.T := ⟨30, [(0, .a (.d (.sl (.nam 2)) x0)), (3, .a (.d (.int .i64) x3)), (4, .a (.d (.int .i64) x4))], [], []⟩
def w7kE0 (c : Code) : List It2 := [.c c]
def w7sE0 (x0 : List VLabel) : TS EE.T := ⟨30, [(0, .a (.d (.sl (.nam 2)) x0))], [], []⟩
def w7TR4 (c : Code) (N : Nat) (k3 : (List VLabel) → Int → Int → Option Int) (n : Nat) (x0 : List VLabel) (x3 : Int) (x4 : Int) : Tree (Lf EE.T × Option Int) :=
  .leaf (.go (w7kL3 c) (w7sL3 x0 x3 (w64 (x4 + 1))), k3 x0 x3 (w64 (x4 + 1)))
theorem w7vR4 (N : Nat) (k3 : (List VLabel) → Int → Int → Option Int) (n : Nat) (x0 : List VLabel) (x3 : Int) (x4 : Int) : evM TT EE (w7G N) w7lv w7rs 4000 true (w7kR4 (bodyOf 0 Tryz.f7)) (w7sR4 x0 x3 x4) = (w7TR4 (bodyOf 0 Tryz.f7) N k3 n x0 x3 x4).map1 := by kernel_rfl
theorem w7nR4 (N : Nat) (k3 : (List VLabel) → Int → Int → Option Int) (n : Nat) (x0 : List VLabel) (x3 : Int) (x4 : Int) : ref_CheckLabels_R4 N k3 n x0 x3 x4 = (w7TR4 (bodyOf 0 Tryz.f7) N k3 n x0 x3 x4).run := by kernel_rfl
theorem w7oR4 {N : Nat} {r : Int} {k3 : (List VLabel) → Int → Int → Option Int} (hk3 : ∀ x0 x3 x4, k3 x0 x3 x4 = some r → Ends (Y := TT) EE (w7G N) w7lv w7rs (fun u => u = w7enc r) (w7kL3 (bodyOf 0 Tryz.f7)) (w7sL3 x0 x3 x4)) (n : Nat) (x0 : List VLabel) (x3 : Int) (x4 : Int) (h : ref_CheckLabels_R4 N k3 n x0 x3 x4 = some r) : Ends (Y := TT) EE (w7G N) w7lv w7rs (fun u => u = w7enc r) (w7kR4 (bodyOf 0 Tryz.f7)) (w7sR4 x0 x3 x4) :=
  tree_use (w7vR4 N k3 n x0 x3 x4) (w7nR4 N k3 n x0 x3 x4) h (show (w7TR4 (bodyOf 0 Tryz.f7) N k3 n x0 x3 x4).all _ from fun h => hk3 _ _ _ h)
def w7TL3 (c : Code) (N : Nat) (n : Nat) (x0 : List VLabel) (x3 : Int) (x4 : Int) : Tree (Lf EE.T × Option Int) :=
  .cond (decide (x4 < (x0.length : Int)))
  (
    .cond (x3 == 0)
    (
      .bnd (idxC x0 x4) fun z2 =>
      .bnd (idxC x0 (w64 (x4 - 1))) fun z3 =>
      .cond (Op.bytesLess z2.Name z3.Name)
      (
        .leaf (.go (w7kR4 c) (w7sR4 x0 4 x4), ref_CheckLabels_R4 N (ref_CheckLabels_L3 N n) n x0 4 x4))
      (
        .leaf (.go (w7kR4 c) (w7sR4 x0 x3 x4), ref_CheckLabels_R4 N (ref_CheckLabels_L3 N n) n x0 x3 x4)))
    (
      .leaf (.done (w7enc x3), some x3)))
  (
    .leaf (.done (w7enc x3), some x3))
theorem w7vL3 (N : Nat) (n : Nat) (x0 : List VLabel) (x3 : Int) (x4 : Int) : evM TT EE (w7G N) w7lv w7rs 4000 true (w7kL3 (bodyOf 0 Tryz.f7)) (w7sL3 x0 x3 x4) = (w7TL3 (bodyOf 0 Tryz.f7) N n x0 x3 x4).map1 := by kernel_rfl
theorem w7nL3 (N : Nat) (n : Nat) (x0 : List VLabel) (x3 : Int) (x4 : Int) : ref_CheckLabels_L3 N (n + 1) x0 x3 x4 = (w7TL3 (bodyOf 0 Tryz.f7) N n x0 x3 x4).run := by kernel_rfl
theorem w7oL3 {N : Nat} {r : Int} : ∀ (n : Nat) (x0 : List VLabel) (x3 : Int) (x4 : Int), ref_CheckLabels_L3 N n x0 x3 x4 = some r → Ends (Y := TT) EE (w7G N) w7lv w7rs (fun u => u = w7enc r) (w7kL3 (bodyOf 0 Tryz.f7)) (w7sL3 x0 x3 x4)
  | 0, _, _, _, h => by cases h
  | n + 1, x0, x3, x4, h => tree_use (w7vL3 N n x0 x3 x4) (w7nL3 N n x0 x3 x4) h (show (w7TL3 (bodyOf 0 Tryz.f7) N n x0 x3 x4).all _ from ⟨⟨fun _ => fun _ => ⟨fun h => w7oR4 (w7oL3 n) n _ _ _ h, fun h => w7oR4 (w7oL3 n) n _ _ _ h⟩, retp (enc := w7enc) rfl⟩, retp (enc := w7enc) rfl⟩)
def w7TE0 (c : Code) (N : Nat) (x0 : List VLabel) : Tree (Lf EE.T × Option Int) :=
  .bnd (ref_EachLabel N x0 false) fun z1 =>
  .leaf (.go (w7kL3 c) (w7sL3 x0 z1 1), ref_CheckLabels_L3 N N x0 z1 1)
theorem w7vE0 (N : Nat) (x0 : List VLabel) : evM TT EE (w7G N) w7lv w7rs 4000 true (w7kE0 (bodyOf 0 Tryz.f7)) (w7sE0 x0) = (w7TE0 (bodyOf 0 Tryz.f7) N x0).map1 := by kernel_rfl
theorem w7nE0 (N : Nat) (x0 : List VLabel) : ref_CheckLabels N x0 = (w7TE0 (bodyOf 0 Tryz.f7) N x0).run := by kernel_rfl
theorem w7oE0 {N : Nat} {r : Int} (x0 : List VLabel) (h : ref_CheckLabels N x0 = some r) : Ends (Y := TT) EE (w7G N) w7lv w7rs (fun u => u = w7enc r) (w7kE0 (bodyOf 0 Tryz.f7)) (w7sE0 x0) :=
  tree_use (w7vE0 N x0) (w7nE0 N x0) h (show (w7TE0 (bodyOf 0 Tryz.f7) N x0).all _ from fun _ => fun h => w7oL3 N _ _ _ h)
theorem ref_CheckLabels_ok {N : Nat} (x0 : List VLabel) {r : Int} (h : ref_CheckLabels N x0 = some r) (ρ : Nat → Nat) : ACalls Tryz.prog 7 (([.a (.d (.sl (.nam 2)) x0)] : List (TV EE.T)).map (TV.to EE.toEnc ρ)) [] (fun out H => out = .ret ((ref_CheckLabels_u r).to EE.toEnc ρ) ∧ H = []) :=
  (fn_ok (bodyOf 0 Tryz.f7) 30 mixed (w7Gok N) Tryz.func7 (by kernel_rfl) rfl rfl rfl rfl (w7oE0 x0 h) ρ).mono fun out H h => KPost.ret rfl h
def ref_CheckLabels_h (N : Nat) : List (TV EE.T) → PV EE.T
  | [u0] => match argD (.sl (.nam 2)) u0 with
    | some x0 => .opt (ref_CheckLabels N x0) ref_CheckLabels_u
    | _ => .bad
  | _ => .bad
theorem ref_CheckLabels_hok (N : Nat) (us : List (TV EE.T)) : (ref_CheckLabels_h N us).ok fun u => ∀ ρ, ACalls Tryz.prog 7 (us.map (TV.to EE.toEnc ρ)) [] (fun out H => out = .ret (u.to EE.toEnc ρ) ∧ H = []) := by
  unfold ref_CheckLabels_h
  split
  · split
    · rename_i h0
      intro z hz ρ; refine acalls_le ?_ (ref_CheckLabels_ok _ hz ρ); exact ⟨argD_le h0 ρ, trivial⟩
    · trivial
  · trivial
/-! ### gleaner/gleanerref.PutLabel -/
def ref_PutLabel_u (r : List VLabel) : TV EE.T := .a (.d (.sl (.nam 2)) r)
def w9enc (r : List VLabel) : RL EE.T := .ret (ref_PutLabel_u r) []
def w9lv : Lvs := ⟨[(5, ⟨[(0, false), (1, false), (2, false), (7, false), (8, false), (9, false)], [], []⟩), (9, ⟨[(0, false), (1, false), (2, false), (7, false), (8, false), (9, false)], [], []⟩)], [(4, ⟨[(0, false), (1, false), (2, false), (7, false), (8, false), (9, false)], [], []⟩)], [5, 9], [], false, [], []⟩
def w9rs : List ResultVar := [.tmp 6]
def w9G (N : Nat) : Gam EE := ⟨[], EQT, [], []⟩
theorem w9Gok (N : Nat) : GOk Tryz.prog TT EE (w9G N) := GOk.nil EQT_ok
def w9kR5 (c : Code) : List It2 := atR 5 c
def w9sR5 (x0 : List VLabel) (x1 : List UInt8) (x2 : List UInt8) (x7 : List VLabel) (x8 : Bool) (x9 : Int) : TS EE.T := ⟨58, [(0, .a (.d (.sl (.nam 2)) x0)), (1, .a (.d .str x1)), (2, .a (.d .str x2)), (7, .a (.own (.nam 2) x7)), (8, .a (.d .bool x8)), (9, .a (.d (.int .i64) x9))], [], []⟩
def w9kR9 (c : Code) : List It2 := atR 9 c
def w9sR9 (x0 : List VLabel) (x1 : List UInt8) (x2 : List UInt8) (x7 : List VLabel) (x8 : Bool) (x9 : Int) : TS EE.T := ⟨58, [(0, .a (.d (.sl (.nam 2)) x0)), (1, .a (.d .str x1)), (2, .a (.d .str x2)), (7, .a (.own (.nam 2) x7)), (8, .a (.d .bool x8)), (9, .a (.d (.int .i64) x9))], [], []⟩
def w9kL4 (c : Code) : List It2 := atL 4 c
def w9sL4 (x0 : List VLabel) (x1 : List UInt8) (x2 : List UInt8) (x7 : List VLabel) (x8 : Bool) (x9 : Int) : TS EE.T := ⟨58, [(0, .a (.d (.sl (.nam 2)) x0)), (1, .a (.d .str x1)), (2, .a (.d .str x2)), (7, .a (.own (.nam 2) x7)), (8, .a (.d .bool x8)), (9, .a (.d (.int .i64) x9))], [], []⟩
def w9kE0 (c : Code) : List It2 := [.c c]
def w9sE0 (x0 : List VLabel) (x1 : List UInt8) (x2 : List UInt8) : TS EE.T := ⟨58, [(0, .a (.d (.sl (.nam 2)) x0)), (1, .a (.d .str x1)), (2, .a (.d .str x2))], [], []⟩
def w9TR5 (c : Code) (N : Nat) (k4 : (List VLabel) → (List UInt8) → (List UInt8) → (List VLabel) → Bool → Int → Option (List VLabel)) (n : Nat) (x0 : List VLabel) (x1 : List UInt8) (x2 : List UInt8) (x7 : List VLabel) (x8 : Bool) (x9 : Int) : Tree (Lf EE.T × Option (List VLabel)) :=
  .leaf (.go (w9kL4 c) (w9sL4 x0 x1 x2 x7 x8 (w64 (x9 + 1))), k4 x0 x1 x2 x7 x8 (w64 (x9 + 1)))
theorem w9vR5 (N : Nat) (k4 : (List VLabel) → (List UInt8) → (List UInt8) → (List VLabel) → Bool → Int → Option (List VLabel)) (n : Nat) (x0 : List VLabel) (x1 : List UInt8) (x2 : List UInt8) (x7 : List VLabel) (x8 : Bool) (x9 : Int) : evM TT EE (w9G N) w9lv w9rs 4000 true (w9kR5 (bodyOf 0 Tryz.f9)) (w9sR5 x0 x1 x2 x7 x8 x9) = (w9TR5 (bodyOf 0 Tryz.f9) N k4 n x0 x1 x2 x7 x8 x9).map1 := by kernel_rfl
theorem w9nR5 (N : Nat) (k4 : (List VLabel) → (List UInt8) → (List UInt8) → (List VLabel) → Bool → Int → Option (List VLabel)) (n : Nat) (x0 : List VLabel) (x1 : List UInt8) (x2 : List UInt8) (x7 : List VLabel) (x8 : Bool) (x9 : Int) : ref_PutLabel_R5 N k4 n x0 x1 x2 x7 x8 x9 = (w9TR5 (bodyOf 0 Tryz.f9) N k4 n x0 x1 x2 x7 x8 x9).run := by kernel_rfl
theorem w9oR5 {N : Nat} {r : List VLabel} {k4 : (List VLabel) → (List UInt8) → (List UInt8) → (List VLabel) → Bool → Int → Option (List VLabel)} (hk4 : ∀ x0 x1 x2 x7 x8 x9, k4 x0 x1 x2 x7 x8 x9 = some r → Ends (Y := TT) EE (w9G N) w9lv w9rs (fun u => u = w9enc r) (w9kL4 (bodyOf 0 Tryz.f9)) (w9sL4 x0 x1 x2 x7 x8 x9)) (n : Nat) (x0 : List VLabel) (x1 : List UInt8) (x2 : List UInt8) (x7 : List VLabel) (x8 : Bool) (x9 : Int) (h : ref_PutLabel_R5 N k4 n x0 x1 x2 x7 x8 x9 = some r) : Ends (Y := TT) EE (w9G N) w9lv w9rs (fun u => u = w9enc r) (w9kR5 (bodyOf 0 Tryz.f9)) (w9sR5 x0 x1 x2 x7 x8 x9) :=
  tree_use (w9vR5 N k4 n x0 x1 x2 x7 x8 x9) (w9nR5 N k4 n x0 x1 x2 x7 x8 x9) h (show (w9TR5 (bodyOf 0 Tryz.f9) N k4 n x0 x1 x2 x7 x8 x9).all _ from fun h => hk4 _ _ _ _ _ _ h)
def w9TR9 (c : Code) (N : Nat) (k4 : (List VLabel) → (List UInt8) → (List UInt8) → (List VLabel) → Bool → Int → Option (List VLabel)) (n : Nat) (x0 : List VLabel) (x1 : List UInt8) (x2 : List UInt8) (x7 : List VLabel) (x8 : Bool) (x9 : Int) : Tree (Lf EE.T × Option (List VLabel)) :=
  .bnd (idxC x0 x9) fun z4 =>
  .cond (!decide (z4.Name = x1))
  (
    .bnd (idxC x0 x9) fun z5 =>
    .bnd (appC 32 x7 ([z5] : List VLabel)) fun z6 =>
    .leaf (.go (w9kR5 c) (w9sR5 x0 x1 x2 z6 x8 x9), ref_PutLabel_R5 N k4 n x0 x1 x2 z6 x8 x9))
  (
    .leaf (.go (w9kR5 c) (w9sR5 x0 x1 x2 x7 x8 x9), ref_PutLabel_R5 N k4 n x0 x1 x2 x7 x8 x9))
theorem w9vR9 (N : Nat) (k4 : (List VLabel) → (List UInt8) → (List UInt8) → (List VLabel) → Bool → Int → Option (List VLabel)) (n : Nat) (x0 : List VLabel) (x1 : List UInt8) (x2 : List UInt8) (x7 : List VLabel) (x8 : Bool) (x9 : Int) : evM TT EE (w9G N) w9lv w9rs 4000 true (w9kR9 (bodyOf 0 Tryz.f9)) (w9sR9 x0 x1 x2 x7 x8 x9) = (w9TR9 (bodyOf 0 Tryz.f9) N k4 n x0 x1 x2 x7 x8 x9).map1 := by kernel_rfl
theorem w9nR9 (N : Nat) (k4 : (List VLabel) → (List UInt8) → (List UInt8) → (List VLabel) → Bool → Int → Option (List VLabel)) (n : Nat) (x0 : List VLabel) (x1 : List UInt8) (x2 : List UInt8) (x7 : List VLabel) (x8 : Bool) (x9 : Int) : ref_PutLabel_R9 N k4 n x0 x1 x2 x7 x8 x9 = (w9TR9 (bodyOf 0 Tryz.f9) N k4 n x0 x1 x2 x7 x8 x9).run := by kernel_rfl
theorem w9oR9 {N : Nat} {r : List VLabel} {k4 : (List VLabel) → (List UInt8) → (List UInt8) → (List VLabel) → Bool → Int → Option (List VLabel)} (hk4 : ∀ x0 x1 x2 x7 x8 x9, k4 x0 x1 x2 x7 x8 x9 = some r → Ends (Y := TT) EE (w9G N) w9lv w9rs (fun u => u = w9enc r) (w9kL4 (bodyOf 0 Tryz.f9)) (w9sL4 x0 x1 x2 x7 x8 x9)) (n : Nat) (x0 : List VLabel) (x1 : List UInt8) (x2 : List UInt8) (x7 : List VLabel) (x8 : Bool) (x9 : Int) (h : ref_PutLabel_R9 N k4 n x0 x1 x2 x7 x8 x9 = some r) : Ends (Y := TT) EE (w9G N) w9lv w9rs (fun u => u = w9enc r) (w9kR9 (bodyOf 0 Tryz.f9)) (w9sR9 x0 x1 x2 x7 x8 x9) :=
  tree_use (w9vR9 N k4 n x0 x1 x2 x7 x8 x9) (w9nR9 N k4 n x0 x1 x2 x7 x8 x9) h (show (w9TR9 (bodyOf 0 Tryz.f9) N k4 n x0 x1 x2 x7 x8 x9).all _ from fun _ => ⟨fun _ => fun _ => fun h => w9oR5 hk4 n _ _ _ _ _ _ h, fun h => w9oR5 hk4 n _ _ _ _ _ _ h⟩)
def w9TL4 (c : Code) (N : Nat) (n : Nat) (x0 : List VLabel) (x1 : List UInt8) (x2 : List UInt8) (x7 : List VLabel) (x8 : Bool) (x9 : Int) : Tree (Lf EE.T × Option (List VLabel)) :=
  .cond (decide (x9 < (x0.length : Int)))
  (
    .cond (!x8)
    (
      .bnd (idxC x0 x9) fun z1 =>
      .cond (!Op.bytesLess z1.Name x1)
      (
        .bnd (appC 32 x7 ([({ Name := x1, Value := x2 } : VLabel)] : List VLabel)) fun z2 =>
        .leaf (.go (w9kR9 c) (w9sR9 x0 x1 x2 z2 true x9), ref_PutLabel_R9 N (ref_PutLabel_L4 N n) n x0 x1 x2 z2 true x9))
      (
        .leaf (.go (w9kR9 c) (w9sR9 x0 x1 x2 x7 x8 x9), ref_PutLabel_R9 N (ref_PutLabel_L4 N n) n x0 x1 x2 x7 x8 x9)))
    (
      .leaf (.go (w9kR9 c) (w9sR9 x0 x1 x2 x7 x8 x9), ref_PutLabel_R9 N (ref_PutLabel_L4 N n) n x0 x1 x2 x7 x8 x9)))
  (
    .cond (!x8)
    (
      .bnd (appC 32 x7 ([({ Name := x1, Value := x2 } : VLabel)] : List VLabel)) fun z3 =>
      .leaf (.done (w9enc z3), some z3))
    (
      .leaf (.done (w9enc x7), some x7)))
theorem w9vL4 (N : Nat) (n : Nat) (x0 : List VLabel) (x1 : List UInt8) (x2 : List UInt8) (x7 : List VLabel) (x8 : Bool) (x9 : Int) : evM TT EE (w9G N) w9lv w9rs 4000 true (w9kL4 (bodyOf 0 Tryz.f9)) (w9sL4 x0 x1 x2 x7 x8 x9) = (w9TL4 (bodyOf 0 Tryz.f9) N n x0 x1 x2 x7 x8 x9).map1 := by kernel_rfl
theorem w9nL4 (N : Nat) (n : Nat) (x0 : List VLabel) (x1 : List UInt8) (x2 : List UInt8) (x7 : List VLabel) (x8 : Bool) (x9 : Int) : ref_PutLabel_L4 N (n + 1) x0 x1 x2 x7 x8 x9 = (w9TL4 (bodyOf 0 Tryz.f9) N n x0 x1 x2 x7 x8 x9).run := by kernel_rfl
theorem w9oL4 {N : Nat} {r : List VLabel} : ∀ (n : Nat) (x0 : List VLabel) (x1 : List UInt8) (x2 : List UInt8) (x7 : List VLabel) (x8 : Bool) (x9 : Int), ref_PutLabel_L4 N n x0 x1 x2 x7 x8 x9 = some r → Ends (Y := TT) EE (w9G N) w9lv w9rs (fun u => u = w9enc r) (w9kL4 (bodyOf 0 Tryz.f9)) (w9sL4 x0 x1 x2 x7 x8 x9)
  | 0, _, _, _, _, _, _, h => by cases h
  | n + 1, x0, x1, x2, x7, x8, x9, h => tree_use (w9vL4 N n x0 x1 x2 x7 x8 x9) (w9nL4 N n x0 x1 x2 x7 x8 x9) h (show (w9TL4 (bodyOf 0 Tryz.f9) N n x0 x1 x2 x7 x8 x9).all _ from ⟨⟨fun _ => ⟨fun _ => fun h => w9oR9 (w9oL4 n) n _ _ _ _ _ _ h, fun h => w9oR9 (w9oL4 n) n _ _ _ _ _ _ h⟩, fun h => w9oR9 (w9oL4 n) n _ _ _ _ _ _ h⟩, ⟨fun _ => retp (enc := w9enc) rfl, retp (enc := w9enc) rfl⟩⟩)
def w9TE0 (c : Code) (N : Nat) (x0 : List VLabel) (x1 : List UInt8) (x2 : List UInt8) : Tree (Lf EE.T × Option (List VLabel)) :=
  .leaf (.go (w9kL4 c) (w9sL4 x0 x1 x2 ([] : List VLabel) (decide (x2 = ([] : List UInt8))) 0), ref_PutLabel_L4 N N x0 x1 x2 ([] : List VLabel) (decide (x2 = ([] : List UInt8))) 0)
theorem w9vE0 (N : Nat) (x0 : List VLabel) (x1 : List UInt8) (x2 : List UInt8) : evM TT EE (w9G N) w9lv w9rs 4000 true (w9kE0 (bodyOf 0 Tryz.f9)) (w9sE0 x0 x1 x2) = (w9TE0 (bodyOf 0 Tryz.f9) N x0 x1 x2).map1 := by kernel_rfl
theorem w9nE0 (N : Nat) (x0 : List VLabel) (x1 : List UInt8) (x2 : List UInt8) : ref_PutLabel N x0 x1 x2 = (w9TE0 (bodyOf 0 Tryz.f9) N x0 x1 x2).run := by kernel_rfl
theorem w9oE0 {N : Nat} {r : List VLabel} (x0 : List VLabel) (x1 : List UInt8) (x2 : List UInt8) (h : ref_PutLabel N x0 x1 x2 = some r) : Ends (Y := TT) EE (w9G N) w9lv w9rs (fun u => u = w9enc r) (w9kE0 (bodyOf 0 Tryz.f9)) (w9sE0 x0 x1 x2) :=
  tree_use (w9vE0 N x0 x1 x2) (w9nE0 N x0 x1 x2) h (show (w9TE0 (bodyOf 0 Tryz.f9) N x0 x1 x2).all _ from fun h => w9oL4 N _ _ _ _ _ _ h)
theorem ref_PutLabel_ok {N : Nat} (x0 : List VLabel) (x1 : List UInt8) (x2 : List UInt8) {r : List VLabel} (h : ref_PutLabel N x0 x1 x2 = some r) (ρ : Nat → Nat) : ACalls Tryz.prog 9 (([.a (.d (.sl (.nam 2)) x0), .a (.d .str x1), .a (.d .str x2)] : List (TV EE.T)).map (TV.to EE.toEnc ρ)) [] (fun out H => out = .ret ((ref_PutLabel_u r).to EE.toEnc ρ) ∧ H = []) :=
  (fn_ok (bodyOf 0 Tryz.f9) 58 mixed (w9Gok N) Tryz.func9 (by kernel_rfl) rfl rfl rfl rfl (w9oE0 x0 x1 x2 h) ρ).mono fun out H h => KPost.ret rfl h
def ref_PutLabel_h (N : Nat) : List (TV EE.T) → PV EE.T
  | [u0, u1, u2] => match argD (.sl (.nam 2)) u0, argD .str u1, argD .str u2 with
    | some x0, some x1, some x2 => .opt (ref_PutLabel N x0 x1 x2) ref_PutLabel_u
    | _, _, _ => .bad
  | _ => .bad
theorem ref_PutLabel_hok (N : Nat) (us : List (TV EE.T)) : (ref_PutLabel_h N us).ok fun u => ∀ ρ, ACalls Tryz.prog 9 (us.map (TV.to EE.toEnc ρ)) [] (fun out H => out = .ret (u.to EE.toEnc ρ) ∧ H = []) := by
  unfold ref_PutLabel_h
  split
  · split
    · rename_i h0 h1 h2
      intro z hz ρ; refine acalls_le ?_ (ref_PutLabel_ok _ _ _ hz ρ); exact ⟨argD_le h0 ρ, argD_le h1 ρ, argD_le h2 ρ, trivial⟩
    · trivial
  · trivial
/-! ### gleaner/gleanerref.SameLabels -/
def ref_SameLabels_u (r : Bool) : TV EE.T := .a (.d .bool r)
def w13enc (r : Bool) : RL EE.T := .ret (ref_SameLabels_u r) []
def w13lv : Lvs := ⟨[(6, ⟨[(0, false), (1, false), (5, false)], [], []⟩)], [(4, ⟨[(0, false), (1, false), (5, false)], [], []⟩)], [], [], false, [], []⟩
def w13rs : List ResultVar := [.tmp 4]
def w13G (N : Nat) : Gam EE := ⟨[], EQT, [], []⟩
theorem w13Gok (N : Nat) : GOk Tryz.prog TT EE (w13G N) := GOk.nil EQT_ok
def w13kL4 (c : Code) : List It2 := atL 4 c
def w13sL4 (x0 : List VLabel) (x1 : List VLabel) (x5 : Int) : TS EE.T := ⟨26, [(0, .a (.d (.sl (.nam 2)) x0)), (1, .a (.d (.sl (.nam 2)) x1)), (5, .a (.d (.int .i64) x5))], [], []⟩
def w13kE0 (c : Code) : List It2 := [.c c]
def w13sE0 (x0 : List VLabel) (x1 : List VLabel) : TS EE.T := ⟨26, [(0, .a (.d (.sl (.nam 2)) x0)), (1, .a (.d (.sl (.nam 2)) x1))], [], []⟩
def w13TL4 (c : Code) (N : Nat) (n : Nat) (x0 : List VLabel) (x1 : List VLabel) (x5 : Int) : Tree (Lf EE.T × Option Bool) :=
  .cond (decide (x5 < (x0.length : Int)))
  (
    .bnd (idxC x0 x5) fun z1 =>
    .bnd (idxC x1 x5) fun z2 =>
    .cond (!(beqS z1.Name z2.Name && (beqS z1.Value z2.Value && true)))
    (
      .leaf (.done (w13enc false), some false))
    (
      .leaf (.go (w13kL4 c) (w13sL4 x0 x1 (w64 (x5 + 1))), ref_SameLabels_L4 N n x0 x1 (w64 (x5 + 1)))))
  (
    .leaf (.done (w13enc true), some true))
theorem w13vL4 (N : Nat) (n : Nat) (x0 : List VLabel) (x1 : List VLabel) (x5 : Int) : evM TT EE (w13G N) w13lv w13rs 4000 true (w13kL4 (bodyOf 0 Tryz.f13)) (w13sL4 x0 x1 x5) = (w13TL4 (bodyOf 0 Tryz.f13) N n x0 x1 x5).map1 := by kernel_rfl
theorem w13nL4 (N : Nat) (n : Nat) (x0 : List VLabel) (x1 : List VLabel) (x5 : Int) : ref_SameLabels_L4 N (n + 1) x0 x1 x5 = (w13TL4 (bodyOf 0 Tryz.f13) N n x0 x1 x5).run := by kernel_rfl
theorem w13oL4 {N : Nat} {r : Bool} : ∀ (n : Nat) (x0 : List VLabel) (x1 : List VLabel) (x5 : Int), ref_SameLabels_L4 N n x0 x1 x5 = some r → Ends (Y := TT) EE (w13G N) w13lv w13rs (fun u => u = w13enc r) (w13kL4 (bodyOf 0 Tryz.f13)) (w13sL4 x0 x1 x5)
  | 0, _, _, _, h => by cases h
  | n + 1, x0, x1, x5, h => tree_use (w13vL4 N n x0 x1 x5) (w13nL4 N n x0 x1 x5) h (show (w13TL4 (bodyOf 0 Tryz.f13) N n x0 x1 x5).all _ from ⟨fun _ => fun _ => ⟨retp (enc := w13enc) rfl, fun h => (w13oL4 n) _ _ _ h⟩, retp (enc := w13enc) rfl⟩)
def w13TE0 (c : Code) (N : Nat) (x0 : List VLabel) (x1 : List VLabel) : Tree (Lf EE.T × Option Bool) :=
  .cond ((x0.length : Int) != (x1.length : Int))
  (
    .leaf (.done (w13enc false), some false))
  (
    .leaf (.go (w13kL4 c) (w13sL4 x0 x1 0), ref_SameLabels_L4 N N x0 x1 0))
theorem w13vE0 (N : Nat) (x0 : List VLabel) (x1 : List VLabel) : evM TT EE (w13G N) w13lv w13rs 4000 true (w13kE0 (bodyOf 0 Tryz.f13)) (w13sE0 x0 x1) = (w13TE0 (bodyOf 0 Tryz.f13) N x0 x1).map1 := by kernel_rfl
theorem w13nE0 (N : Nat) (x0 : List VLabel) (x1 : List VLabel) : ref_SameLabels N x0 x1 = (w13TE0 (bodyOf 0 Tryz.f13) N x0 x1).run := by kernel_rfl
theorem w13oE0 {N : Nat} {r : Bool} (x0 : List VLabel) (x1 : List VLabel) (h : ref_SameLabels N x0 x1 = some r) : Ends (Y := TT) EE (w13G N) w13lv w13rs (fun u => u = w13enc r) (w13kE0 (bodyOf 0 Tryz.f13)) (w13sE0 x0 x1) :=
  tree_use (w13vE0 N x0 x1) (w13nE0 N x0 x1) h (show (w13TE0 (bodyOf 0 Tryz.f13) N x0 x1).all _ from ⟨retp (enc := w13enc) rfl, fun h => w13oL4 N _ _ _ h⟩)
theorem ref_SameLabels_ok {N : Nat} (x0 : List VLabel) (x1 : List VLabel) {r : Bool} (h : ref_SameLabels N x0 x1 = some r) (ρ : Nat → Nat) : ACalls Tryz.prog 13 (([.a (.d (.sl (.nam 2)) x0), .a (.d (.sl (.nam 2)) x1)] : List (TV EE.T)).map (TV.to EE.toEnc ρ)) [] (fun out H => out = .ret ((ref_SameLabels_u r).to EE.toEnc ρ) ∧ H = []) :=
  (fn_ok (bodyOf 0 Tryz.f13) 26 mixed (w13Gok N) Tryz.func13 (by kernel_rfl) rfl rfl rfl rfl (w13oE0 x0 x1 h) ρ).mono fun out H h => KPost.ret rfl h
def ref_SameLabels_h (N : Nat) : List (TV EE.T) → PV EE.T
  | [u0, u1] => match argD (.sl (.nam 2)) u0, argD (.sl (.nam 2)) u1 with
    | some x0, some x1 => .opt (ref_SameLabels N x0 x1) ref_SameLabels_u
    | _, _ => .bad
  | _ => .bad
theorem ref_SameLabels_hok (N : Nat) (us : List (TV EE.T)) : (ref_SameLabels_h N us).ok fun u => ∀ ρ, ACalls Tryz.prog 13 (us.map (TV.to EE.toEnc ρ)) [] (fun out H => out = .ret (u.to EE.toEnc ρ) ∧ H = []) := by
  unfold ref_SameLabels_h
  split
  · split
    · rename_i h0 h1
      intro z hz ρ; refine acalls_le ?_ (ref_SameLabels_ok _ _ hz ρ); exact ⟨argD_le h0 ρ, argD_le h1 ρ, trivial⟩
    · trivial
  · trivial
/-! ### gleaner/gleanerlaw.labelsAre -/
def law_labelsAre_u (r : Bool) : TV EE.T := .a (.d .bool r)
def w11enc (r : Bool) : RL EE.T := .ret (law_labelsAre_u r) []
def w11lv : Lvs := ⟨[(3, ⟨[(0, false), (1, false), (2, false), (3, true)], [], []⟩)], [], [3], [], false, [], []⟩
def w11rs : List ResultVar := [.tmp 8]
def w11G (N : Nat) : Gam EE := ⟨[⟨13, ref_SameLabels_h N⟩], EQT, [], []⟩
theorem w11Gok (N : Nat) : GOk Tryz.prog TT EE (w11G N) := GOk.cons (ref_SameLabels_hok N) (GOk.nil EQT_ok)
def w11kR3 (c : Code) : List It2 := atR 3 c
def w11sR3 (x0 : List VLabel) (x1 : Int) (x2 : Int) (x3 : List VLabel) : TS EE.T := ⟨19, [(0, .a (.d (.sl (.nam 2)) x0)), (1, .a (.d (.int .i64) x1)), (2, .a (.d (.int .i64) x2)), (3, .a (.d (.sl (.nam 2)) x3))], [], []⟩
def w11kE0 (c : Code) : List It2 := [.c c]
def w11sE0 (x0 : List VLabel) (x1 : Int) (x2 : Int) (x3 : List VLabel) : TS EE.T := ⟨19, [(0, .a (.d (.sl (.nam 2)) x0)), (1, .a (.d (.int .i64) x1)), (2, .a (.d (.int .i64) x2)), (3, .a (.d (.sl (.nam 2)) x3))], [], []⟩
def w11TR3 (c : Code) (N : Nat) (n : Nat) (x0 : List VLabel) (x1 : Int) (x2 : Int) (x3 : List VLabel) : Tree (Lf EE.T × Option Bool) :=
  .cond (x1 == x2)
  (
    .bnd (ref_SameLabels N x0 x3) fun z1 =>
    .leaf (.done (w11enc z1), some z1))
  (
    .leaf (.done (w11enc false), some false))
theorem w11vR3 (N : Nat) (n : Nat) (x0 : List VLabel) (x1 : Int) (x2 : Int) (x3 : List VLabel) : evM TT EE (w11G N) w11lv w11rs 4000 true (w11kR3 (bodyOf 0 Tryz.f11)) (w11sR3 x0 x1 x2 x3) = (w11TR3 (bodyOf 0 Tryz.f11) N n x0 x1 x2 x3).map1 := by kernel_rfl
theorem w11nR3 (N : Nat) (n : Nat) (x0 : List VLabel) (x1 : Int) (x2 : Int) (x3 : List VLabel) : law_labelsAre_R3 N n x0 x1 x2 x3 = (w11TR3 (bodyOf 0 Tryz.f11) N n x0 x1 x2 x3).run := by kernel_rfl
theorem w11oR3 {N : Nat} {r : Bool} (n : Nat) (x0 : List VLabel) (x1 : Int) (x2 : Int) (x3 : List VLabel) (h : law_labelsAre_R3 N n x0 x1 x2 x3 = some r) : Ends (Y := TT) EE (w11G N) w11lv w11rs (fun u => u = w11enc r) (w11kR3 (bodyOf 0 Tryz.f11)) (w11sR3 x0 x1 x2 x3) :=
  tree_use (w11vR3 N n x0 x1 x2 x3) (w11nR3 N n x0 x1 x2 x3) h (show (w11TR3 (bodyOf 0 Tryz.f11) N n x0 x1 x2 x3).all _ from ⟨fun _ => retp (enc := w11enc) rfl, retp (enc := w11enc) rfl⟩)
def w11TE0 (c : Code) (N : Nat) (x0 : List VLabel) (x1 : Int) (x2 : Int) (x3 : List VLabel) : Tree (Lf EE.T × Option Bool) :=
  .cond (x2 != 0)
  (
    .leaf (.go (w11kR3 c) (w11sR3 x0 x1 x2 ([] : List VLabel)), law_labelsAre_R3 N N x0 x1 x2 ([] : List VLabel)))
  (
    .leaf (.go (w11kR3 c) (w11sR3 x0 x1 x2 x3), law_labelsAre_R3 N N x0 x1 x2 x3))
theorem w11vE0 (N : Nat) (x0 : List VLabel) (x1 : Int) (x2 : Int) (x3 : List VLabel) : evM TT EE (w11G N) w11lv w11rs 4000 true (w11kE0 (bodyOf 0 Tryz.f11)) (w11sE0 x0 x1 x2 x3) = (w11TE0 (bodyOf 0 Tryz.f11) N x0 x1 x2 x3).map1 := by kernel_rfl
theorem w11nE0 (N : Nat) (x0 : List VLabel) (x1 : Int) (x2 : Int) (x3 : List VLabel) : law_labelsAre N x0 x1 x2 x3 = (w11TE0 (bodyOf 0 Tryz.f11) N x0 x1 x2 x3).run := by kernel_rfl
theorem w11oE0 {N : Nat} {r : Bool} (x0 : List VLabel) (x1 : Int) (x2 : Int) (x3 : List VLabel) (h : law_labelsAre N x0 x1 x2 x3 = some r) : Ends (Y := TT) EE (w11G N) w11lv w11rs (fun u => u = w11enc r) (w11kE0 (bodyOf 0 Tryz.f11)) (w11sE0 x0 x1 x2 x3) :=
  tree_use (w11vE0 N x0 x1 x2 x3) (w11nE0 N x0 x1 x2 x3) h (show (w11TE0 (bodyOf 0 Tryz.f11) N x0 x1 x2 x3).all _ from ⟨fun h => w11oR3 N _ _ _ _ h, fun h => w11oR3 N _ _ _ _ h⟩)
theorem law_labelsAre_ok {N : Nat} (x0 : List VLabel) (x1 : Int) (x2 : Int) (x3 : List VLabel) {r : Bool} (h : law_labelsAre N x0 x1 x2 x3 = some r) (ρ : Nat → Nat) : ACalls Tryz.prog 11 (([.a (.d (.sl (.nam 2)) x0), .a (.d (.int .i64) x1), .a (.d (.int .i64) x2), .a (.d (.sl (.nam 2)) x3)] : List (TV EE.T)).map (TV.to EE.toEnc ρ)) [] (fun out H => out = .ret ((law_labelsAre_u r).to EE.toEnc ρ) ∧ H = []) :=
  (fn_ok (bodyOf 0 Tryz.f11) 19 mixed (w11Gok N) Tryz.func11 (by kernel_rfl) rfl rfl rfl rfl (w11oE0 x0 x1 x2 x3 h) ρ).mono fun out H h => KPost.ret rfl h
def law_labelsAre_h (N : Nat) : List (TV EE.T) → PV EE.T
  | [u0, u1, u2, u3] => match argD (.sl (.nam 2)) u0, argD (.int .i64) u1, argD (.int .i64) u2, argD (.sl (.nam 2)) u3 with
    | some x0, some x1, some x2, some x3 => .opt (law_labelsAre N x0 x1 x2 x3) law_labelsAre_u
    | _, _, _, _ => .bad
  | _ => .bad
theorem law_labelsAre_hok (N : Nat) (us : List (TV EE.T)) : (law_labelsAre_h N us).ok fun u => ∀ ρ, ACalls Tryz.prog 11 (us.map (TV.to EE.toEnc ρ)) [] (fun out H => out = .ret (u.to EE.toEnc ρ) ∧ H = []) := by
  unfold law_labelsAre_h
  split
  · split
    · rename_i h0 h1 h2 h3
      intro z hz ρ; refine acalls_le ?_ (law_labelsAre_ok _ _ _ _ hz ρ); exact ⟨argD_le h0 ρ, argD_le h1 ρ, argD_le h2 ρ, argD_le h3 ρ, trivial⟩
    · trivial
  · trivial
end Go.Proofs.YtgmlkhfjhogdbaaGreat

/- strings.NewReplacer, walked over abstract values. -/
namespace Go.Proofs.YtgmlkhfjhogdbaaGreat
open Go.RowKit P
set_option linter.unusedSimpArgs false
set_option linter.unusedVariables false
attribute [local irreducible] AS.nf OpV ARun Stk QSem QSemA ACalls EffOp AppOk SrcOk Awp Aops
set_option maxHeartbeats 1000000
def six : List (List AV) := [[.v (.string (mkB [92]))], [.v (.string (mkB [92, 92]))], [.v (.string (mkB [34]))], [.v (.string (mkB [92, 34]))], [.v (.string (mkB [10]))], [.v (.string (mkB [92, 110]))]]
theorem six_one : RowsOne six := fun r hr u hu => by
  simp only [six, List.mem_cons, List.not_mem_nil, or_false] at hr
  rcases hr with rfl | rfl | rfl | rfl | rfl | rfl <;> (simp at hu; subst hu; rfl)
/-- A replacer that has not been used. -/
def repBox : List AV := [.v (.int .u32 0), .v (.int .i32 0), .v (.int .u32 0), .v .nilIface, .sl false 1 six]
set_option maxRecDepth 100000 in
theorem newReplacer_a : ACalls Tryz.prog 36 [.sl false 1 six] [] (fun out H => ∃ B, out = .ret (.v (.pointer (some ⟨B, 0, none⟩))) ∧ H = [(B, repBox)]) := by
  refine acalls_enter _ 12 [.tmp 2] Tryz.func36 (by kernel_rfl) rfl rfl rfl rfl ?_
  dsimp only [slotsOf]
  repeat (first
    | ((first | apply ar_un); (next => (first | (simp only [go_sem, Nat.reduceBEq, Nat.reduceEqDiff, reduceIte, reduceCtorEq, String.reduceEq, Nat.reduceAdd, Int.reduceToNat]; exact rfl))))
    | (apply ar_op' rfl rfl rfl rfl; (next => (first
     | (refine evalE_ok (T := TT) rfl ?_; (first | exact trivial | omega))
     | (apply opk ⟨_, .binOp .eql _ _ _ _, _, _, _, _⟩; first | exact opv_bin rfl rfl rfl | fail)
     | (apply opk ⟨_, .call { callee := .builtin .len, args := _, argTypes := _ }, _, _, _, _⟩; first | exact opv_len_sl (T := TT) rfl rfl rfl | fail)
     | fail)))
    | (refine arO _ ?_; first | (refine arO ⟨_, .move _, _, _, _, _⟩ ?_; first | refine ar_move_sl rfl rfl rfl rfl ?_ | fail) | fail)
    | refine ar_seq ?_
    | (refine arE ?_; refine ar_endM [0, 2, 6] rfl ?_)
    | refine ar_region ?_
    | refine ar_skip ?_
    | (refine arC (.cond _ _ _) ?_; first | (refine ar_cond_false rfl ?_ ?_; (next => (first | rfl))) | fail)
    | fail)
  refine ar_eff rfl rfl (eff_append_nil (T := TT) (m := six) (sz := 1) rfl rfl rfl (.inr ⟨_, rfl⟩) rfl rfl (fun F X a hs => adds_rel six_one X a (opV_rel' hs rfl)) (by decide) rfl ?_)
  refine ar_subO rfl (fun F X tm hs => hs.lay (.s 9)) ?_
  refine ar_op' rfl rfl rfl rfl (opv_build (T := TT) rfl rfl rfl rfl rfl) ?_
  refine ar_eff rfl rfl (eff_boxB rfl rfl rfl rfl fun k hk => ?_)
  repeat (first | ((first | apply ar_un | apply stk_un); (next => (first | (simp only [go_sem, Nat.reduceBEq, Nat.reduceEqDiff, reduceIte, reduceCtorEq, String.reduceEq, Nat.reduceAdd, Int.reduceToNat]; exact rfl)))) | (apply ar_op' rfl rfl rfl rfl; (next => (first | (refine evalE_ok (T := TT) rfl ?_; (first | exact trivial)) | fail))) | (refine arE ?_; refine ar_endM [0, 2, 6] rfl ?_) | (refine arC .ret ?_; refine ar_retM [2] ?_) | refine stk_nil ?_ | fail)
  first | exact qret_mk rfl (⟨k, rfl, rfl⟩) | (trace_state; exact qret_mk rfl (⟨k, rfl, rfl⟩))
end Go.Proofs.YtgmlkhfjhogdbaaGreat

/- labels.Text of two labels, one of them the name: what the laws begin with. -/
namespace Go.Proofs.YtgmlkhfjhogdbaaGreat
open Go.RowKit P
set_option linter.unusedSimpArgs false
set_option linter.unusedVariables false
def nameB : List UInt8 := [95, 95, 110, 97, 109, 101, 95, 95]
def upB : List UInt8 := [117, 112]
def jobB : List UInt8 := [106, 111, 98]
def partB : List UInt8 := [106, 111, 98, 61, 34, 120, 34]
def twoL : List VLabel := [⟨nameB, upB⟩, ⟨jobB, [120]⟩]
def twoA : List (List AV) := [[.v (.string (mkB nameB)), .v (.string (mkB upB))], [.v (.string (mkB jobB)), .v (.string (mkB [120]))]]
set_option maxRecDepth 100000 in
theorem check_two : ACalls Tryz.prog 18 [.sl false 1 [[.sl false 2 twoA]]] [] (fun out H => out = .ret (.v (.int .i64 0)) ∧ H = []) := labels_check_ok (N := 400) [twoL] (r := (0 : Int)) (by kernel_rfl) id
set_option maxRecDepth 100000 in
theorem value_two : ACalls Tryz.prog 25 [.sl false 2 twoA, .v (.string (mkB nameB))] [] (fun out H => out = .ret (.v (.string (mkB upB))) ∧ H = []) := labels_Value_ok (N := 400) twoL nameB (r := upB) (by kernel_rfl) id
set_option maxRecDepth 100000 in
theorem join_run : evC TT EE ⟨[], EQT, [], []⟩ ⟨[], [], [], [], false, [], []⟩ [.tmp 4] 1000 [.c (bodyOf 0 Tryz.f38)] ⟨75, [(0, .a (.d (.sl .str) ([partB] : List (List UInt8)))), (1, .a (.d .str ([44] : List UInt8)))], [], []⟩ = some (.ret (.a (.d .str partB)) []) := by kernel_rfl
set_option maxRecDepth 100000 in
theorem join_one : ACalls Tryz.prog 38 [.sl false 1 [[.v (.string (mkB partB))]], .v (.string (mkB [44]))] [] (fun out H => out = .ret (.v (.string (mkB partB))) ∧ H = []) := by
  have h := fn_okH (Y := TT) (lv := ⟨[], [], [], [], false, [], []⟩) (rs := [.tmp 4]) (K := fun r => r = (.ret (.a (.d .str partB)) [])) (bodyOf 0 Tryz.f38) 75 mixed rep_Gok Tryz.func38 (by kernel_rfl) rfl rfl rfl (us := [.a (.d (.sl .str) ([partB] : List (List UInt8))), .a (.d .str ([44] : List UInt8))]) rfl (h0 := []) (evC_ok _ _ _ _ join_run rfl) id (fun p hp => by cases hp)
  exact h.mono fun out H hp => hp.ret rfl
section
variable {P : Program} {L : List Oper} {mN : Nat → Bool} {K : AS → Prop} {k d : Nat} {o : Oper} {rest : List Oper} {σ : AS} {u : AV}
theorem n_op (hm : mN k = true) (h1 : o.dst = some d) (h2 : o.guard = none) (h3 : Nat.ble (d + 1) σ.n = true) (h4 : OpV P o σ u) (h5 : Det L mN o u) (h : NSem P L mN K (k + 1) rest (σ.put d u)) : NSem P L mN K k (o :: rest) σ := by
  unfold NSem; rw [hm]; exact ⟨d, u, h1, h2, h3, h4, h5, h⟩
theorem n_skip (hm : mN k = false) (h : NSem P L mN K (k + 1) rest σ) : NSem P L mN K k (o :: rest) σ := by
  unfold NSem; rw [hm]; exact h
theorem c_op (h : EffOp P o σ (CSem P K rest)) : CSem P K (o :: rest) σ := h
theorem c_val (hdst : o.dst = some d) (hd : Nat.ble (d + 1) σ.n = true) (hv : OpV P o σ u) (h : CSem P K rest ((σ.free d).put d u)) : CSem P K (o :: rest) σ := eff_of_opv hdst hd hv h
theorem c_le {σ' : AS} (hl : Le σ σ') (h : CSem P K (o :: rest) σ') : CSem P K (o :: rest) σ := fun F X a hs => h F X a (hs.le hl)
theorem n_end (h : K σ) : NSem P L mN K k [] σ := h
theorem c_end (h : K σ) : CSem P K [] σ := h
theorem look_h {α : Type} (k : Nat) (a : α) (r : List (Nat × α)) : look ((k, a) :: r) k = some a := by rw [look_cons, if_pos rfl]
end
def sixth : Nat → AV
  | 2 => .sl false 1 [[.v (.string (mkB partB))]]
  | _ => .v (.slice none 0 0)
def nine : Nat → Int
  | 0 => 0
  | 1 => 1
  | _ => 2
attribute [local irreducible] AS.nf OpV ARun Stk QSem QSemA ACalls EffOp AppOk SrcOk Awp Aops NSem CSem
set_option maxHeartbeats 2000000
set_option maxRecDepth 100000 in
theorem text_two : ACalls Tryz.prog 23 [.sl false 2 twoA] [] (fun out H => out = .ret (.tu [.v (.string (mkB (upB ++ [123] ++ partB ++ [125]))), .v (.int .i64 0)]) ∧ H = []) := by
  have hck := check_two
  have hval := value_two
  have hjo := join_one
  have lu : upB.length = 2 := rfl
  have lp : partB.length = 7 := rfl
  have lj : jobB.length = 3 := rfl
  have hne : jobB ≠ [95, 95, 110, 97, 109, 101, 95, 95] := by decide
  unfold twoA at hck hval ⊢
  refine acalls_enter _ 54 [.tmp 2, .tmp 3] Tryz.func23 (by kernel_rfl) rfl rfl rfl rfl ?_
  dsimp only [slotsOf]
  repeat (first
    | ((first | apply ar_un); (next => (first | (simp only [go_sem, Nat.reduceBEq, Nat.reduceEqDiff, reduceIte, reduceCtorEq, String.reduceEq, Nat.reduceAdd, Int.reduceToNat]; exact rfl))))
    | (apply ar_op' rfl rfl rfl rfl; (next => (first
     | (refine evalE_ok (T := TT) rfl ?_; (first | exact trivial))
     | (apply opk ⟨_, .binOp .neq _ _ _ _, _, _, _, _⟩; first | (refine opv_cmp_f rfl rfl rfl ?_; (next => (first | (simp only [cmpP]; omega)))) | fail)
     | (apply opk ⟨_, .call { callee := .builtin .len, args := _, argTypes := _ }, _, _, _, _⟩; first | exact opv_len_sl (T := TT) rfl rfl rfl | fail)
     | (apply opk ⟨_, .buildSlice _ _ _, _, _, _, _⟩; first | exact opv_build_slice (T := TT) rfl rfl rfl rfl rfl rfl rfl | fail)
     | fail)))
    | (refine arO _ ?_; first
     | (refine arO ⟨_, .move _, _, _, _, _⟩ ?_; first | refine ar_move_sl rfl rfl rfl rfl ?_ | fail)
     | (refine arO ⟨_, .call { callee := .value _, args := _, argTypes := _ }, _, _, _, _⟩ ?_; first
      | (apply ar_callM0 rfl (hck) rfl rfl; (next => (repeat (first | exact PArgs.nil | (apply PArgs.cons; (next => (first | exact PArg.rd rfl (Le1.rd _ _ _) rfl)))))); (next => rfl); (next => rfl); rintro _ _ ⟨rfl, rfl⟩; refine ⟨_, rfl, ?_⟩)
      | (apply ar_callM0 rfl (hval) rfl rfl; (next => (repeat (first | exact PArgs.nil | (apply PArgs.cons; (next => (first | exact PArg.rd rfl (Le1.refl _) rfl)))))); (next => rfl); (next => rfl); rintro _ _ ⟨rfl, rfl⟩; refine ⟨_, rfl, ?_⟩)
      | fail)
     | fail)
    | refine ar_seq ?_
    | (refine arE ?_; refine ar_endM [0, 2, 3, 4, 5, 6, 8, 13, 17, 18, 19, 20, 25, 46] rfl ?_)
    | refine ar_region ?_
    | refine ar_block ?_
    | refine ar_skip ?_
    | (refine arC (.cond _ _ _) ?_; first | (refine ar_cond_false rfl ?_ ?_; (next => (first | rfl))) | fail)
    | fail)
  refine ar_loop (fun y : Nat => ⟨54, [(0, .sl false 2 [[.v (.string (mkB nameB)), .v (.string (mkB upB))], [.v (.string (mkB jobB)), .v (.string (mkB [120]))]]), (5, .v (.string (mkB upB))), (6, sixth y), (17, .sl false 2 [[.v (.string (mkB nameB)), .v (.string (mkB upB))], [.v (.string (mkB jobB)), .v (.string (mkB [120]))]]), (18, .v (.int .i64 2)), (19, .v (.int .i64 (nine y)))], [], []⟩) (fun y => y ≤ 2) (fun y => 2 - y) 0 ⟨rfl, ?_, ?_, rfl⟩ (by omega) ?_
  · (repeat' (first | exact trivial | exact .refl _ | refine ⟨⟨_, rfl, ?_⟩, ?_⟩))
  · (repeat' (first | exact trivial))
  intro y hy
  obtain rfl | rfl | rfl : y = 0 ∨ y = 1 ∨ y = 2 := by omega
  · simp only [sixth, nine]
    repeat (first
      | ((first | apply ar_un); (next => (first | (simp only [go_sem, Nat.reduceBEq, Nat.reduceEqDiff, reduceIte, reduceCtorEq, String.reduceEq, Nat.reduceAdd, Int.reduceToNat]; exact rfl))))
      | (apply ar_op' rfl rfl rfl rfl; (next => (first
       | (refine evalE_ok (T := TT) rfl ?_; (first | exact trivial | omega))
       | (apply opk ⟨_, .binOp .neq _ _ _ _, _, _, _, _⟩; first | (refine opv_sne_f rfl rfl rfl ?_; (next => (first | rfl))) | fail)
       | (apply opk ⟨_, .binOp .lss _ _ _ _, _, _, _, _⟩; first | (refine opv_cmp_t rfl rfl rfl ?_; (next => (first | (simp only [cmpP]; omega)))) | fail)
       | (apply opk ⟨_, .indexAddr _ _ _, _, _, _, _⟩; first
        | (refine opv_indexaddr (T := TT) rfl rfl rfl rfl ?_ ?_; (next => (first | omega)); (next => (first | (simp [NFL] <;> omega))))
        | fail)
       | (apply opk ⟨_, .fieldAddr _ _ _, _, _, _, _⟩; first | exact opv_field_box (T := TT) rfl rfl rfl rfl rfl | fail)
       | (apply opk ⟨_, .load _ _, _, _, _, _⟩; first | exact opv_load_els (T := TT) rfl rfl rfl rfl | fail)
       | fail)))
      | (refine arO _ ?_; first
       | (refine arO ⟨_, .load _ _, _, _, _, _⟩ ?_; first | refine ar_load_own (T := TT) rfl rfl rfl rfl look_hd rfl rfl rfl rfl ?_ | fail)
       | (refine arO ⟨_, .store _ _ _, _, _, _, _⟩ ?_; first
        | (apply ar_effM rfl rfl; (next => (first
         | (apply effTo_store (T := TT) rfl; (next => (first | exact look_hd | fail)); (next => rfl); (next => rfl); (next => rfl); (next => rfl); (next => rfl); (next => rfl); (next => rfl); (next => rfl))
         | fail)))
        | fail)
       | (refine arO ⟨_, .alloc _, _, _, _, _⟩ ?_; first
        | (refine ar_eff rfl rfl (eff_alloc (T := TT) rfl rfl ?_); intro kb hkb; (repeat (have hkn := (freshK_ne hkb).1; replace hkb := (freshK_ne hkb).2)); (try have hkl := freshK_look hkb); clear hkb; refine ar_nf ?_)
        | fail)
       | fail)
      | refine ar_seq ?_
      | (refine arE ?_; refine ar_endM [0, 2, 3, 4, 5, 6, 8, 13, 17, 18, 19, 20, 25, 46] rfl ?_)
      | refine ar_region ?_
      | refine ar_block ?_
      | refine ar_skip ?_
      | refine ar_blk ?_
      | refine ar_dedup rfl ?_
      | (refine arC (.cond _ _ _) ?_; first | (refine ar_cond_true rfl ?_ ?_; (next => (first | rfl))) | (refine ar_cond_false rfl ?_ ?_; (next => (first | rfl))) | fail)
      | fail)
    refine ar_back ⟨1, ⟨rfl, ?_, ?_, rfl⟩, by omega, by omega⟩
    · (repeat' (first | exact trivial | exact .refl _ | refine ⟨⟨_, rfl, ?_⟩, ?_⟩))
    · (repeat' (first | exact trivial))
  · simp only [sixth, nine]
    repeat (first
      | ((first | apply ar_un); (next => (first | (simp only [go_sem, Nat.reduceBEq, Nat.reduceEqDiff, reduceIte, reduceCtorEq, String.reduceEq, Nat.reduceAdd, Int.reduceToNat]; exact rfl))))
      | (apply ar_op' rfl rfl rfl rfl; (next => (first
       | (apply opk ⟨_, .binOp .neq _ _ _ _, _, _, _, _⟩; first | (refine opv_sne_t rfl rfl rfl ?_; (next => (first | assumption))) | fail)
       | (apply opk ⟨_, .binOp .lss _ _ _ _, _, _, _, _⟩; first | (refine opv_cmp_t rfl rfl rfl ?_; (next => (first | (simp only [cmpP]; omega)))) | fail)
       | (apply opk ⟨_, .indexAddr _ _ _, _, _, _, _⟩; first
        | (refine opv_indexaddr (T := TT) rfl rfl rfl rfl ?_ ?_; (next => (first | omega)); (next => (first | (simp [NFL] <;> omega))))
        | fail)
       | (apply opk ⟨_, .fieldAddr _ _ _, _, _, _, _⟩; first | exact opv_field_box (T := TT) rfl rfl rfl rfl rfl | fail)
       | (apply opk ⟨_, .load _ _, _, _, _, _⟩; first | exact opv_load_els (T := TT) rfl rfl rfl rfl | fail)
       | fail)))
      | (refine arO _ ?_; first
       | (refine arO ⟨_, .load _ _, _, _, _, _⟩ ?_; first | refine ar_load_own (T := TT) rfl rfl rfl rfl look_hd rfl rfl rfl rfl ?_ | fail)
       | (refine arO ⟨_, .store _ _ _, _, _, _, _⟩ ?_; first
        | (apply ar_effM rfl rfl; (next => (first
         | (apply effTo_store (T := TT) rfl; (next => (first | exact look_hd | fail)); (next => rfl); (next => rfl); (next => rfl); (next => rfl); (next => rfl); (next => rfl); (next => rfl); (next => rfl))
         | fail)))
        | fail)
       | (refine arO ⟨_, .alloc _, _, _, _, _⟩ ?_; first
        | (refine ar_eff rfl rfl (eff_alloc (T := TT) rfl rfl ?_); intro kb hkb; (repeat (have hkn := (freshK_ne hkb).1; replace hkb := (freshK_ne hkb).2)); (try have hkl := freshK_look hkb); clear hkb; refine ar_nf ?_)
        | fail)
       | fail)
      | refine ar_seq ?_
      | (refine arE ?_; refine ar_endM [0, 2, 3, 4, 5, 6, 8, 13, 17, 18, 19, 20, 25, 46] rfl ?_)
      | refine ar_region ?_
      | refine ar_block ?_
      | refine ar_skip ?_
      | refine ar_dedup rfl ?_
      | (refine arC (.cond _ _ _) ?_; first | (refine ar_cond_true rfl ?_ ?_; (next => (first | rfl))) | fail)
      | fail)
    refine ar_drawM (st := fun _ => true) (mN := fun i => [0, 1, 2, 3, 6, 7].contains i) (cs := [4, 5, 8, 9, 10, 11, 12, 13]) mixed (mixB_ok (by kernel_rfl)) rfl (fun k c hk => ?_) ?_
    · simp only [List.filter_cons, List.filter_nil, if_true, look_cons, look_nil] at hk
      split at hk
      · cases hk; rfl
      · cases hk
    refine n_op (d := 26) (u := .v (.slice none 0 0)) rfl rfl rfl rfl (opv_move_rd (u := .v (.slice none 0 0)) rfl (.inl rfl)) ⟨rfl, .inl ⟨_, rfl⟩⟩ ?_
    refine n_op (d := 27) (u := .v (.pointer (some ⟨kb, 0, none⟩))) rfl rfl rfl rfl (opv_eq (opv_field_box (T := TT) rfl rfl rfl rfl rfl) rfl) ⟨rfl, .inl ⟨_, rfl⟩⟩ ?_
    refine n_op (d := 28) (u := .v (.string (mkB jobB))) rfl rfl rfl rfl (opv_load_box (u := .v (.string (mkB jobB))) (T := TT) rfl (look_h _ _ _) rfl rfl rfl rfl) ⟨rfl, .inl ⟨_, rfl⟩⟩ ?_
    refine n_op (d := 29) (u := .v (.string (mkB [106, 111, 98, 61, 34]))) rfl rfl rfl rfl (opv_eq (opv_cat rfl rfl (Nat.le_of_ble_eq_true (by kernel_rfl))) (by kernel_rfl)) ⟨rfl, .inl ⟨_, rfl⟩⟩ ?_
    refine n_skip rfl (n_skip rfl ?_)
    refine n_op (d := 32) (u := .v (.pointer (some ⟨kb, 1, none⟩))) rfl rfl rfl rfl (opv_eq (opv_field_box (T := TT) rfl rfl rfl rfl rfl) rfl) ⟨rfl, .inl ⟨_, rfl⟩⟩ ?_
    refine n_op (d := 33) (u := .v (.string (mkB [120]))) rfl rfl rfl rfl (opv_load_box (u := .v (.string (mkB [120]))) (T := TT) rfl (look_h _ _ _) rfl rfl rfl rfl) ⟨rfl, .inl ⟨_, rfl⟩⟩ ?_
    refine n_skip rfl (n_skip rfl (n_skip rfl (n_skip rfl (n_skip rfl (n_skip rfl (n_end ?_))))))
    refine c_le (σ' := ⟨54, [(0, .sl false 2 [[.v (.string (mkB nameB)), .v (.string (mkB upB))], [.v (.string (mkB jobB)), .v (.string (mkB [120]))]]), (5, .v (.string (mkB upB))), (17, .sl false 2 [[.v (.string (mkB nameB)), .v (.string (mkB upB))], [.v (.string (mkB jobB)), .v (.string (mkB [120]))]]), (18, .v (.int .i64 2)), (19, .v (.int .i64 1)), (26, .v (.slice none 0 0)), (29, .v (.string (mkB [106, 111, 98, 61, 34]))), (33, .v (.string (mkB [120])))], [], []⟩) ⟨rfl, ?_, ?_, rfl⟩ ?_
    · (repeat' (first | exact trivial | exact .refl _ | refine ⟨⟨_, rfl, ?_⟩, ?_⟩))
    · (repeat' (first | exact trivial))
    refine c_val (d := 30) (u := .sl true 1 six) rfl rfl (opv_eq (opv_build_slice (T := TT) rfl rfl rfl rfl rfl rfl rfl) (by kernel_rfl)) ?_
    refine c_op (eff_call (Hp := []) (Hr := []) newReplacer_a (.cons (.rd rfl (Le1.rd _ _ _) rfl) .nil) (fun i j r hi hj => oneSome_spec (ρs := [none]) rfl i j r r hi hj) (fun _ _ _ => rfl) (fun k cs hk => by simp [look_nil] at hk) (fun k cs hk => by simp [look_nil] at hk) rfl ?_)
    rintro _ _ ⟨B, rfl, rfl⟩
    refine ⟨_, rfl, ?_⟩
    refine c_op (eff_call (Hp := [(B, repA)]) (Hr := []) (repl_a B [120] [120] repX_a) (.cons (.rd rfl (Le1.refl _) rfl) (.cons (.rd rfl (Le1.refl _) rfl) .nil)) (fun i j r hi hj => oneSome_spec (ρs := [none, none]) rfl i j r r hi hj) (fun _ _ hh => by simp at hh) (fun k cs hk => hk) (fun k cs hk => by simp [look_nil] at hk) rfl ?_)
    rintro _ _ ⟨rfl, rfl⟩
    refine ⟨_, rfl, ?_⟩
    refine c_le (σ' := ⟨54, [(0, .sl false 2 [[.v (.string (mkB nameB)), .v (.string (mkB upB))], [.v (.string (mkB jobB)), .v (.string (mkB [120]))]]), (5, .v (.string (mkB upB))), (17, .sl false 2 [[.v (.string (mkB nameB)), .v (.string (mkB upB))], [.v (.string (mkB jobB)), .v (.string (mkB [120]))]]), (18, .v (.int .i64 2)), (19, .v (.int .i64 1)), (26, .v (.slice none 0 0)), (29, .v (.string (mkB [106, 111, 98, 61, 34]))), (34, .v (.string (mkB [120])))], [], []⟩) ⟨rfl, ?_, ?_, rfl⟩ ?_
    · (repeat' (first | exact trivial | exact .refl _ | refine ⟨⟨_, rfl, ?_⟩, ?_⟩))
    · (repeat' (first | exact trivial))
    refine c_val (d := 35) (u := .v (.string (mkB [106, 111, 98, 61, 34, 120]))) rfl rfl (opv_eq (opv_cat rfl rfl (Nat.le_of_ble_eq_true (by kernel_rfl))) (by kernel_rfl)) ?_
    refine c_val (d := 36) (u := .v (.string (mkB partB))) rfl rfl (opv_eq (opv_cat rfl rfl (Nat.le_of_ble_eq_true (by kernel_rfl))) (by kernel_rfl)) ?_
    refine c_val (d := 37) (u := .sl true 1 [[.v (.string (mkB partB))]]) rfl rfl (opv_eq (opv_build_slice (T := TT) rfl rfl rfl rfl rfl rfl rfl) rfl) ?_
    refine c_op (eff_append_nil (T := TT) (m := [[.v (.string (mkB partB))]]) (sz := 1) rfl rfl rfl (.inr ⟨_, rfl⟩) rfl rfl (fun F X a hs => adds_rel (fun r hr u hu => by simp at hr; subst hr; simp at hu; subst hu; rfl) X a (Rel.own (o := true) (opV_rel' hs rfl))) (by decide) rfl ?_)
    refine c_le (σ' := ⟨54, [(0, .sl false 2 [[.v (.string (mkB nameB)), .v (.string (mkB upB))], [.v (.string (mkB jobB)), .v (.string (mkB [120]))]]), (5, .v (.string (mkB upB))), (17, .sl false 2 [[.v (.string (mkB nameB)), .v (.string (mkB upB))], [.v (.string (mkB jobB)), .v (.string (mkB [120]))]]), (18, .v (.int .i64 2)), (19, .v (.int .i64 1)), (38, .sl false 1 [[.v (.string (mkB partB))]])], [], []⟩) ⟨rfl, ?_, ?_, rfl⟩ ?_
    · (repeat' (first | exact trivial | exact .refl _ | refine ⟨⟨_, rfl, ?_⟩, ?_⟩ | exact .rd _ _ _))
    · (repeat' (first | exact trivial))
    refine c_val (d := 6) (u := .sl false 1 [[.v (.string (mkB partB))]]) rfl rfl (opv_move_rd (u := .sl false 1 [[.v (.string (mkB partB))]]) rfl (.inr rfl)) ?_
    refine c_end (ar_blk ?_)
    refine ar_le (σ' := ⟨54, [(0, .sl false 2 [[.v (.string (mkB nameB)), .v (.string (mkB upB))], [.v (.string (mkB jobB)), .v (.string (mkB [120]))]]), (5, .v (.string (mkB upB))), (17, .sl false 2 [[.v (.string (mkB nameB)), .v (.string (mkB upB))], [.v (.string (mkB jobB)), .v (.string (mkB [120]))]]), (18, .v (.int .i64 2)), (19, .v (.int .i64 1)), (6, .sl false 1 [[.v (.string (mkB partB))]])], [], []⟩) ⟨rfl, ?_, ?_, rfl⟩ ?_
    · (repeat' (first | exact trivial | exact .refl _ | refine ⟨⟨_, rfl, ?_⟩, ?_⟩))
    · (repeat' (first | exact trivial))
    repeat (first | ((first | apply ar_un); (next => (first | (simp only [go_sem, Nat.reduceBEq, Nat.reduceEqDiff, reduceIte, reduceCtorEq, String.reduceEq, Nat.reduceAdd, Int.reduceToNat]; exact rfl)))) | (apply ar_op' rfl rfl rfl rfl; (next => (first | (refine evalE_ok (T := TT) rfl ?_; (first | exact trivial | omega)) | fail))) | (refine arE ?_; refine ar_endM [0, 2, 3, 4, 5, 6, 8, 13, 17, 18, 19, 20, 25, 46] rfl ?_) | refine ar_region ?_ | fail)
    refine ar_back ⟨2, ⟨rfl, ?_, ?_, rfl⟩, by omega, by omega⟩
    · (repeat' (first | exact trivial | exact .refl _ | refine ⟨⟨_, rfl, ?_⟩, ?_⟩))
    · (repeat' (first | exact trivial))
  · simp only [sixth, nine]
    repeat (first
      | ((first | apply ar_un | apply stk_un); (next => (first | (simp only [go_sem, Nat.reduceBEq, Nat.reduceEqDiff, reduceIte, reduceCtorEq, String.reduceEq, Nat.reduceAdd, Int.reduceToNat]; exact rfl))))
      | (refine arC .ret ?_; refine ar_retM0 [2, 3] ?_)
      | (refine ar_op' rfl rfl rfl rfl (opv_cat rfl rfl (Nat.le_of_ble_eq_true (by kernel_rfl))) ?_)
      | (apply ar_op' rfl rfl rfl rfl; (next => (first
       | (refine evalE_ok (T := TT) rfl ?_; (first | exact trivial))
       | (apply opk ⟨_, .binOp .eql _ _ _ _, _, _, _, _⟩; first | (refine opv_cmp_f rfl rfl rfl ?_; (next => (first | (simp only [cmpP]; simp [NFL] <;> omega)))) | fail)
       | (apply opk ⟨_, .binOp .lss _ _ _ _, _, _, _, _⟩; first | (refine opv_cmp_f rfl rfl rfl ?_; (next => (first | (simp only [cmpP]; omega)))) | fail)
       | (apply opk ⟨_, .call { callee := .builtin .len, args := _, argTypes := _ }, _, _, _, _⟩; first | exact opv_len_sl (T := TT) rfl rfl rfl | fail)
       | (apply opk ⟨_, .pick _ _ _, _, _, _, _⟩; first | (refine opv_pickf rfl ?_ rfl; (next => (first | rfl))) | fail)
       | fail)))
      | (refine arO _ ?_; first
       | (refine arO ⟨_, .move _, _, _, _, _⟩ ?_; first | refine ar_move_sl rfl rfl rfl rfl ?_ | fail)
       | (refine arO ⟨_, .call { callee := .value _, args := _, argTypes := _ }, _, _, _, _⟩ ?_; first
        | (apply ar_callM0 rfl (hjo) rfl rfl; (next => (repeat (first | exact PArgs.nil | (apply PArgs.cons; (next => (first | exact PArg.rd rfl (Le1.refl _) rfl)))))); (next => rfl); (next => rfl); rintro _ _ ⟨rfl, rfl⟩; refine ⟨_, rfl, ?_⟩)
        | fail)
       | fail)
      | refine ar_unwanted' rfl rfl rfl rfl ?_
      | refine ar_seq ?_
      | (refine arE ?_; refine ar_endM [0, 2, 3, 4, 5, 6, 8, 13, 17, 18, 19, 20, 25, 46] rfl ?_)
      | refine ar_region ?_
      | refine ar_skip ?_
      | (refine arC (.cond _ _ _) ?_; first | (refine ar_cond_false rfl ?_ ?_; (next => (first | rfl))) | fail)
      | refine ar_exit ?_
      | refine stk_b_hit ?_
      | refine stk_c_exit ?_
      | refine stk_l_exit ?_
      | refine stk_nil ?_
      | fail)
    first | exact qret_mk rfl (⟨rfl, rfl⟩) | (trace_state; exact qret_mk rfl (⟨rfl, rfl⟩))
end Go.Proofs.YtgmlkhfjhogdbaaGreat

/- labels.Text, as a callee: of the two labels that the laws begin with. -/
namespace Go.Proofs.YtgmlkhfjhogdbaaGreat
open Go.RowKit P
set_option linter.unusedVariables false
def isTwo : List VLabel → Bool
  | [a, b] => decide (a.Name = nameB) && decide (a.Value = upB) && (decide (b.Name = jobB) && decide (b.Value = ([120] : List UInt8)))
  | _ => false
theorem isTwo_eq {l : List VLabel} (h : isTwo l = true) : l = twoL := by
  unfold isTwo at h
  split at h
  · rename_i a b
    simp only [Bool.and_eq_true, decide_eq_true_eq] at h
    obtain ⟨⟨h1, h2⟩, h3, h4⟩ := h
    obtain ⟨a1, a2⟩ := a
    obtain ⟨b1, b2⟩ := b
    simp only at h1 h2 h3 h4
    subst h1 h2 h3 h4
    rfl
  · cases h
def labels_Text (N : Nat) (l : List VLabel) : Option (List UInt8 × Int) := match isTwo l with
  | true => some (upB ++ [123] ++ partB ++ [125], 0)
  | false => none
def labels_Text_u (r : List UInt8 × Int) : TV EE.T := .tu [.a (.d .str r.1), .a (.d (.int .i64) r.2)]
def labels_Text_h (N : Nat) : List (TV EE.T) → PV EE.T
  | [u0] => match argD (.sl (.nam 2)) u0 with
    | some x0 => .opt (labels_Text N x0) labels_Text_u
    | _ => .bad
  | _ => .bad
theorem labels_Text_hok (N : Nat) (us : List (TV EE.T)) : (labels_Text_h N us).ok fun u => ∀ ρ, ACalls Tryz.prog 23 (us.map (TV.to EE.toEnc ρ)) [] (fun out H => out = .ret (u.to EE.toEnc ρ) ∧ H = []) := by
  unfold labels_Text_h
  split
  · split
    · rename_i u0 x0 h0
      intro z hz ρ
      unfold labels_Text at hz
      split at hz
      · rename_i hb
        have := isTwo_eq hb
        subst this
        cases hz
        refine acalls_le (us' := ([.a (.d (.sl (.nam 2)) twoL)] : List (TV EE.T))) ⟨argD_le h0 ρ, trivial⟩ ?_
        exact text_two
      · cases hz
    · trivial
  · trivial
end Go.Proofs.YtgmlkhfjhogdbaaGreat

/- Rows that are written in place as boxes, and then claimed: from there on they stay as they are. -/
namespace Go.Proofs.YtgmlkhfjhogdbaaGreat
open Go.RowKit P
set_option linter.unusedVariables false
set_option linter.unusedSimpArgs false
theorem ar_ghost {P : Program} {Q : Exit → AS → Prop} {c : Code} {ks : List It} {σ σ' : AS} (h : ARun P Q (.c c :: ks) σ') (hs : ∀ F X tm, SimE F X σ tm → ∃ X' : GW, X'.w = X.w ∧ SimE F X' σ' tm ∧ Ext F X X') : ARun P Q (.c c :: ks) σ := fun F X a hsim D hd => by
  obtain ⟨X', hw, h1, h2⟩ := hs F X _ hsim
  have h3 := h F X' a h1 D hd
  rw [hw] at h3
  exact wp_mono h3 fun _ _ _ hp => hp.ext h2
/-- The box k is claimed as the row that slot d holds. -/
def AS.claim (σ : AS) (k d sz : Nat) (L : List (List AV)) : AS := { n := σ.n, t := (d, .sl true sz L) :: σ.t, h := σ.h.filter fun p => !(p.1 == k), e := [] }
theorem look_filter_ne {α : Type} {k j : Nat} {u : α} : ∀ {l : List (Nat × α)}, look (l.filter fun p => !(p.1 == k)) j = some u → j ≠ k ∧ look l j = some u
  | [], h => by simp [look_nil] at h
  | (a, b) :: r, h => by
    rw [List.filter_cons] at h
    by_cases ha : a = k
    · rw [if_neg (by simp [ha])] at h
      obtain ⟨h1, h2⟩ := look_filter_ne h
      refine ⟨h1, ?_⟩
      rw [look_cons, if_neg (fun e => h1 (e.trans ha))]
      exact h2
    · rw [if_pos (by simp [ha]), look_cons] at h
      by_cases hj : j = a
      · rw [if_pos hj] at h
        refine ⟨fun e => ha (hj.symm.trans e), ?_⟩
        rw [look_cons, if_pos hj]; exact h
      · rw [if_neg hj] at h
        obtain ⟨h1, h2⟩ := look_filter_ne h
        refine ⟨h1, ?_⟩
        rw [look_cons, if_neg hj]; exact h2
theorem flat_get {sz : Nat} : ∀ {L : List (List AV)} (hsz : ∀ r ∈ L, r.length = sz) {i j : Nat} {r : List AV} {u : AV}, L[i]? = some r → r[j]? = some u → L.flatten[i * sz + j]? = some u
  | [], _, i, j, r, u, h, _ => by simp at h
  | x :: L, hsz, i, j, r, u, h, hu => by
    have hx := hsz x (by simp)
    cases i with
    | zero =>
      simp at h; subst h
      rw [List.flatten_cons, Nat.zero_mul, Nat.zero_add, List.getElem?_append_left (List.getElem?_eq_some_iff.1 hu).1]
      exact hu
    | succ i =>
      have ih := flat_get (L := L) (fun r hr => hsz r (by simp [hr])) (i := i) (j := j) (by simpa using h) hu
      rw [List.flatten_cons, List.getElem?_append_right (by rw [Nat.succ_mul, hx]; omega), hx, show (i + 1) * sz + j - sz = i * sz + j by rw [Nat.succ_mul]; omega]
      exact ih
theorem flat_len {sz : Nat} : ∀ {L : List (List AV)}, (∀ r ∈ L, r.length = sz) → L.flatten.length = L.length * sz
  | [], _ => by simp
  | x :: L, h => by
    rw [List.flatten_cons, List.length_append, flat_len fun r hr => h r (by simp [hr]), h x (by simp), List.length_cons, Nat.succ_mul]; omega
theorem SimE.claim {F : Nat → Prop} {X : GW} {σ : AS} {tm : Array Value} {k d n c sz : Nat} {cs : List AV} {L : List (List AV)} {sp : List AV} (h : SimE F X σ tm) (hd : look σ.t d = some (.v (.slice (some ⟨k, 0, none⟩) n c))) (hb : look σ.h k = some cs) (hm : isMpB cs = false) (hL : L.length = n) (hsz : ∀ r ∈ L, r.length = sz) (hcs : cs = L.flatten ++ sp) (hc : cs.length = c * sz) (hnc : n ≤ c) :
    ∃ X' : GW, X'.w = X.w ∧ SimE F X' (σ.claim k d sz L) tm ∧ Ext F X X' := by
  subst hL
  obtain ⟨b1, b2, arr, el, fr, b3, b4, b5, b6⟩ := (h.box k cs hb).cells hm
  have hkl : k < X.w.heap.size := (Array.getElem?_eq_some_iff.1 b3).1
  have hfl := flat_len hsz
  have hpres : Pres X ⟨X.w, fun b => if b = k then some (L.length * sz) else X.g b⟩ := fun b m hbm => by
    have hbk : b ≠ k := fun e => by rw [e, b1] at hbm; cases hbm
    exact ⟨m, Nat.le_refl _, by show (if b = k then _ else _) = _; rw [if_neg hbk]; exact hbm, fun _ _ => rfl⟩
  have hcell : ∀ (i j : Nat) (r : List AV) (u : AV), L[i]? = some r → r[j]? = some u → ∃ x, arr[i * sz + j]? = some x ∧ Rel X u x := fun i j r u hi hj => by
    have h1 := flat_get hsz hi hj
    have h2 : cs[i * sz + j]? = some u := by rw [hcs, List.getElem?_append_left (List.getElem?_eq_some_iff.1 h1).1]; exact h1
    have h3 : i * sz + j < arr.size := by rw [b4]; exact (List.getElem?_eq_some_iff.1 h2).1
    exact ⟨arr[i * sz + j], Array.getElem?_eq_getElem h3, b6 _ _ _ h2 (Array.getElem?_eq_getElem h3)⟩
  have hv := rel_v (h.slot d _ hd)
  have hrel : ∀ o : Bool, Rel ⟨X.w, fun b => if b = k then some (L.length * sz) else X.g b⟩ (.sl o sz L) (tm.getD d undef) := fun o => by
    rw [hv]
    refine .sl o sz L k 0 c (L.length * sz) (fun i j => arr.getD (i * sz + j) undef) (by show (if k = k then _ else _) = _; rw [if_pos rfl]) (by omega) hnc (fun i r hi => hsz r (List.mem_of_getElem? hi)) (fun i j r u hi hj => ?_) (fun i j r u hi hj => ?_)
    · obtain ⟨x, h1, h2⟩ := hcell i j r u hi hj
      show X.w.cell? ⟨k, 0 + i * sz + j, none⟩ = _
      simp only [World.cell?, b3, Nat.zero_add, Array.getD_eq_getD_getElem?, h1]; rfl
    · obtain ⟨x, h1, h2⟩ := hcell i j r u hi hj
      rw [Array.getD_eq_getD_getElem?, h1]
      exact h2.mono hpres
  have hgne : ∀ {r : Root} {sz' : Nat} {l' : List (List AV)} {x : Value}, OwnOk F X sz' l' x → ∀ {a : Addr} {n' c' : Nat}, x = .slice (some a) n' c' → a.block ≠ k := fun {r sz' l' x} ho {a n' c'} hx e => by
    rcases ho with ⟨h1, _⟩ | ⟨b, cap, cs', e', fr', h1, h2, _⟩
    · rw [h1] at hx; cases hx
    · rw [h1] at hx; cases hx; rw [show b = k from e, b1] at h2; cases h2
  have hown : ∀ {sz' : Nat} {l' : List (List AV)} {x : Value}, OwnOk F X sz' l' x → OwnOk F ⟨X.w, fun b => if b = k then some (L.length * sz) else X.g b⟩ sz' l' x := fun {sz' l' x} ho => by
    rcases ho with h1 | ⟨b, cap, cs', e', fr', h1, h2, h3, h4, h5, h6⟩
    · exact .inl h1
    · have hbk : b ≠ k := fun e => by rw [e, b1] at h2; cases h2
      exact .inr ⟨b, cap, cs', e', fr', h1, by show (if b = k then _ else _) = _; rw [if_neg hbk]; exact h2, h3, h4, h5, h6⟩
  have hnew : OwnOk F ⟨X.w, fun b => if b = k then some (L.length * sz) else X.g b⟩ sz L (tm.getD d undef) := by
    refine .inr ⟨k, c, arr, el, fr, by rw [hv], by show (if k = k then _ else _) = _; rw [if_pos rfl], b3, by rw [b4, hc], fun j _ _ => b5 j, b2⟩
  have owns : ∀ r sz' l', (σ.claim k d sz L).own r = some (sz', l') → (r = .s d ∧ sz' = sz ∧ l' = L) ∨ (r ≠ .s d ∧ σ.own r = some (sz', l') ∧ ∀ k' o, r = .c k' o → k' ≠ k) := fun r sz' l' ho => by
    cases r with
    | s t =>
      simp only [AS.claim, AS.own, look_cons] at ho
      by_cases ht : t = d
      · subst ht
        rw [if_pos rfl] at ho
        simp only [own1, Option.some.injEq, Prod.mk.injEq] at ho
        exact .inl ⟨rfl, ho.1.symm, ho.2.symm⟩
      · rw [if_neg ht] at ho
        exact .inr ⟨fun e => ht (by cases e; rfl), ho, fun k' o e => by cases e⟩
    | c k' o =>
      simp only [AS.claim, AS.own] at ho
      cases hq : look (σ.h.filter fun p => !(p.1 == k)) k' with
      | none => rw [hq] at ho; cases ho
      | some cs' =>
        obtain ⟨q1, q2⟩ := look_filter_ne hq
        rw [hq] at ho
        refine .inr ⟨fun e => (by cases e), ?_, fun k2 o2 e => by cases e; exact q1⟩
        simp only [AS.own, q2]; exact ho
  refine ⟨⟨X.w, fun b => if b = k then some (L.length * sz) else X.g b⟩, rfl, ⟨⟨h.size, fun b m hbm => ?_, h.fb, fun t u hu => ?_, fun k' cs' hk' => ?_, fun x r hx => by simp [AS.claim, look_nil] at hx, fun r sz' l' ho => ?_, fun r r' s1 l1 s2 l2 a n1 c1 a' n2 c2 hne ho ho' hr hr' => ?_⟩, fun p hp => by cases hp⟩, rfl, rfl, rfl, Nat.le_refl _, fun b hF => ⟨rfl, ?_⟩, hpres⟩
  · simp only at hbm
    split at hbm
    · rename_i e; rw [e]; exact hkl
    · exact h.gb b m hbm
  · simp only [AS.claim, look_cons] at hu
    by_cases ht : t = d
    · rw [if_pos ht] at hu; cases hu; rw [ht]; exact hrel true
    · rw [if_neg ht] at hu; exact (h.slot t u hu).mono hpres
  · obtain ⟨q1, q2⟩ := look_filter_ne hk'
    exact (h.box k' cs' q2).keep ⟨rfl, by show (if k' = k then _ else _) = _; rw [if_neg q1], (h.box k' cs' q2).nF⟩ hpres
  · rcases owns r sz' l' ho with ⟨rfl, rfl, rfl⟩ | ⟨_, q2, _⟩
    · exact ⟨_, rfl, hnew⟩
    · obtain ⟨x, k1, k2⟩ := h.own r sz' l' q2
      exact ⟨x, k1, hown k2⟩
  · rcases owns r s1 l1 ho with ⟨rfl, rfl, rfl⟩ | ⟨p1, p2, _⟩
    · rcases owns r' s2 l2 ho' with ⟨rfl, _, _⟩ | ⟨q1, q2, _⟩
      · exact absurd rfl hne
      · obtain ⟨x, k1, k2⟩ := h.own r' s2 l2 q2
        rw [show rootV tm X.w r' = some x from k1] at hr'
        cases hr'
        have hk := hgne (r := r') k2 rfl
        simp only [rootV, hv, Option.some.injEq, Value.slice.injEq] at hr
        rw [← hr.1]; exact fun e => hk e.symm
    · obtain ⟨x, k1, k2⟩ := h.own r s1 l1 p2
      rcases owns r' s2 l2 ho' with ⟨rfl, _, _⟩ | ⟨q1, q2, _⟩
      · rw [show rootV tm X.w r = some x from k1] at hr
        cases hr
        have hk := hgne (r := r) k2 rfl
        simp only [rootV, hv, Option.some.injEq, Value.slice.injEq] at hr'
        rw [← hr'.1]; exact hk
      · exact h.disj r r' s1 l1 s2 l2 a n1 c1 a' n2 c2 hne p2 q2 hr hr'
  · show (if b = k then _ else _) = _
    rw [if_neg (fun e => b2 (by rw [← e]; exact hF))]
end Go.Proofs.YtgmlkhfjhogdbaaGreat

/- Rows of elements of several cells, written in place: what is copied into a box, appended to it, cleared. -/
namespace Go.Proofs.YtgmlkhfjhogdbaaGreat
open Go.RowKit P
set_option linter.unusedVariables false
set_option linter.unusedSimpArgs false
/-- The first q elements of what is added or copied: their cells. -/
structure SrcA (P : Program) (X : GW) (sz N q : Nat) (us : List AV) (x : Value) (vs : List Value) : Prop where
  len : (Builtin.lenOf x).run P X.w = .ok N X.w
  first : ∀ w', w'.heap = X.w.heap → (Builtin.firstCells sz q x).run P w' = .ok vs.toArray w'
  lv : vs.length = q * sz
  lu : us.length = q * sz
  rel : ∀ (i : Nat) u v, us[i]? = some u → vs[i]? = some v → Rel X u v
  one : ∀ v ∈ vs, v.oneCell' = true
theorem rel_app {X : GW} {u1 u2 : List AV} {v1 v2 : List Value} (hl : u1.length = v1.length) (h1 : ∀ (i : Nat) u v, u1[i]? = some u → v1[i]? = some v → Rel X u v) (h2 : ∀ (i : Nat) u v, u2[i]? = some u → v2[i]? = some v → Rel X u v) : ∀ (i : Nat) u v, (u1 ++ u2)[i]? = some u → (v1 ++ v2)[i]? = some v → Rel X u v := fun i u v hu hv => by
  by_cases hi : i < u1.length
  · rw [List.getElem?_append_left hi] at hu
    rw [List.getElem?_append_left (by omega)] at hv
    exact h1 i u v hu hv
  · rw [List.getElem?_append_right (by omega)] at hu
    rw [List.getElem?_append_right (by omega), ← hl] at hv
    exact h2 _ u v hu hv
theorem flat_inv {sz : Nat} (h0 : 0 < sz) : ∀ {L : List (List AV)}, (∀ r ∈ L, r.length = sz) → ∀ {i : Nat} {u : AV}, L.flatten[i]? = some u → ∃ r, L[i / sz]? = some r ∧ r[i % sz]? = some u
  | [], _, i, u, h => by simp at h
  | x :: L, hsz, i, u, h => by
    have hx := hsz x (by simp)
    rw [List.flatten_cons] at h
    by_cases hi : i < sz
    · rw [List.getElem?_append_left (by omega)] at h
      rw [Nat.div_eq_of_lt hi, Nat.mod_eq_of_lt hi]
      exact ⟨x, rfl, h⟩
    · rw [List.getElem?_append_right (by omega), hx] at h
      obtain ⟨r, h1, h2⟩ := flat_inv h0 (L := L) (fun r hr => hsz r (by simp [hr])) h
      have e1 : i / sz = (i - sz) / sz + 1 := by
        have := Nat.add_div_right (i - sz) h0
        rw [show i - sz + sz = i by omega] at this
        exact this
      have e2 : i % sz = (i - sz) % sz := by rw [Nat.mod_eq_sub_mod (by omega)]
      rw [e1, e2]
      exact ⟨r, by simpa using h1, h2⟩
section
variable {P : Program} {T : Tys P} {σ : AS} {X : GW}
theorem srcA_sl {o : Bool} {sz : Nat} (h0 : 0 < sz) {m : List (List AV)} {v : Value} (h : Rel X (.sl o sz m) v) (h1 : ∀ r ∈ m, ∀ u ∈ r, u.one = true) : ∃ vs, SrcA P X sz m.length m.length m.flatten v vs := by
  have hrows := rel_rows h
  obtain ⟨c, hc⟩ := addsA_sl (P := P) h fun r hr => ⟨hrows r hr, h1 r hr⟩
  refine ⟨rowCells sz m.length c, hc.len, hc.first, rowCells_length _ _ _, flat_len hrows, fun i u v hu hv => ?_, hc.one⟩
  obtain ⟨r, k1, k2⟩ := flat_inv h0 hrows hu
  have h3 := rowCells_get (sz := sz) (n := m.length) (c := c) (List.getElem?_eq_some_iff.1 k1).1 (Nat.mod_lt i h0)
  rw [show i / sz * sz + i % sz = i by rw [Nat.mul_comm]; exact Nat.div_add_mod i sz, hv] at h3
  cases h3
  exact hc.rel _ _ _ _ k1 k2
theorem srcA_box {F : Nat → Prop} {tm : Array Value} (h : SimE F X σ tm) {k off sz n c q : Nat} {cs : List AV} (hb : look σ.h k = some cs) (hm : isMpB cs = false) (hl : off + q * sz ≤ cs.length) (h1 : ∀ u ∈ (cs.drop off).take (q * sz), u.one = true) : ∃ vs, SrcA P X sz n q ((cs.drop off).take (q * sz)) (.slice (some ⟨k, off, none⟩) n c) vs := by
  obtain ⟨b1, b2, arr, el, fr, b3, b4, b5, b6⟩ := (h.box k cs hb).cells hm
  have hll : ((arr.toList.drop off).take (q * sz)).length = q * sz := by rw [List.length_take, List.length_drop, Array.length_toList, b4]; omega
  refine ⟨(arr.toList.drop off).take (q * sz), rfl, fun w' hw => ?_, hll, by rw [List.length_take, List.length_drop]; omega, fun i u v hu hv => ?_, fun v hv => ?_⟩
  · refine run_firstCells_some (P := P) w' sz q ⟨k, off, none⟩ n c _ hll (fun j v hv => ?_)
    rw [add_off]
    rw [List.getElem?_take] at hv
    split at hv
    · rw [List.getElem?_drop, Array.getElem?_toList] at hv
      simp only [World.cell?, hw, b3]; exact hv
    · cases hv
  · rw [List.getElem?_take] at hu hv
    split at hu
    · rename_i hi
      rw [if_pos hi] at hv
      rw [List.getElem?_drop] at hu hv
      exact b6 _ _ _ hu (by simpa using hv)
    · cases hu
  · obtain ⟨i, hi⟩ := List.getElem?_of_mem hv
    rw [List.getElem?_take] at hi
    split at hi
    · rename_i hiq
      rw [List.getElem?_drop, Array.getElem?_toList] at hi
      have hlt := (Array.getElem?_eq_some_iff.1 hi).1
      have hc : cs[off + i]? = some (cs[off + i]'(by omega)) := List.getElem?_eq_getElem (by omega)
      exact AV.one_rel (b6 _ _ _ hc hi) (h1 _ (List.mem_of_getElem? (i := i) (by rw [List.getElem?_take, if_pos hiq, List.getElem?_drop]; exact hc)))
    · cases hi
variable {t u ty e : TypeId} {x y : Operand} {pos : String} {af : Array Edge} {g : Option (Nat × Bool)}
theorem run_copyN {w : World} {ds ss tt elem : TypeId} {b o dLen dCap N q sz : Nat} {src : Value} {cs : List Value} {i : TypeInfo} (hu : P.underlying ds = some (.slice elem)) (hi : P.info? elem = some i) (hs : i.size = sz) (hlen : (Builtin.lenOf src).run P w = .ok N w) (hfirst : (Builtin.firstCells sz q src).run P w = .ok cs.toArray w) (hq : q = Nat.min N dLen)
    (hc : ∀ j, j < cs.length → (w.cell? ⟨b, o + j, none⟩).isSome = true) (hf : ∀ j, j < cs.length → w.frozen? ⟨b, o + j, none⟩ = false) (h1 : ∀ v ∈ cs, v.oneCell' = true) :
    (Builtin.copy_ #[ds, ss] tt #[.slice (some ⟨b, o, none⟩) dLen dCap, src]).run P w = .ok (goInt q) (w.setCells b o cs) := by
  have hst := run_storeCells_cells (P := P) b o cs 0 w (by simpa using hc) (by simpa using hf) h1
  subst hs
  simp [Builtin.copy_, run_underlying hu, hlen, sizeOf, typeInfo, hi, ← hq, hfirst, hst]
theorem run_builtin_copyN {a : Act} {w w' : World} {v1 v2 v : Value} {d : Nat} (h1 : a.eval x = v1) (h2 : a.eval y = v2) (h : (Builtin.copy_ #[t, u] ty #[v1, v2]).run P w = .ok v w') :
    (execOp a.eval ⟨some d, .call { callee := .builtin .copy, args := #[x, y], argTypes := #[t, u] }, ty, pos, af, g⟩).run P w = .ok (.value v) w' := by
  subst h1 h2
  simp [execOp, resolve, invoke, builtin, h]
/-- copy into a box. -/
theorem eff_copyN {d k off n c by_ sz N q : Nat} {cs us : List AV} (hx : opV σ x = some (.v (.slice (some ⟨k, off, none⟩) n c))) (hb : look σ.h k = some cs) (hmp : isMpB cs = false) (ht : look T.ty t = some (.slice e)) (hz : look T.sz e = some (sz, by_))
    (hsrc : ∀ F X (a : Act), SimE F X σ a.tmps → ∃ vs, SrcA P X sz N q us (a.eval y) vs) (hq : q = Nat.min N n) (hl : off + q * sz ≤ cs.length) (hpl : Plain1 us) (hd : Nat.ble (d + 1) σ.n = true)
    {R : AS → Prop} (hR : R ((σ.setc k (splice cs off us)).put d (.v (.int .i64 q)))) : EffOp P ⟨some d, .call { callee := .builtin .copy, args := #[x, y], argTypes := #[t, u] }, ty, pos, af, g⟩ σ R := by
  intro F X a hs
  have e1 := rel_v (opV_rel' hs hx)
  obtain ⟨vs, hv⟩ := hsrc F X a hs
  obtain ⟨i, hi1, hi2, hi3, zv, hi4, hi5⟩ := T.szOk _ _ _ hz
  obtain ⟨b1, b2, arr, el, fr, b3, b4, b5, b6⟩ := (hs.box k cs hb).cells hmp
  have hrun := run_copyN (P := P) (ss := u) (tt := ty) (b := k) (o := off) (dCap := c) (T.tyOk _ _ ht) hi1 hi2 hv.len (hv.first X.w rfl) hq (fun j hj => by
    rw [hv.lv] at hj
    have : off + j < arr.size := by rw [b4]; omega
    simp [World.cell?, b3, this]) (fun j _ => b5 _) hv.one
  obtain ⟨s1, s2⟩ := SimE.setc (cs := cs) (us := us) (vs := vs) hs hb (by rw [hv.lu]; exact hl) (by rw [hv.lv, hv.lu]) hv.rel (fun j sz' l v ho => by
    cases hi : us[j]? with
    | none => rw [hi] at ho; cases ho
    | some u0 => rw [hi, hpl u0 (List.mem_of_getElem? hi)] at ho; cases ho) (fun j j' p q ho => by
    cases hi : us[j]? with
    | none => rw [hi] at ho; cases ho
    | some u0 => rw [hi, hpl u0 (List.mem_of_getElem? hi)] at ho; cases ho) hmp
  refine runs_value (x := .int .i64 (q : Int)) (w' := X.w.setCells k off vs) (run_builtin_copyN e1 rfl hrun) ⟨_, _, rfl, hR, ?_, s2⟩
  exact s1.put' (by show d < σ.n; exact lt_of_ble hd) (.v _) (fun sz l h => by cases h) (fun r sz l sz' l' q n c q' n' c' h1 h2 => by cases h2)
/-- append to a slice over a box that has room. -/
theorem eff_append_in {d k n c by_ sz N : Nat} {cs us : List AV} {du : TypeDesc} (hx : opV σ x = some (.v (.slice (some ⟨k, 0, none⟩) n c))) (hb : look σ.h k = some cs) (hmp : isMpB cs = false) (ht : look T.ty t = some (.slice e)) (hu : look T.ty u = some du) (hnz : du = .string ∨ ∃ e', du = .slice e') (hz : look T.sz e = some (sz, by_))
    (hsrc : ∀ F X (a : Act), SimE F X σ a.tmps → ∃ vs, SrcA P X sz N N us (a.eval y) vs) (hroom : n + N ≤ c) (hl : n * sz + N * sz ≤ cs.length) (hpl : Plain1 us) (hd : Nat.ble (d + 1) σ.n = true)
    {R : AS → Prop} (hR : R ((σ.setc k (splice cs (n * sz) us)).put d (.v (.slice (some ⟨k, 0, none⟩) (n + N) c)))) : EffOp P ⟨some d, .call { callee := .builtin .append, args := #[x, y], argTypes := #[t, u] }, ty, pos, af, g⟩ σ R := by
  intro F X a hs
  have e1 := rel_v (opV_rel' hs hx)
  obtain ⟨vs, hv⟩ := hsrc F X a hs
  obtain ⟨i, hi1, hi2, hi3, zv, hi4, hi5⟩ := T.szOk _ _ _ hz
  obtain ⟨b1, b2, arr, el, fr, b3, b4, b5, b6⟩ := (hs.box k cs hb).cells hmp
  have hrun := run_append_in (P := P) (ty := ty) (b := k) (sLen := n) (sCap := c) (T.tyOk _ _ ht) (T.tyOk _ _ hu) hnz hi1 (x := a.eval y) (m := N) (news := vs) ⟨hv.len, by rw [hi2]; exact hv.first, by rw [hi2]; exact hv.lv⟩ hv.one hroom (fun j hj => by
    rw [hv.lv] at hj
    have : n * i.size + j < arr.size := by rw [hi2, b4]; omega
    simp [World.cell?, b3, this]) (fun j _ => b5 _)
  rw [hi2] at hrun
  obtain ⟨s1, s2⟩ := SimE.setc (cs := cs) (us := us) (vs := vs) hs hb (by rw [hv.lu]; exact hl) (by rw [hv.lv, hv.lu]) hv.rel (fun j sz' l v ho => by
    cases hi : us[j]? with
    | none => rw [hi] at ho; cases ho
    | some u0 => rw [hi, hpl u0 (List.mem_of_getElem? hi)] at ho; cases ho) (fun j j' p q ho => by
    cases hi : us[j]? with
    | none => rw [hi] at ho; cases ho
    | some u0 => rw [hi, hpl u0 (List.mem_of_getElem? hi)] at ho; cases ho) hmp
  refine runs_value (x := .slice (some ⟨k, 0, none⟩) (n + N) c) (w' := X.w.setCells k (n * sz) vs) (run_builtin_append e1 rfl hrun) ⟨_, _, rfl, hR, ?_, s2⟩
  exact s1.put' (by show d < σ.n; exact lt_of_ble hd) (.v _) (fun sz l h => by cases h) (fun r sz l sz' l' q n c q' n' c' h1 h2 => by cases h2)
/-- A new box behind a draw: a slice over its first cells, the rest spare. -/
theorem eff_newboxD {o : Oper} {d nn : Nat} {us0 : List AV} {Fact : Nat → List AV → Prop} (hdst : o.dst = some d) (hd : Nat.ble (d + 1) σ.n = true) (hp : ∀ cap sp, Fact cap sp → Plain1 (us0 ++ sp))
    (hrun : ∀ F X (a : Act), SimE F X σ a.tmps → ∃ (arr : Array Value) (el : TypeId) (cap : Nat) (sp : List AV), Fact cap sp ∧ (execOp a.eval o).run P X.w = .ok (.value (.slice (some ⟨X.w.heap.size, 0, none⟩) nn cap)) (X.w.drew.alloc (.cells arr el)) ∧ arr.size = (us0 ++ sp).length ∧ ∀ (i : Nat) u x, (us0 ++ sp)[i]? = some u → arr[i]? = some x → Rel X u x)
    {R : AS → Prop} (hR : ∀ k cap sp, FreshK k σ.h → Fact cap sp → R ((σ.box k (us0 ++ sp)).put d (.v (.slice (some ⟨k, 0, none⟩) nn cap)))) : EffOp P o σ R := by
  intro F X a hs
  obtain ⟨arr, el, cap, sp, hF, h1, h2, h3⟩ := hrun F X a hs
  have hn : New X ⟨X.w.drew.alloc (.cells arr el), X.g⟩ := ⟨rfl, rfl, rfl, by show X.w.heap.size ≤ (X.w.heap.push _).size; simp, fun b hb => ⟨by show (X.w.heap.push _)[b]? = _; rw [Array.getElem?_push, if_neg (by omega)], rfl⟩⟩
  have hgb : ∀ b n, X.g b = some n → b < (X.w.drew.alloc (.cells arr el)).heap.size := fun b n hb => by have := hs.gb b n hb; show b < (X.w.heap.push _).size; simp; omega
  have hnew := hs.new hn hgb
  have hgk : X.g X.w.heap.size = none := by
    cases hg : X.g X.w.heap.size with
    | none => rfl
    | some n => have := hs.gb _ _ hg; omega
  have hhk : (X.w.drew.alloc (.cells arr el)).heap[X.w.heap.size]? = some (.cells arr el) := by show (X.w.heap.push _)[_]? = _; simp
  have hb : BoxOk F ⟨X.w.drew.alloc (.cells arr el), X.g⟩ X.w.heap.size (us0 ++ sp) := by
    refine CellsOk.box ⟨hgk, fun hF => Nat.lt_irrefl _ (hs.fb _ hF), arr, el, (0, 0), hhk, h2, fun o => ?_, fun i u x hu hx => (h3 i u x hu hx).mono (hn.pres hs.gb)⟩
    show (X.w.drew.alloc (.cells arr el)).frozen? ⟨X.w.heap.size, o, none⟩ = false
    simp only [World.frozen?, hhk]; simp
  refine runs_value h1 ⟨⟨X.w.drew.alloc (.cells arr el), X.g⟩, _, rfl, hR X.w.heap.size cap sp (fun q hq e1 => ?_) hF, ?_, hn.ext hs.gb hs.fb⟩
  · obtain ⟨k, cs'⟩ := q
    simp only at e1
    subst e1
    have : ∀ {l : List (Nat × List AV)} {k : Nat} {c : List AV}, (k, c) ∈ l → ∃ c', look l k = some c' := by
      intro l
      induction l with
      | nil => intro k c h; cases h
      | cons p l ih =>
        intro k c h
        obtain ⟨k0, c0⟩ := p
        by_cases e2 : k = k0
        · exact ⟨c0, by rw [look_cons, if_pos e2]⟩
        · rcases List.mem_cons.1 h with h | h
          · cases h; exact absurd rfl e2
          · obtain ⟨c', h'⟩ := ih h
            exact ⟨c', by rw [look_cons, if_neg e2]; exact h'⟩
    obtain ⟨c', h'⟩ := this hq
    exact Nat.lt_irrefl _ (hs.box _ _ h').lt
  · rw [hdst]
    exact (hnew.box1 hb (hp cap sp hF)).put_new (lt_of_ble hd) (New.refl _) hgb (.v _) (FreshOk.plain rfl)
/-- append to a slice over a box that has no room: a new box. -/
theorem eff_append_new {d k n c by_ sz N : Nat} {cs us : List AV} {du : TypeDesc} (hx : opV σ x = some (.v (.slice (some ⟨k, 0, none⟩) n c))) (hb : look σ.h k = some cs) (hmp : isMpB cs = false) (ht : look T.ty t = some (.slice e)) (hu : look T.ty u = some du) (hnz : du = .string ∨ ∃ e', du = .slice e') (hz : look T.sz e = some (sz, by_)) (hb1 : 1 ≤ by_)
    (hsrc : ∀ F X (a : Act), SimE F X σ a.tmps → ∃ vs, SrcA P X sz N N us (a.eval y) vs) (hroom : c < n + N) (hl : n * sz ≤ cs.length) (ho : ∀ u ∈ cs.take (n * sz), u.one = true) (hfit : (n + N) * by_ ≤ 140737488355328) (hpl : Plain1 us) (hpc : Plain1 (cs.take (n * sz))) (hd : Nat.ble (d + 1) σ.n = true)
    {R : AS → Prop} (hR : ∀ k' cap sp, FreshK k' σ.h → (n + N ≤ cap ∧ (cs.take (n * sz) ++ us ++ sp).length = cap * sz ∧ Plain1 sp) → R ((σ.box k' (cs.take (n * sz) ++ us ++ sp)).put d (.v (.slice (some ⟨k', 0, none⟩) (n + N) cap)))) : EffOp P ⟨some d, .call { callee := .builtin .append, args := #[x, y], argTypes := #[t, u] }, ty, pos, af, g⟩ σ R := by
  refine eff_newboxD (Fact := fun cap sp => n + N ≤ cap ∧ (cs.take (n * sz) ++ us ++ sp).length = cap * sz ∧ Plain1 sp) rfl hd (fun cap sp h v hv => ?_) (fun F X a hs => ?_) hR
  · rcases List.mem_append.1 hv with hv | hv
    · rcases List.mem_append.1 hv with hv | hv
      · exact hpc v hv
      · exact hpl v hv
    · exact h.2.2 v hv
  · have e1 := rel_v (opV_rel' hs hx)
    obtain ⟨vs, hv⟩ := hsrc F X a hs
    obtain ⟨i, hi1, hi2, hi3, zv, hi4, hi5⟩ := T.szOk _ _ _ hz
    obtain ⟨os, hos⟩ := srcA_box (P := P) (sz := sz) (off := 0) (n := n) (c := c) (q := n) hs hb hmp (by omega) (by rw [List.drop_zero]; exact ho)
    rw [List.drop_zero] at hos
    have hcge := grownCap_ge X.w (n + N) c e
    have hrun := run_append_out (P := P) (ty := ty) (sLen := n) (sCap := c) (a := some ⟨k, 0, none⟩) (m := N) (olds := os) (news := vs) (x := a.eval y) (T.tyOk _ _ ht) (T.tyOk _ _ hu) hnz hi1 hi4 ⟨hv.len, by rw [hi2]; exact hv.first, by rw [hi2]; exact hv.lv⟩ (fun w' hw => by rw [hi2]; exact hos.first w' hw) hroom (by rw [hi3]; exact hfit) (by rw [hi3]; exact hb1)
    refine ⟨_, e, grownCap X.w (n + N) c e, (Builtin.zeroCells zv.cells (grownCap X.w (n + N) c e - (n + N))).toList.map .v, ⟨hcge, ?_, fun v hv => ?_⟩, run_builtin_append e1 rfl hrun, ?_, fun j u0 v hu0 hv0 => ?_⟩
    · rw [List.length_append, List.length_append, hv.lu, hos.lu, List.length_map, Array.length_toList]
      have : (Builtin.zeroCells zv.cells (grownCap X.w (n + N) c e - (n + N))).size = (grownCap X.w (n + N) c e - (n + N)) * sz := by simp [Builtin.zeroCells, hi5]
      rw [this, ← Nat.add_mul, ← Nat.add_mul]; congr 1; omega
    · obtain ⟨z, _, rfl⟩ := List.mem_map.1 hv; rfl
    · simp only [Array.size_append, List.size_toArray, List.length_append, hv.lu, hos.lu, hv.lv, hos.lv, List.length_map, Array.length_toList]
    · have hl0 : (os.toArray ++ vs.toArray ++ Builtin.zeroCells zv.cells (grownCap X.w (n + N) c e - (n + N)))[j]? = (os ++ vs ++ (Builtin.zeroCells zv.cells (grownCap X.w (n + N) c e - (n + N))).toList)[j]? := by
        rw [← Array.getElem?_toList]; simp
      rw [hl0] at hv0
      refine rel_app (by rw [List.length_append, List.length_append, hv.lu, hos.lu, hv.lv, hos.lv]) (rel_app (by rw [hos.lu, hos.lv]) hos.rel hv.rel) (fun i u v hu hv => ?_) j u0 v hu0 hv0
      rw [List.getElem?_map, hv] at hu
      cases hu
      exact .v _
end
end Go.Proofs.YtgmlkhfjhogdbaaGreat

/- Rows in boxes: cut, cleared. -/
namespace Go.Proofs.YtgmlkhfjhogdbaaGreat
open Go.RowKit P
set_option linter.unusedVariables false
set_option linter.unusedSimpArgs false
/-- Where a slice that is cut at i begins. -/
def offS (off c i sz : Nat) : Nat := if c = i then off else off + i * sz
section
variable {P : Program} {T : Tys P} {σ : AS} {t u ty e : TypeId} {x y : Operand} {pos : String} {af : Array Edge} {g : Option (Nat × Bool)}
theorem opv_slice_bx {dd : Option Tmp} {lo hi : Option Operand} {k o n c i j sz by_ : Nat} (hx : opV σ x = some (.v (.slice (some ⟨k, o, none⟩) n c))) (ht : look T.ty t = some (.slice e)) (hz : look T.sz e = some (sz, by_)) (hl : optIs σ lo .i64 (i : Int) 0) (hh : optIs σ hi .i64 (j : Int) (n : Int)) (h1 : i ≤ j) (h2 : j ≤ c) :
    OpV P ⟨dd, .slice t x lo hi none, ty, pos, af, g⟩ σ (.v (.slice (some ⟨k, offS o c i sz, none⟩) (j - i) (c - i))) := by
  refine opv_same rfl fun F X a hs => ?_
  obtain ⟨it, hi1, hi2, hi3, _⟩ := T.szOk _ _ _ hz
  have e1 := opV_val hs (by simp [Op.operands]) hx
  have hlo := opt_val (q := lo) hs (fun p hp => by subst hp; simp [Op.operands]) hl
  have hhi := opt_val (q := hi) hs (fun p hp => by subst hp; simp [Op.operands]) hh
  refine ⟨_, ?_, .v _⟩
  have hu := T.tyOk _ _ ht
  have hb := run_bounds (P := P) (isS := true) (w := X.w) hlo hhi (by omega) (by omega) (cap := c) (by omega)
  simp only [execOp, e1]
  refine run_val ?_
  simp only [Option.map_none, Instr.sliceAt, Sem.run_bind, run_underlying hu, Result.andThen_ok]
  simp only [Instr.slice, Sem.run_bind, run_underlying hu, Result.andThen_ok, hb]
  by_cases hci : c = i
  · simp [sizeOf, typeInfo, hi1, hi2, offS, hci]
  · simp [sizeOf, typeInfo, hi1, hi2, offS, hci, add_off]
theorem opv_slice3_bx {dd : Option Tmp} {lo : Option Operand} {hi mx : Operand} {k o n c i j m sz by_ : Nat} (hx : opV σ x = some (.v (.slice (some ⟨k, o, none⟩) n c))) (ht : look T.ty t = some (.slice e)) (hz : look T.sz e = some (sz, by_)) (hl : optIs σ lo .i64 (i : Int) 0) (hh : opV σ hi = some (.v (.int .i64 (j : Nat)))) (hm : opV σ mx = some (.v (.int .i64 (m : Nat)))) (h1 : i ≤ j) (h2 : j ≤ m) (h3 : m ≤ c) :
    OpV P ⟨dd, .slice t x lo (some hi) (some mx), ty, pos, af, g⟩ σ (.v (.slice (some ⟨k, offS o m i sz, none⟩) (j - i) (m - i))) := by
  refine opv_same rfl fun F X a hs => ?_
  obtain ⟨it, hi1, hi2, hi3, _⟩ := T.szOk _ _ _ hz
  have e1 := opV_val hs (by simp [Op.operands]) hx
  have e2 := opV_val hs (by cases lo <;> simp [Op.operands]) hh
  have e3 := opV_val hs (by cases lo <;> simp [Op.operands]) hm
  have hlo := opt_val (q := lo) hs (fun p hp => by subst hp; simp [Op.operands]) hl
  refine ⟨_, ?_, .v _⟩
  have hu := T.tyOk _ _ ht
  have hb := run_bounds3 (P := P) (w := X.w) (len := n) (cap := c) (lo := lo.map a.eval) (j := (j : Int)) (m := (m : Int)) (k1 := .i64) (k2 := .i64) hlo (by omega) (by omega) (by omega) (by omega)
  simp only [execOp, e1]
  refine run_val ?_
  simp only [Option.map_some, e2, e3, Instr.sliceAt, Sem.run_bind, run_underlying hu, Result.andThen_ok]
  simp only [Instr.slice, Sem.run_bind, run_underlying hu, Result.andThen_ok, hb]
  by_cases hci : m = i
  · simp [sizeOf, typeInfo, hi1, hi2, offS, hci]
  · simp [sizeOf, typeInfo, hi1, hi2, offS, hci, add_off]
theorem opv_cap_bx {dd : Option Tmp} {k o n c : Nat} (hx : opV σ x = some (.v (.slice (some ⟨k, o, none⟩) n c))) (h0 : look T.ty t = some (.slice e)) : OpV P ⟨dd, .call { callee := .builtin .cap, args := #[x], argTypes := #[t] }, ty, pos, af, g⟩ σ (.v (.int .i64 c)) := by
  refine opv_same rfl fun F X a hs => ⟨_, ?_, .v _⟩
  have h1 := opV_val hs (by simp [Op.operands, Call.operands]) hx
  have hu := T.tyOk _ _ h0
  simp [execOp, resolve, invoke, builtin, Builtin.cap_, h1, run_underlying hu, goInt]
/-- clear of a slice over a box. -/
theorem eff_clear {k off n c : Nat} {cs : List AV} {zv : Value} (hx : opV σ x = some (.v (.slice (some ⟨k, off, none⟩) n c))) (hb : look σ.h k = some cs) (hmp : isMpB cs = false) (ht : look T.ty t = some (.slice e)) (hz : look T.zr e = some zv) (hl : off + n * zv.cells.size ≤ cs.length) (hone : ∀ v ∈ (Builtin.zeroCells zv.cells n).toList, v.oneCell' = true)
    {R : AS → Prop} (hR : R (σ.setc k (splice cs off ((Builtin.zeroCells zv.cells n).toList.map .v)))) : EffOp P ⟨none, .call { callee := .builtin .clear, args := #[x], argTypes := #[t] }, ty, pos, af, g⟩ σ R := by
  intro F X a hs
  have e1 := rel_v (opV_rel' hs hx)
  obtain ⟨i, hi1, hi2⟩ := T.zrOk _ _ hz
  obtain ⟨b1, b2, arr, el, fr, b3, b4, b5, b6⟩ := (hs.box k cs hb).cells hmp
  have hzs : (Builtin.zeroCells zv.cells n).size = n * zv.cells.size := by simp [Builtin.zeroCells]
  have hst := run_storeCells_cells (P := P) k off (Builtin.zeroCells zv.cells n).toList 0 X.w (fun j hj => by
    rw [Array.length_toList, hzs] at hj
    have : off + j < arr.size := by rw [b4]; omega
    simp [World.cell?, b3, this]) (fun j hj => b5 _) hone
  simp only [Nat.add_zero] at hst
  obtain ⟨s1, s2⟩ := SimE.setc (cs := cs) (us := (Builtin.zeroCells zv.cells n).toList.map .v) (vs := (Builtin.zeroCells zv.cells n).toList) hs hb (by rw [List.length_map, Array.length_toList, hzs]; exact hl) (by simp) (fun j u v hu hv => by
    rw [List.getElem?_map, hv] at hu; cases hu; exact .v _) (fun j sz' l v ho => by
    rw [List.getElem?_map] at ho
    cases hq : (Builtin.zeroCells zv.cells n).toList[j]? with
    | none => rw [hq] at ho; cases ho
    | some u0 => rw [hq] at ho; cases ho) (fun j j' p q ho => by
    rw [List.getElem?_map] at ho
    cases hq : (Builtin.zeroCells zv.cells n).toList[j]? with
    | none => rw [hq] at ho; cases ho
    | some u0 => rw [hq] at ho; cases ho) hmp
  have hrun : (Builtin.clear_ #[t] ty #[.slice (some ⟨k, off, none⟩) n c]).run P X.w = .ok (.tuple #[]) (X.w.setCells k off (Builtin.zeroCells zv.cells n).toList) := by
    cases n with
    | zero =>
      have : (Builtin.zeroCells zv.cells 0).toList = [] := by simp [Builtin.zeroCells]
      rw [this]
      simp [Builtin.clear_, run_underlying (T.tyOk _ _ ht), World.setCells]
    | succ m =>
      simp [Builtin.clear_, run_underlying (T.tyOk _ _ ht), zeroValue, typeInfo, hi1, hi2, hst]
  refine runs_value (x := .tuple #[]) (w' := X.w.setCells k off (Builtin.zeroCells zv.cells n).toList) (by simp [execOp, resolve, invoke, builtin, e1, hrun]) ⟨_, _, rfl, hR, ?_, s2⟩
  exact s1
theorem run_append_zeros {w : World} {i : TypeInfo} {zv : Value} {sLen sCap n : Nat} {a : Option Addr} {olds : List Value} {kn kk : IntKind} {tn : TypeId} (ht : P.underlying t = some (.slice e)) (htn : P.underlying tn = some (.int kn)) (hi : P.info? e = some i) (hz : i.zero = some zv) (h0 : 0 < n) (hs : 0 < i.size)
    (hold : ∀ w', w'.heap = w.heap → (Builtin.firstCells i.size sLen (.slice a sLen sCap)).run P w' = .ok olds.toArray w') (hg : sCap < sLen + n) (hfit : (sLen + n) * i.bytes ≤ 140737488355328) (hb : 1 ≤ i.bytes) :
    (Builtin.append_ #[t, tn] ty #[.slice a sLen sCap, .int kk n]).run P w = .ok (.slice (some ⟨w.heap.size, 0, none⟩) (sLen + n) (grownCap w (sLen + n) sCap e))
      (w.drew.alloc (.cells (olds.toArray ++ Builtin.zeroCells zv.cells n ++ Builtin.zeroCells zv.cells (grownCap w (sLen + n) sCap e - (sLen + n))) e)) := by
  have hol := hold w.drew rfl
  have hn : ¬ (sLen + n ≤ sCap) := by omega
  have hle : (sLen + n) * 1 ≤ (sLen + n) * i.bytes := Nat.mul_le_mul_left _ hb
  have hle2 : n * i.bytes ≤ (sLen + n) * i.bytes := Nat.mul_le_mul_right _ (by omega)
  have h63 : ¬ (9223372036854775807 < ((sLen : Int) + (n : Int))) := by omega
  have h48 := growslice_fits hg hfit
  have h48' : ¬ (281474976710656 < Builtin.nextslicecap (sLen + n) sCap * i.bytes) := by omega
  have hw : IntKind.i64.wrap (n : Int) = n := by rw [IntKind.wrap_i64]; omega
  have h48i : ¬ (281474976710656 < (n : Int) * (i.bytes : Int)) := by rw [← Int.natCast_mul]; omega
  have hneg : ¬ ((n : Int) < 0) := by omega
  have hns : ¬ (n * i.size = 0) := Nat.mul_ne_zero (by omega) (by omega)
  simp [Builtin.append_, run_underlying ht, run_underlying htn, sizeOf, typeInfo, zeroValue, hi, hz, asInt, asIntOf, hw, hn, hneg, hns, h63, h48', h48i, Question.forced, hol, newRow, grownCap]
/-- append(s, make(S, n)...) that has no room: a new box. -/
theorem eff_append_zeros {d k n c by_ sz N : Nat} {cs : List AV} {zv : Value} {tn : TypeId} {kn kk : IntKind} (hx : opV σ x = some (.v (.slice (some ⟨k, 0, none⟩) n c))) (hb : look σ.h k = some cs) (hmp : isMpB cs = false) (hy : opV σ y = some (.v (.int kk (N : Nat)))) (ht : look T.ty t = some (.slice e)) (htn : look T.ty tn = some (.int kn)) (hz : look T.sz e = some (sz, by_)) (hzr : look T.zr e = some zv) (hb1 : 1 ≤ by_) (hN : 0 < N) (hsz : 0 < sz)
    (hroom : c < n + N) (hl : n * sz ≤ cs.length) (ho : ∀ u ∈ cs.take (n * sz), u.one = true) (hfit : (n + N) * by_ ≤ 140737488355328) (hpc : Plain1 (cs.take (n * sz))) (hd : Nat.ble (d + 1) σ.n = true)
    {R : AS → Prop} (hR : ∀ k' cap sp, FreshK k' σ.h → (n + N ≤ cap ∧ (cs.take (n * sz) ++ (Builtin.zeroCells zv.cells N).toList.map AV.v ++ sp).length = cap * sz ∧ Plain1 sp) → R ((σ.box k' (cs.take (n * sz) ++ (Builtin.zeroCells zv.cells N).toList.map AV.v ++ sp)).put d (.v (.slice (some ⟨k', 0, none⟩) (n + N) cap)))) : EffOp P ⟨some d, .call { callee := .builtin .append, args := #[x, y], argTypes := #[t, tn] }, ty, pos, af, g⟩ σ R := by
  have hplz : Plain1 ((Builtin.zeroCells zv.cells N).toList.map AV.v) := fun v hv => by obtain ⟨z, _, rfl⟩ := List.mem_map.1 hv; rfl
  refine eff_newboxD (Fact := fun cap sp => n + N ≤ cap ∧ (cs.take (n * sz) ++ (Builtin.zeroCells zv.cells N).toList.map AV.v ++ sp).length = cap * sz ∧ Plain1 sp) rfl hd (fun cap sp h v hv => ?_) (fun F X a hs => ?_) hR
  · rcases List.mem_append.1 hv with hv | hv
    · rcases List.mem_append.1 hv with hv | hv
      · exact hpc v hv
      · exact hplz v hv
    · exact h.2.2 v hv
  · have e1 := rel_v (opV_rel' hs hx)
    have e2 := rel_v (opV_rel' hs hy)
    obtain ⟨i, hi1, hi2, hi3, zv', hi4, hi5⟩ := T.szOk _ _ _ hz
    obtain ⟨i', hj1, hj2⟩ := T.zrOk _ _ hzr
    rw [hi1] at hj1; cases hj1
    rw [hi4] at hj2; cases hj2
    obtain ⟨os, hos⟩ := srcA_box (P := P) (sz := sz) (off := 0) (n := n) (c := c) (q := n) hs hb hmp (by omega) (by rw [List.drop_zero]; exact ho)
    rw [List.drop_zero] at hos
    have hcge := grownCap_ge X.w (n + N) c e
    have hzs : ∀ m, (Builtin.zeroCells zv.cells m).size = m * sz := fun m => by simp [Builtin.zeroCells, hi5]
    have hrun := run_append_zeros (P := P) (ty := ty) (sLen := n) (sCap := c) (a := some ⟨k, 0, none⟩) (n := N) (olds := os) (w := X.w) (kk := kk) (T.tyOk _ _ ht) (T.tyOk _ _ htn) hi1 hi4 hN (by rw [hi2]; exact hsz) (fun w' hw => by rw [hi2]; exact hos.first w' hw) hroom (by rw [hi3]; exact hfit) (by rw [hi3]; exact hb1)
    refine ⟨_, e, grownCap X.w (n + N) c e, (Builtin.zeroCells zv.cells (grownCap X.w (n + N) c e - (n + N))).toList.map AV.v, ⟨hcge, ?_, fun v hv => ?_⟩, run_builtin_append e1 e2 hrun, ?_, fun j u0 v hu0 hv0 => ?_⟩
    · rw [List.length_append, List.length_append, hos.lu, List.length_map, Array.length_toList, List.length_map, Array.length_toList, hzs, hzs, ← Nat.add_mul, ← Nat.add_mul]; congr 1; omega
    · obtain ⟨z, _, rfl⟩ := List.mem_map.1 hv; rfl
    · simp only [Array.size_append, List.size_toArray, List.length_append, hos.lu, hos.lv, List.length_map, Array.length_toList]
    · have hl0 : (os.toArray ++ Builtin.zeroCells zv.cells N ++ Builtin.zeroCells zv.cells (grownCap X.w (n + N) c e - (n + N)))[j]? = (os ++ (Builtin.zeroCells zv.cells N).toList ++ (Builtin.zeroCells zv.cells (grownCap X.w (n + N) c e - (n + N))).toList)[j]? := by
        rw [← Array.getElem?_toList]; simp
      rw [hl0] at hv0
      have vv : ∀ (l : List Value) (i : Nat) (u : AV) (v : Value), (l.map AV.v)[i]? = some u → l[i]? = some v → Rel X u v := fun l i u v hu hv => by
        rw [List.getElem?_map, hv] at hu
        cases hu
        exact .v _
      exact rel_app (by rw [List.length_append, List.length_append, hos.lu, hos.lv, List.length_map]) (rel_app (by rw [hos.lu, hos.lv]) hos.rel (vv _)) (vv _) j u0 v hu0 hv0
end
end Go.Proofs.YtgmlkhfjhogdbaaGreat

/- slices.Delete of labels, over a box. -/
namespace Go.Proofs.YtgmlkhfjhogdbaaGreat
open Go.RowKit P
set_option linter.unusedSimpArgs false
set_option linter.unusedVariables false
section
variable {P : Program} {L : List Oper} {mN : Nat → Bool} {K : AS → Prop} {k d : Nat} {o : Oper} {rest : List Oper} {σ : AS} {u : AV}
end
theorem isMpB_even {cs : List AV} {c : Nat} (h : cs.length = c * 2) : isMpB cs = false := by
  cases hb : isMpB cs with
  | false => rfl
  | true => obtain ⟨l, rfl⟩ := isMpB_true hb; simp at h; omega
theorem zc_len (n : Nat) : (Builtin.zeroCells (Value.agg #[.string ⟨#[]⟩, .string ⟨#[]⟩]).cells n).size = n * 2 := by simp [Builtin.zeroCells, Value.cells]
theorem zc_mem {n : Nat} {v : Value} (h : v ∈ (Builtin.zeroCells (Value.agg #[.string ⟨#[]⟩, .string ⟨#[]⟩]).cells n).toList) : v = .string ⟨#[]⟩ := by
  obtain ⟨i, hi⟩ := List.getElem?_of_mem h
  rw [Array.getElem?_toList] at hi
  simp only [Builtin.zeroCells, Value.cells, Array.getElem?_map, Option.map_eq_some_iff] at hi
  obtain ⟨q, h1, rfl⟩ := hi
  have h2 : q % 2 = 0 ∨ q % 2 = 1 := by omega
  rcases h2 with h2 | h2 <;> simp [h2]
theorem stk_o_ret {P : Program} {Q : Exit → AS → Prop} {l : List Oper} {k : Nat} {r : List Oper} {ks : List It} {σ : AS} (h : Stk P Q ks .ret σ) : Stk P Q (.o l k r :: ks) .ret σ := h
/-- Cells that may be copied. -/
def CellOk (u : AV) : Prop := u.one = true ∧ own1 (some u) = none
/-- What is left of the cells when the elements from i to j are taken out. -/
def delC (cs : List AV) (n i j : Nat) : List AV := splice (splice cs (i * 2) ((cs.drop (j * 2)).take ((n - j) * 2))) ((n - (j - i)) * 2) ((Builtin.zeroCells (Value.agg #[.string ⟨#[]⟩, .string ⟨#[]⟩]).cells (j - i)).toList.map AV.v)
attribute [local irreducible] AS.nf OpV ARun Stk QSem QSemA ACalls EffOp AppOk SrcOk Awp Aops NSem CSem
set_option maxHeartbeats 2000000
set_option maxRecDepth 100000 in
theorem delete_a (k n c i j : Nat) (cs : List AV) (hcs : cs.length = c * 2) (hnc : n ≤ c) (hij : i < j) (hj : j ≤ n) (hc : n ≤ 1000000) (hok : ∀ u ∈ cs.take (n * 2), CellOk u) :
    ACalls Tryz.prog 34 [.v (.slice (some ⟨k, 0, none⟩) n c), .v (.int .i64 (i : Nat)), .v (.int .i64 (j : Nat))] [(k, cs)] (fun out H => out = .ret (.v (.slice (some ⟨k, 0, none⟩) (n - (j - i)) c)) ∧ look H k = some (delC cs n i j)) := by
  have hmp := isMpB_even hcs
  refine acalls_enter _ 33 [.tmp 6] Tryz.func34 (by kernel_rfl) rfl rfl rfl rfl ?_
  dsimp only [slotsOf]
  repeat (first
    | ((first | apply ar_un); (next => (first | (simp only [go_sem, Nat.reduceBEq, Nat.reduceEqDiff, reduceIte, reduceCtorEq, String.reduceEq, Nat.reduceAdd, Int.reduceToNat]; exact rfl))))
    | ((first | apply ar_op' rfl rfl rfl rfl); (next => exact opv_eq (opv_slice3_bx (T := TT) (sz := 2) (i := i) (j := j) (m := n) rfl rfl rfl rfl rfl rfl (by omega) hj hnc) rfl))
    | (apply ar_op' rfl rfl rfl rfl; (next => (first
     | (refine evalE_ok (T := TT) rfl ?_; (first | exact trivial))
     | (apply opk ⟨_, .binOp .eql _ _ _ _, _, _, _, _⟩; first | (refine opv_cmp_f rfl rfl rfl ?_; (next => (first | (simp only [cmpP]; omega)))) | fail)
     | (apply opk ⟨_, .call { callee := .builtin .len, args := _, argTypes := _ }, _, _, _, _⟩; first | exact opv_len_nil (T := TT) rfl rfl rfl | fail)
     | fail)))
    | refine ar_seq ?_
    | (refine arE ?_; refine ar_endM [0, 1, 2, 6, 7, 16] rfl ?_)
    | refine ar_region ?_
    | refine ar_skip ?_
    | (refine arC (.cond _ _ _) ?_; first | (refine ar_cond_false rfl ?_ ?_; (next => (first | rfl))) | fail)
    | fail)
  refine ar_drawM (st := fun _ => false) (mN := fun i => [0, 1, 2, 3, 4, 5].contains i) (cs := [6, 7]) mixed (mixB_ok (by kernel_rfl)) rfl (fun k c hk => ?_) ?_
  · simp [look_nil] at hk
  refine n_op (d := 20) (u := .v (.slice (some ⟨k, 0, none⟩) n c)) rfl rfl rfl rfl (opv_move rfl rfl) ⟨rfl, .inl ⟨_, rfl⟩⟩ ?_
  refine n_op (d := 21) (u := .v (.int .i64 (i : Nat))) rfl rfl rfl rfl (opv_move rfl rfl) ⟨rfl, .inl ⟨_, rfl⟩⟩ ?_
  refine n_op (d := 22) (u := .v (.slice (some ⟨k, 0, none⟩) i c)) rfl rfl rfl rfl (opv_eq (opv_slice_bx (T := TT) (sz := 2) (i := 0) (j := i) rfl rfl rfl (by rfl) (by rfl) (by omega) (by omega)) (by simp [offS])) ⟨rfl, .inl ⟨_, rfl⟩⟩ ?_
  refine n_op (d := 23) (u := .v (.slice (some ⟨k, 0, none⟩) n c)) rfl rfl rfl rfl (opv_move rfl rfl) ⟨rfl, .inl ⟨_, rfl⟩⟩ ?_
  refine n_op (d := 24) (u := .v (.int .i64 (j : Nat))) rfl rfl rfl rfl (opv_move rfl rfl) ⟨rfl, .inl ⟨_, rfl⟩⟩ ?_
  refine n_op (d := 25) (u := .v (.slice (some ⟨k, offS 0 c j 2, none⟩) (n - j) (c - j))) rfl rfl rfl rfl (opv_slice_bx (T := TT) (sz := 2) (i := j) (j := n) rfl rfl rfl (by rfl) (by rfl) hj hnc) ⟨rfl, .inl ⟨_, rfl⟩⟩ ?_
  refine n_skip rfl (n_skip rfl (n_end ?_))
  have hoff : offS 0 c j 2 + (n - j) * 2 ≤ cs.length := by unfold offS; split <;> omega
  have hsrc : (cs.drop (offS 0 c j 2)).take ((n - j) * 2) = (cs.drop (j * 2)).take ((n - j) * 2) := by
    unfold offS; split
    · have : n - j = 0 := by omega
      rw [this]; simp
    · rw [Nat.zero_add]
  have hmem : ∀ u ∈ (cs.drop (j * 2)).take ((n - j) * 2), u ∈ cs.take (n * 2) := fun u hu => by
    obtain ⟨x, hx⟩ := List.getElem?_of_mem hu
    rw [List.getElem?_take] at hx
    split at hx
    · rw [List.getElem?_drop] at hx
      exact List.mem_of_getElem? (i := j * 2 + x) (by rw [List.getElem?_take, if_pos (by omega)]; exact hx)
    · cases hx
  refine c_op (eff_append_in (T := TT) (sz := 2) (N := n - j) (n := i) (us := (cs.drop (j * 2)).take ((n - j) * 2)) rfl (look_h _ _ _) hmp rfl rfl (.inr ⟨_, rfl⟩) rfl (fun F X a hs => ?_) (by omega) (by omega) (fun u hu => (hok u (hmem u hu)).2) rfl ?_)
  · have := srcA_box (P := Tryz.prog) (sz := 2) (off := offS 0 c j 2) (n := n - j) (c := c - j) (q := n - j) hs (look_h _ _ _) hmp hoff (by rw [hsrc]; exact fun u hu => (hok u (hmem u hu)).1)
    rw [hsrc] at this
    rw [rel_v (opV_rel' (x := .tmp 25) hs (u := .v (.slice (some ⟨k, offS 0 c j 2, none⟩) (n - j) (c - j))) rfl)]
    exact this
  refine c_val (d := 0) (u := .v (.slice (some ⟨k, 0, none⟩) (i + (n - j)) c)) rfl rfl (opv_assign rfl rfl) (c_end ?_)
  refine ar_nop (ar_le (σ' := ⟨33, [(0, .v (.slice (some ⟨k, 0, none⟩) (i + (n - j)) c)), (7, .v (.int .i64 (n : Nat)))], [(k, splice cs (i * 2) ((cs.drop (j * 2)).take ((n - j) * 2)))], []⟩) ⟨rfl, ?_, ?_, rfl⟩ ?_)
  · (repeat' (first | exact trivial | exact .refl _ | refine ⟨⟨_, rfl, ?_⟩, ?_⟩))
  · (repeat' (first | exact trivial | exact LeL.refl _ | refine ⟨⟨_, look_hd, ?_⟩, ?_⟩))
  repeat (first | ((first | apply ar_op' rfl rfl rfl rfl); (next => exact opv_eq (opv_slice_bx (T := TT) (sz := 2) (i := i + (n - j)) (j := n) rfl rfl rfl (by rfl) (by rfl) (by omega) hnc) rfl)) | (apply ar_op' rfl rfl rfl rfl; (next => (first | (refine evalE_ok (T := TT) rfl ?_; (first | exact trivial)) | (apply opk ⟨_, .call { callee := .builtin .len, args := _, argTypes := _ }, _, _, _, _⟩; first | exact opv_len_nil (T := TT) rfl rfl rfl | fail) | fail))) | refine ar_seq ?_ | refine ar_region ?_ | fail)
  have hsp : (splice cs (i * 2) ((cs.drop (j * 2)).take ((n - j) * 2))).length = c * 2 := by
    rw [splice_len (by rw [List.length_take, List.length_drop]; omega), hcs]
  refine ar_eff rfl rfl (eff_clear (T := TT) (zv := .agg #[.string ⟨#[]⟩, .string ⟨#[]⟩]) rfl (look_h _ _ _) ?_ rfl rfl ?_ ?_ ?_)
  · exact isMpB_even hsp
  · rw [hsp]; unfold offS; split <;> simp [Value.cells] <;> omega
  · intro v hv
    rw [zc_mem hv]; rfl
  repeat (first | ((first | apply ar_un | apply stk_un); (next => (first | (simp only [go_sem, Nat.reduceBEq, Nat.reduceEqDiff, reduceIte, reduceCtorEq, String.reduceEq, Nat.reduceAdd, Int.reduceToNat]; exact rfl)))) | (apply ar_op' rfl rfl rfl rfl; (next => (first | (refine evalE_ok (T := TT) rfl ?_; (first | exact trivial)) | fail))) | refine ar_seq ?_ | (refine arE ?_; refine ar_endM [0, 1, 2, 6, 7, 16] rfl ?_) | refine ar_region ?_ | refine ar_dedup rfl ?_ | (refine arC .ret ?_; refine ar_retM [6] ?_) | fail)
  refine stk_o_ret (stk_nil ⟨_, rfl, ?_, ?_⟩)
  · rw [show i + (n - j) = n - (j - i) by omega]
  · rw [look_h]
    have e1 : offS 0 c (i + (n - j)) 2 = (n - (j - i)) * 2 := by unfold offS; split <;> omega
    have e2 : n - (i + (n - j)) = j - i := by omega
    simp only [delC, splice, e1, e2, Value.cells]
end Go.Proofs.YtgmlkhfjhogdbaaGreat

/- slices.overlaps of a row and a box: never. -/
namespace Go.Proofs.YtgmlkhfjhogdbaaGreat
open Go.RowKit P
set_option linter.unusedSimpArgs false
set_option linter.unusedVariables false
theorem run_overlaps_box {P : Program} (w : World) (tS tR e : TypeId) (ht : P.underlying tS = some (.slice e)) (size : Nat) (hz : ∀ w, (Go.sizeOf e).run P w = .ok size w)
    (a b : Addr) (la ca lb cb : Nat) (hne : a.block ≠ b.block) (tA tB : TypeId) (kA kB : Nat) (hsa : w.shape? a.block = some (tA, kA)) (hsb : w.shape? b.block = some (tB, kB)) (hkA : kA ≠ 0)
    (hfb : w.frozen? b = false) (hfe : w.frozen? { block := b.block, off := kB } = false) :
    (Extern.SlicesOverlaps.overlaps #[tS, tS] #[tR] #[.slice (some a) la ca, .slice (some b) lb cb]).run P w = .ok (.bool false) w := by
  have hnb : (a.block != b.block) = true := by simpa using hne
  have hnb' : (a.block == b.block) = false := by simpa using hne
  change Sem.run P (α := Value) (do
    let some t := (#[tS, tS] : Array TypeId)[0]? | stuck "slices.overlaps: no parameter types"
    let .slice elem ← underlying t | stuck "slices.overlaps: slice type expected"
    let size ← sizeOf elem
    match (some a : Option Addr), (some b : Option Addr) with
    | some a, some b =>
      if la = 0 ∨ lb = 0 ∨ size = 0 then pure (Value.bool false)
      else if a.block != b.block && (← frozen a) && (← frozen b) then unsupported .addressObserved
      else do
        if a.block != b.block then do
          noView a; noView b
          if ← mayBeOne a b then return Value.bool ((← choose (.extern "sameAddr.stringBytes" 2)) == 1)
        pure (Value.bool (a.block == b.block && a.off < b.off + lb * size && b.off < a.off + la * size))
    | _, _ => pure (Value.bool false)) w = _
  by_cases h0 : la = 0 ∨ lb = 0 ∨ size = 0
  · simp [run_underlying ht, hz, h0]
  · cases kA with
    | zero => exact absurd rfl hkA
    | succ kA =>
      cases h1 : w.frozen? a <;> cases h2 : w.frozen? { block := a.block, off := kA + 1 } <;>
      simp [run_underlying ht, hz, h0, hnb, hnb', frozen, noView, viewAt, mayBeOne, stringish, shape, Sem.run, hsa, hsb, hfb, hfe, h1, h2]
set_option maxRecDepth 100000 in
theorem opv_overlaps {σ : AS} {d : Option Nat} {ats : Array TypeId} {ty : TypeId} {pos : String} {af : Array Edge} {g : Option (Nat × Bool)} {x y : Operand} {o : Bool} {r : List AV} {L : List (List AV)} {k off n c : Nat} {cs : List AV} (hx : opV σ x = some (.sl o 2 (r :: L))) (hr : r.length = 2) (hy : opV σ y = some (.v (.slice (some ⟨k, off, none⟩) n c))) (hb : look σ.h k = some cs) (hm : isMpB cs = false) :
    OpV Tryz.prog ⟨d, .call { callee := .value (.func 46), args := #[x, y], argTypes := ats }, ty, pos, af, g⟩ σ (.v (.bool false)) := by
  refine opv_same rfl fun F X a hs => ⟨_, ?_, .v _⟩
  have e2 := opV_val hs (by simp [Op.operands, Call.operands]) hy
  have e1 := opV_rel hs (by simp [Op.operands, Call.operands]) hx
  obtain ⟨b1, b2, arr, el, fr, b3, b4, b5, b6⟩ := (hs.box k cs hb).cells hm
  rcases rel_sl e1 with ⟨_, h⟩ | ⟨b, o', cap, n', h1, h2, h3, h4, h5⟩
  · cases h
  · have hne : b ≠ k := fun e => by rw [e, b1] at h2; cases h2
    obtain ⟨cc, _, h6, _⟩ := h5
    have h7 := h6 0 0 r (r[0]'(by omega)) rfl (List.getElem?_eq_getElem (by omega))
    have h8 : ∃ arr2 el2 fr2, X.w.heap[b]? = some (Obj.cells arr2 el2 fr2) ∧ arr2.size ≠ 0 := by
      simp only [World.cell?] at h7
      split at h7
      · rename_i arr2 el2 fr2 hh
        refine ⟨arr2, el2, fr2, hh, fun e => ?_⟩
        simp only [Option.isSome_none, Bool.false_eq_true, if_false] at h7
        have := (Array.getElem?_eq_some_iff.1 h7).1
        omega
      · cases h7
    obtain ⟨arr2, el2, fr2, h9, h10⟩ := h8
    obtain ⟨it, i1, i2, _⟩ := TT.szOk 42 2 32 rfl
    have hrun : (callFunc 46 #[.slice (some ⟨b, o', none⟩) (L.length + 1) cap, .slice (some ⟨k, off, none⟩) n c]).run Tryz.prog X.w = .ok (.value (.bool false)) X.w := by
      rw [run_callFunc_extern Tryz.func46 (by kernel_rfl) (by kernel_rfl) (by kernel_rfl) (e := Extern.SlicesOverlaps.overlaps #[22, 22] #[4]) (by kernel_rfl)]
      rw [run_overlaps_box X.w 22 4 42 (TT.tyOk 22 (.slice 42) rfl) 2 (fun w => by simp [sizeOf, typeInfo, i1, i2]) ⟨b, o', none⟩ ⟨k, off, none⟩ (L.length + 1) cap n c hne el2 el arr2.size arr.size (by simp only [World.shape?, h9]) (by simp only [World.shape?, b3]) h10 (b5 _) (b5 _)]
      rfl
    simp only [List.length_cons] at h1
    rw [execOp_call_go]
    simp [e2, h1, hrun]
end Go.Proofs.YtgmlkhfjhogdbaaGreat

/- slices.Insert of one label, over a box. -/
namespace Go.Proofs.YtgmlkhfjhogdbaaGreat
open Go.RowKit P
set_option linter.unusedSimpArgs false
set_option linter.unusedVariables false
attribute [local irreducible] AS.nf OpV ARun Stk QSem QSemA ACalls EffOp AppOk SrcOk Awp Aops NSem CSem
/-- What an insertion answers: a box that holds the elements, the new one at i. -/
def InsPost (cs : List AV) (n i : Nat) (r : List AV) (out : AOut) (H : List (Nat × List AV)) : Prop :=
  ∃ k c' sp, out = .ret (.v (.slice (some ⟨k, 0, none⟩) (n + 1) c')) ∧ look H k = some (cs.take (i * 2) ++ r ++ (cs.drop (i * 2)).take ((n - i) * 2) ++ sp) ∧ (n + 1) * 2 + sp.length = c' * 2
theorem srcA_row {P : Program} {F : Nat → Prop} {X : GW} {σ : AS} {a : Act} (hs : SimE F X σ a.tmps) {x : Operand} {r : List AV} {o : Bool} (hx : opV σ x = some (.sl o 2 [r])) (h1 : ∀ u ∈ r, CellOk u) : ∃ vs, SrcA P X 2 1 1 r (a.eval x) vs := by
  have h := srcA_sl (P := P) (by decide) (opV_rel' hs hx) (fun q hq u hu => by
    simp only [List.mem_singleton] at hq; subst hq; exact (h1 u hu).1)
  simpa using h
set_option maxHeartbeats 2000000
set_option maxRecDepth 100000 in
theorem insert_end (k n c : Nat) (cs r : List AV) (hcs : cs.length = c * 2) (hnc : n ≤ c) (hc : n ≤ 1000000) (hok : ∀ u ∈ cs.take (n * 2), CellOk u) (hr : r.length = 2) (hrok : ∀ u ∈ r, CellOk u) :
    ACalls Tryz.prog 35 [.v (.slice (some ⟨k, 0, none⟩) n c), .v (.int .i64 (n : Nat)), .sl false 2 [r]] [(k, cs)] (InsPost cs n n r) := by
  have hmp := isMpB_even hcs
  refine acalls_enter _ 95 [.tmp 6] Tryz.func35 (by kernel_rfl) rfl rfl rfl rfl ?_
  dsimp only [slotsOf]
  repeat (first
    | ((first | apply ar_un); (next => (first | (simp only [go_sem, Nat.reduceBEq, Nat.reduceEqDiff, reduceIte, reduceCtorEq, String.reduceEq, Nat.reduceAdd, Int.reduceToNat]; exact rfl))))
    | ((first | apply ar_op' rfl rfl rfl rfl); (next => exact opv_slice_bx (T := TT) (sz := 2) (i := n) (j := n) rfl rfl rfl (by rfl) (by rfl) (by omega) hnc))
    | (apply ar_op' rfl rfl rfl rfl; (next => (first
     | (refine evalE_ok (T := TT) rfl ?_; (first | exact trivial))
     | (apply opk ⟨_, .binOp .eql _ _ _ _, _, _, _, _⟩; first
      | (refine opv_cmp_t rfl rfl rfl ?_; (next => (first | exact rfl)))
      | (refine opv_cmp_f rfl rfl rfl ?_; (next => (first | (simp only [cmpP]; omega))))
      | fail)
     | (apply opk ⟨_, .call { callee := .builtin .len, args := _, argTypes := _ }, _, _, _, _⟩; first
      | exact opv_len_sl (T := TT) rfl rfl rfl
      | exact opv_len_nil (T := TT) rfl rfl rfl
      | fail)
     | fail)))
    | (refine arO _ ?_; first | (refine arO ⟨_, .move _, _, _, _, _⟩ ?_; first | refine ar_move_sl rfl rfl rfl rfl ?_ | fail) | fail)
    | refine ar_seq ?_
    | (refine arE ?_; refine ar_endM [0, 1, 2, 6, 7, 8, 9, 16, 22, 31, 68] rfl ?_)
    | refine ar_region ?_
    | refine ar_skip ?_
    | (refine arC (.cond _ _ _) ?_; first | (refine ar_cond_true rfl ?_ ?_; (next => (first | rfl))) | (refine ar_cond_false rfl ?_ ?_; (next => (first | rfl))) | fail)
    | fail)
  by_cases hroom : n + 1 ≤ c
  · refine ar_eff rfl rfl (eff_append_in (T := TT) (sz := 2) (N := 1) (us := r) rfl (look_h _ _ _) hmp rfl rfl (.inr ⟨_, rfl⟩) rfl (fun F X a hs => srcA_row hs rfl hrok) hroom (by omega) (fun u hu => (hrok u hu).2) rfl ?_)
    repeat (first | ((first | apply ar_un | apply stk_un); (next => (first | (simp only [go_sem, Nat.reduceBEq, Nat.reduceEqDiff, reduceIte, reduceCtorEq, String.reduceEq, Nat.reduceAdd, Int.reduceToNat]; exact rfl)))) | (apply ar_op' rfl rfl rfl rfl; (next => (first | (refine evalE_ok (T := TT) rfl ?_; (first | exact trivial)) | fail))) | (refine arE ?_; refine ar_endM [0, 1, 2, 6, 7, 8, 9, 16, 22, 31, 68] rfl ?_) | refine ar_dedup rfl ?_ | (refine arC .ret ?_; refine ar_retM [6] ?_) | refine stk_c_ret ?_ | refine stk_nil ?_ | fail)
    refine ⟨_, rfl, k, c, (cs.drop ((n + 1) * 2)), rfl, ?_, ?_⟩
    · rw [look_h]
      simp [splice, hr, Nat.add_mul]
    · rw [List.length_drop]; omega
  · refine ar_eff rfl rfl (eff_append_new (T := TT) (sz := 2) (by_ := 32) (N := 1) (us := r) rfl (look_h _ _ _) hmp rfl rfl (.inr ⟨_, rfl⟩) rfl (by decide) (fun F X a hs => srcA_row hs rfl hrok) (by omega) (by omega) (fun u hu => (hok u hu).1) (by omega) (fun u hu => (hrok u hu).2) (fun u hu => (hok u hu).2) rfl ?_)
    rintro k' cap sp hk' ⟨h1, h2, h3⟩
    repeat (first | ((first | apply ar_un | apply stk_un); (next => (first | (simp only [go_sem, Nat.reduceBEq, Nat.reduceEqDiff, reduceIte, reduceCtorEq, String.reduceEq, Nat.reduceAdd, Int.reduceToNat]; exact rfl)))) | (apply ar_op' rfl rfl rfl rfl; (next => (first | (refine evalE_ok (T := TT) rfl ?_; (first | exact trivial)) | fail))) | (refine arE ?_; refine ar_endM [0, 1, 2, 6, 7, 8, 9, 16, 22, 31, 68] rfl ?_) | (refine arC .ret ?_; refine ar_retM [6] ?_) | refine stk_c_ret ?_ | refine stk_nil ?_ | fail)
    refine ⟨_, rfl, k', cap, sp, rfl, ?_, ?_⟩
    · rw [look_h]; simp
    · rw [List.length_append, List.length_append, List.length_take] at h2
      omega
theorem splice_mid {A M S U : List AV} {o : Nat} (ho : A.length = o) (hM : M.length = U.length) : splice (A ++ M ++ S) o U = A ++ U ++ S := by
  subst ho
  simp [splice, hM.symm, List.append_assoc]
theorem take_cells {cs : List AV} {n i : Nat} (hi : i ≤ n) : ∀ u ∈ (cs.drop (i * 2)).take ((n - i) * 2), u ∈ cs.take (n * 2) := fun u hu => by
  obtain ⟨x, hx⟩ := List.getElem?_of_mem hu
  rw [List.getElem?_take] at hx
  split at hx
  · rw [List.getElem?_drop] at hx
    exact List.mem_of_getElem? (i := i * 2 + x) (by rw [List.getElem?_take, if_pos (by omega)]; exact hx)
  · cases hx
theorem ins_list {cs B r : List AV} {i n : Nat} (hi : i ≤ n) (hl : (n + 1) * 2 ≤ cs.length) (hB : B.length = (n - i) * 2) (hr : r.length = 2) : List.take (i * 2) (List.take ((i + 1) * 2) cs ++ B ++ List.drop ((i + 1) * 2 + B.length) cs) ++ r ++ List.drop (i * 2 + r.length) (List.take ((i + 1) * 2) cs ++ B ++ List.drop ((i + 1) * 2 + B.length) cs) = List.take (i * 2) cs ++ r ++ B ++ List.drop ((n + 1) * 2) cs := by
  have h1 : (List.take ((i + 1) * 2) cs).length = (i + 1) * 2 := by rw [List.length_take]; omega
  rw [List.append_assoc (List.take _ cs) B, List.take_append_of_le_length (by omega), List.take_take, hr, show i * 2 + 2 = (List.take ((i + 1) * 2) cs).length by omega, List.drop_left, hB, show min (i * 2) ((i + 1) * 2) = i * 2 by omega, show (i + 1) * 2 + (n - i) * 2 = (n + 1) * 2 by omega]
  simp
theorem splice_two {A Z sp r B : List AV} {i n : Nat} (hA : A.length = i * 2) (hi : i ≤ n) (hZ : Z.length = (n + 1 - i) * 2) (hB : B.length = (n - i) * 2) (hr : r.length = 2) : splice (splice (A ++ Z ++ sp) (i * 2) r) ((i + 1) * 2) B = A ++ r ++ B ++ sp := by
  have h1 : Z = Z.take 2 ++ Z.drop 2 := (List.take_append_drop 2 Z).symm
  have h2 : (Z.take 2).length = 2 := by rw [List.length_take]; omega
  have h3 : (Z.drop 2).length = (n - i) * 2 := by rw [List.length_drop]; omega
  rw [h1, ← List.append_assoc A, List.append_assoc (A ++ _), splice_mid hA (by omega), show A ++ r ++ (Z.drop 2 ++ sp) = (A ++ r) ++ Z.drop 2 ++ sp by simp, splice_mid (by rw [List.length_append]; omega) (by omega)]
theorem take_le {cs : List AV} {n i : Nat} (hi : i ≤ n) : ∀ u ∈ cs.take (i * 2), u ∈ cs.take (n * 2) := fun u hu => by
  obtain ⟨x, hx⟩ := List.getElem?_of_mem hu
  rw [List.getElem?_take] at hx
  split at hx
  · exact List.mem_of_getElem? (i := x) (by rw [List.getElem?_take, if_pos (by omega)]; exact hx)
  · cases hx
theorem opv_slice0_bx {P : Program} {T : Tys P} {σ : AS} {t ty e : TypeId} {x : Operand} {pos : String} {af : Array Edge} {g : Option (Nat × Bool)} {dd : Option Tmp} {lo : Option Operand} {hi : Option Operand} {k n c j sz by_ : Nat} (hx : opV σ x = some (.v (.slice (some ⟨k, 0, none⟩) n c))) (ht : look T.ty t = some (.slice e)) (hz : look T.sz e = some (sz, by_)) (hl : lo = none) (hh : optIs σ hi .i64 (j : Int) (n : Int)) (h2 : j ≤ c) :
    OpV P ⟨dd, .slice t x lo hi none, ty, pos, af, g⟩ σ (.v (.slice (some ⟨k, 0, none⟩) j c)) := by
  subst hl
  exact opv_eq (opv_slice_bx (i := 0) (j := j) hx ht hz (by rfl) hh (by omega) h2) (by simp [offS])
set_option maxHeartbeats 2000000
set_option maxRecDepth 100000 in
theorem insert_new (k n c i : Nat) (cs r : List AV) (hcs : cs.length = c * 2) (hnc : n ≤ c) (hi : i < n) (hroom : c < n + 1) (hc : n ≤ 1000000) (hok : ∀ u ∈ cs.take (n * 2), CellOk u) (hr : r.length = 2) (hrok : ∀ u ∈ r, CellOk u) :
    ACalls Tryz.prog 35 [.v (.slice (some ⟨k, 0, none⟩) n c), .v (.int .i64 (i : Nat)), .sl false 2 [r]] [(k, cs)] (InsPost cs n i r) := by
  have hmp := isMpB_even hcs
  refine acalls_enter _ 95 [.tmp 6] Tryz.func35 (by kernel_rfl) rfl rfl rfl rfl ?_
  dsimp only [slotsOf]
  repeat (first
    | ((first | apply ar_un); (next => (first | (simp only [go_sem, Nat.reduceBEq, Nat.reduceEqDiff, reduceIte, reduceCtorEq, String.reduceEq, Nat.reduceAdd, Int.reduceToNat]; exact rfl))))
    | ((first | apply ar_op' rfl rfl rfl rfl); (next => (first
     | exact opv_slice0_bx (T := TT) (sz := 2) (j := i) rfl rfl rfl rfl (by rfl) (by omega)
     | exact opv_slice_bx (T := TT) (sz := 2) (i := i) (j := n) rfl rfl rfl (by rfl) (by rfl) (by omega) (by omega)
     | exact opv_cap_bx (T := TT) rfl rfl
     | fail)))
    | (apply ar_op' rfl rfl rfl rfl; (next => (first
     | (refine evalE_ok (T := TT) rfl ?_; (first | exact trivial | omega))
     | (apply opk ⟨_, .binOp .eql _ _ _ _, _, _, _, _⟩; first | (refine opv_cmp_f rfl rfl rfl ?_; (next => (first | (simp only [cmpP]; omega)))) | fail)
     | (apply opk ⟨_, .binOp .gtr _ _ _ _, _, _, _, _⟩; first | (refine opv_cmp_t rfl rfl rfl ?_; (next => (first | (simp only [cmpP]; omega)))) | fail)
     | (apply opk ⟨_, .call { callee := .builtin .len, args := _, argTypes := _ }, _, _, _, _⟩; first
      | exact opv_len_sl (T := TT) rfl rfl rfl
      | exact opv_len_nil (T := TT) rfl rfl rfl
      | fail)
     | fail)))
    | (refine arO _ ?_; first | (refine arO ⟨_, .move _, _, _, _, _⟩ ?_; first | refine ar_move_sl rfl rfl rfl rfl ?_ | fail) | fail)
    | refine ar_seq ?_
    | (refine arE ?_; refine ar_endM [0, 1, 2, 6, 7, 8, 9, 16, 22, 31, 68] rfl ?_)
    | refine ar_region ?_
    | refine ar_skip ?_
    | (refine arC (.cond _ _ _) ?_; first | (refine ar_cond_true rfl ?_ ?_; (next => (first | rfl))) | (refine ar_cond_false rfl ?_ ?_; (next => (first | rfl))) | fail)
    | fail)
  rw [(by omega : ((n : Int) + ((1 : Nat) : Int) - (i : Int)) = ((n + 1 - i : Nat) : Int))]
  refine ar_eff rfl rfl (eff_append_zeros (T := TT) (e := 42) (sz := 2) (by_ := 32) (n := i) (c := c) (N := n + 1 - i) (zv := .agg #[.string ⟨#[]⟩, .string ⟨#[]⟩]) rfl (look_h _ _ _) hmp rfl rfl rfl rfl rfl (by decide) (by omega) (by decide) (by omega) (by omega) (fun u hu => (hok u (take_le (by omega) u hu)).1) (by omega) (fun u hu => (hok u (take_le (by omega) u hu)).2) rfl ?_)
  rintro k' cap sp hk' ⟨h1, h2, h3⟩
  repeat (first
    | ((first | apply ar_un); (next => (first | (simp only [go_sem, Nat.reduceBEq, Nat.reduceEqDiff, reduceIte, reduceCtorEq, String.reduceEq, Nat.reduceAdd, Int.reduceToNat]; exact rfl))))
    | ((first | apply ar_op' rfl rfl rfl rfl); (next => (first | exact opv_slice_bx (T := TT) (sz := 2) (i := i) (j := (i + (n + 1 - i))) rfl rfl rfl (by rfl) (by rfl) (by omega) (by omega) | fail)))
    | (apply ar_op' rfl rfl rfl rfl; (next => (first | (refine evalE_ok (T := TT) rfl ?_; (first | exact trivial)) | fail)))
    | (refine arO _ ?_; first | (refine arO ⟨_, .move _, _, _, _, _⟩ ?_; first | refine ar_move_sl rfl rfl rfl rfl ?_ | fail) | fail)
    | refine ar_seq ?_
    | (refine arE ?_; refine ar_endM [0, 1, 2, 6, 7, 8, 9, 16, 22, 31, 68] rfl ?_)
    | refine ar_region ?_
    | fail)
  have e1 : offS 0 cap i 2 = i * 2 := by unfold offS; rw [if_neg (by omega)]; omega
  refine ar_eff rfl rfl (eff_copyN (T := TT) (sz := 2) (by_ := 32) (N := 1) (q := 1) (us := r) rfl (look_h _ _ _) (isMpB_even h2) rfl rfl (fun F X a hs => srcA_row hs rfl hrok) (by simp only [Nat.min_def]; split <;> omega) (by rw [e1]; refine Nat.le_trans ?_ (Nat.le_of_eq h2.symm); omega) (fun u hu => (hrok u hu).2) rfl ?_)
  repeat (first | ((first | apply ar_un); (next => (first | (simp only [go_sem, Nat.reduceBEq, Nat.reduceEqDiff, reduceIte, reduceCtorEq, String.reduceEq, Nat.reduceAdd, Int.reduceToNat]; exact rfl)))) | refine ar_seq ?_ | (refine arE ?_; refine ar_endM [0, 1, 2, 6, 7, 8, 9, 16, 22, 31, 68] rfl ?_) | refine ar_dedup rfl ?_ | fail)
  have hne : k ≠ k' := hk' (k, cs) (List.mem_singleton.2 rfl)
  have hZ : ((Builtin.zeroCells (Value.agg #[.string ⟨#[]⟩, .string ⟨#[]⟩]).cells (n + 1 - i)).toList.map AV.v).length = (n + 1 - i) * 2 := by rw [List.length_map, Array.length_toList, zc_len]
  have hA : (cs.take (i * 2)).length = i * 2 := by rw [List.length_take]; omega
  have hBl : ((cs.drop (i * 2)).take ((n - i) * 2)).length = (n - i) * 2 := by rw [List.length_take, List.length_drop]; omega
  have hX : (splice (cs.take (i * 2) ++ (Builtin.zeroCells (Value.agg #[.string ⟨#[]⟩, .string ⟨#[]⟩]).cells (n + 1 - i)).toList.map AV.v ++ sp) (i * 2) r).length = cap * 2 := by
    rw [splice_len (by refine Nat.le_trans ?_ (Nat.le_of_eq h2.symm); omega)]; exact h2
  refine ar_le (σ' := ⟨95, [(0, .v (.slice (some ⟨k, 0, none⟩) n c)), (1, .v (.int .i64 (i : Nat))), (7, .v (.int .i64 ((1 : Nat) : Int))), (9, .v (.slice (some ⟨k', 0, none⟩) (i + (n + 1 - i)) cap))], [(k', splice (cs.take (i * 2) ++ (Builtin.zeroCells (Value.agg #[.string ⟨#[]⟩, .string ⟨#[]⟩]).cells (n + 1 - i)).toList.map AV.v ++ sp) (i * 2) r), (k, cs)], []⟩) ⟨rfl, ?_, ?_, rfl⟩ ?_
  · (repeat' (first | exact trivial | exact .refl _ | refine ⟨⟨_, rfl, ?_⟩, ?_⟩))
  · rw [← e1]; (repeat' (first | exact trivial | exact LeL.refl _ | refine ⟨⟨_, look_hd, ?_⟩, ?_⟩ | refine ⟨⟨_, look_tl (by first | assumption) look_hd, ?_⟩, ?_⟩))
  refine ar_drawM (st := fun _ => false) (mN := fun i => Nat.ble i 7) (cs := [8]) mixed (mixB_ok (by kernel_rfl)) rfl (fun k c hk => ?_) ?_
  · simp [look_nil] at hk
  refine n_op (d := 46) (u := .v (.slice (some ⟨k', 0, none⟩) (i + (n + 1 - i)) cap)) rfl rfl rfl rfl (opv_move rfl rfl) ⟨rfl, .inl ⟨_, rfl⟩⟩ ?_
  refine n_op (d := 47) (u := .v (.int .i64 (i : Nat))) rfl rfl rfl rfl (opv_move rfl rfl) ⟨rfl, .inl ⟨_, rfl⟩⟩ ?_
  refine n_op (d := 48) (u := .v (.int .i64 ((1 : Nat) : Int))) rfl rfl rfl rfl (opv_move rfl rfl) ⟨rfl, .inl ⟨_, rfl⟩⟩ ?_
  refine n_op (d := 49) (u := .v (.int .i64 ((i : Int) + ((1 : Nat) : Int)))) rfl rfl rfl rfl (opv_add64 rfl rfl rfl (by omega)) ⟨rfl, .inl ⟨_, rfl⟩⟩ ?_
  refine n_op (d := 50) (u := .v (.slice (some ⟨k', offS 0 cap (i + 1) 2, none⟩) (i + (n + 1 - i) - (i + 1)) (cap - (i + 1)))) rfl rfl rfl rfl (opv_slice_bx (T := TT) (sz := 2) (i := i + 1) (j := i + (n + 1 - i)) rfl rfl rfl (by rfl) (by rfl) (by omega) (by omega)) ⟨rfl, .inl ⟨_, rfl⟩⟩ ?_
  refine n_op (d := 51) (u := .v (.slice (some ⟨k, 0, none⟩) n c)) rfl rfl rfl rfl (opv_move rfl rfl) ⟨rfl, .inl ⟨_, rfl⟩⟩ ?_
  refine n_op (d := 52) (u := .v (.int .i64 (i : Nat))) rfl rfl rfl rfl (opv_move rfl rfl) ⟨rfl, .inl ⟨_, rfl⟩⟩ ?_
  refine n_op (d := 53) (u := .v (.slice (some ⟨k, offS 0 c i 2, none⟩) (n - i) (c - i))) rfl rfl rfl rfl (opv_slice_bx (T := TT) (sz := 2) (i := i) (j := n) rfl rfl rfl (by rfl) (by rfl) (by omega) (by omega)) ⟨rfl, .inl ⟨_, rfl⟩⟩ ?_
  refine n_skip rfl (n_end ?_)
  have e3 : offS 0 cap (i + 1) 2 = (i + 1) * 2 := by unfold offS; rw [if_neg (by omega)]; omega
  have e2 : offS 0 c i 2 = i * 2 := by unfold offS; rw [if_neg (by omega)]; omega
  refine c_op (eff_copyN (T := TT) (sz := 2) (by_ := 32) (N := n - i) (q := n - i) (us := (cs.drop (i * 2)).take ((n - i) * 2)) rfl (look_h _ _ _) (isMpB_even hX) rfl rfl (fun F X a hs => ?_) (by simp only [Nat.min_def]; split <;> omega) (by rw [e3]; refine Nat.le_trans ?_ (Nat.le_of_eq hX.symm); omega) (fun u hu => (hok u (take_cells (by omega) u hu)).2) rfl ?_)
  · have h := srcA_box (P := Tryz.prog) (sz := 2) (off := i * 2) (n := n - i) (c := c - i) (q := n - i) hs (look_tl hne (look_h _ _ _)) hmp (by omega) (fun u hu => (hok u (take_cells (by omega) u hu)).1)
    rw [rel_v (opV_rel' (x := .tmp 53) hs (u := .v (.slice (some ⟨k, offS 0 c i 2, none⟩) (n - i) (c - i))) rfl), e2]
    exact h
  refine c_end ?_
  rw [e3]
  rw [splice_two hA (by omega) hZ hBl hr]
  refine ar_nop (ar_le (σ' := ⟨95, [(9, .v (.slice (some ⟨k', 0, none⟩) (i + (n + 1 - i)) cap))], [(k', cs.take (i * 2) ++ r ++ (cs.drop (i * 2)).take ((n - i) * 2) ++ sp)], []⟩) ⟨rfl, ?_, ?_, rfl⟩ ?_)
  · (repeat' (first | exact trivial | exact .refl _ | refine ⟨⟨_, rfl, ?_⟩, ?_⟩))
  · (repeat' (first | exact trivial | exact LeL.refl _ | refine ⟨⟨_, look_hd, ?_⟩, ?_⟩))
  repeat (first | ((first | apply ar_un | apply stk_un); (next => (first | (simp only [go_sem, Nat.reduceBEq, Nat.reduceEqDiff, reduceIte, reduceCtorEq, String.reduceEq, Nat.reduceAdd, Int.reduceToNat]; exact rfl)))) | (apply ar_op' rfl rfl rfl rfl; (next => (first | (refine evalE_ok (T := TT) rfl ?_; (first | exact trivial)) | fail))) | refine ar_seq ?_ | (refine arE ?_; refine ar_endM [0, 1, 2, 6, 7, 8, 9, 16, 22, 31, 68] rfl ?_) | refine ar_region ?_ | (refine arC .ret ?_; refine ar_retM [6] ?_) | fail)
  (repeat (first | refine stk_o_ret ?_ | refine stk_c_ret ?_ | refine stk_b_ret ?_))
  refine stk_nil ⟨_, rfl, k', cap, sp, ?_, ?_, ?_⟩
  · rw [show i + (n + 1 - i) = n + 1 by omega]
  · rw [look_h]
  · rw [List.length_append, List.length_append, hA, hZ] at h2
    omega
set_option maxHeartbeats 2000000
set_option maxRecDepth 100000 in
theorem insert_in (k n c i : Nat) (cs r : List AV) (hcs : cs.length = c * 2) (hnc : n ≤ c) (hi : i < n) (hroom : n + 1 ≤ c) (hc : n ≤ 1000000) (hok : ∀ u ∈ cs.take (n * 2), CellOk u) (hr : r.length = 2) (hrok : ∀ u ∈ r, CellOk u) :
    ACalls Tryz.prog 35 [.v (.slice (some ⟨k, 0, none⟩) n c), .v (.int .i64 (i : Nat)), .sl false 2 [r]] [(k, cs)] (InsPost cs n i r) := by
  have hmp := isMpB_even hcs
  refine acalls_enter _ 95 [.tmp 6] Tryz.func35 (by kernel_rfl) rfl rfl rfl rfl ?_
  dsimp only [slotsOf]
  repeat (first
    | ((first | apply ar_un); (next => (first | (simp only [go_sem, Nat.reduceBEq, Nat.reduceEqDiff, reduceIte, reduceCtorEq, String.reduceEq, Nat.reduceAdd, Int.reduceToNat]; exact rfl))))
    | ((first | apply ar_op' rfl rfl rfl rfl); (next => (first
     | exact opv_overlaps rfl hr rfl (look_h _ _ _) hmp
     | exact opv_slice0_bx (T := TT) (sz := 2) (j := (n + 1)) rfl rfl rfl rfl (by rfl) (by omega)
     | exact opv_slice_bx (T := TT) (sz := 2) (i := i) (j := n) rfl rfl rfl (by rfl) (by rfl) (by omega) (by omega)
     | exact opv_slice_bx (T := TT) (sz := 2) (i := (i + 1)) (j := (n + 1)) rfl rfl rfl (by rfl) (by rfl) (by omega) (by omega)
     | exact opv_cap_bx (T := TT) rfl rfl
     | fail)))
    | (apply ar_op' rfl rfl rfl rfl; (next => (first
     | (refine evalE_ok (T := TT) rfl ?_; (first | exact trivial | omega))
     | (apply opk ⟨_, .binOp .eql _ _ _ _, _, _, _, _⟩; first | (refine opv_cmp_f rfl rfl rfl ?_; (next => (first | (simp only [cmpP]; omega)))) | fail)
     | (apply opk ⟨_, .binOp .gtr _ _ _ _, _, _, _, _⟩; first | (refine opv_cmp_f rfl rfl rfl ?_; (next => (first | (simp only [cmpP]; omega)))) | fail)
     | (apply opk ⟨_, .call { callee := .builtin .len, args := _, argTypes := _ }, _, _, _, _⟩; first
      | exact opv_len_sl (T := TT) rfl rfl rfl
      | exact opv_len_nil (T := TT) rfl rfl rfl
      | fail)
     | fail)))
    | (refine arO _ ?_; first | (refine arO ⟨_, .move _, _, _, _, _⟩ ?_; first | refine ar_move_sl rfl rfl rfl rfl ?_ | fail) | fail)
    | refine ar_seq ?_
    | (refine arE ?_; refine ar_endM [0, 1, 2, 6, 7, 8, 9, 16, 22, 31, 68] rfl ?_)
    | refine ar_region ?_
    | refine ar_skip ?_
    | (refine arC (.cond _ _ _) ?_; first | (refine ar_cond_true rfl ?_ ?_; (next => (first | rfl))) | (refine ar_cond_false rfl ?_ ?_; (next => (first | rfl))) | fail)
    | fail)
  refine ar_drawM (st := fun _ => false) (mN := fun i => Nat.ble i 7) (cs := [8]) mixed (mixB_ok (by kernel_rfl)) rfl (fun k c hk => ?_) ?_
  · simp [look_nil] at hk
  refine n_op (d := 69) (u := .v (.slice (some ⟨k, 0, none⟩) (n + 1) c)) rfl rfl rfl rfl (opv_move rfl rfl) ⟨rfl, .inl ⟨_, rfl⟩⟩ ?_
  refine n_op (d := 70) (u := .v (.int .i64 (i : Nat))) rfl rfl rfl rfl (opv_move rfl rfl) ⟨rfl, .inl ⟨_, rfl⟩⟩ ?_
  refine n_op (d := 71) (u := .v (.int .i64 ((1 : Nat) : Int))) rfl rfl rfl rfl (opv_move rfl rfl) ⟨rfl, .inl ⟨_, rfl⟩⟩ ?_
  refine n_op (d := 72) (u := .v (.int .i64 ((i : Int) + ((1 : Nat) : Int)))) rfl rfl rfl rfl (opv_add64 rfl rfl rfl (by omega)) ⟨rfl, .inl ⟨_, rfl⟩⟩ ?_
  refine n_op (d := 73) (u := .v (.slice (some ⟨k, offS 0 c (i + 1) 2, none⟩) (n + 1 - (i + 1)) (c - (i + 1)))) rfl rfl rfl rfl (opv_slice_bx (T := TT) (sz := 2) (i := i + 1) (j := n + 1) rfl rfl rfl (by rfl) (by rfl) (by omega) (by omega)) ⟨rfl, .inl ⟨_, rfl⟩⟩ ?_
  refine n_op (d := 74) (u := .v (.slice (some ⟨k, 0, none⟩) (n + 1) c)) rfl rfl rfl rfl (opv_move rfl rfl) ⟨rfl, .inl ⟨_, rfl⟩⟩ ?_
  refine n_op (d := 75) (u := .v (.int .i64 (i : Nat))) rfl rfl rfl rfl (opv_move rfl rfl) ⟨rfl, .inl ⟨_, rfl⟩⟩ ?_
  refine n_op (d := 76) (u := .v (.slice (some ⟨k, offS 0 c i 2, none⟩) (n + 1 - i) (c - i))) rfl rfl rfl rfl (opv_slice_bx (T := TT) (sz := 2) (i := i) (j := n + 1) rfl rfl rfl (by rfl) (by rfl) (by omega) (by omega)) ⟨rfl, .inl ⟨_, rfl⟩⟩ ?_
  refine n_skip rfl (n_end ?_)
  have e1 : offS 0 c (i + 1) 2 = (i + 1) * 2 := by unfold offS; rw [if_neg (by omega)]; omega
  have e2 : offS 0 c i 2 = i * 2 := by unfold offS; rw [if_neg (by omega)]; omega
  have hBl : ((cs.drop (i * 2)).take ((n - i) * 2)).length = (n - i) * 2 := by rw [List.length_take, List.length_drop]; omega
  refine c_op (eff_copyN (T := TT) (sz := 2) (by_ := 32) (N := n + 1 - i) (q := n - i) (us := (cs.drop (i * 2)).take ((n - i) * 2)) rfl (look_h _ _ _) hmp rfl rfl (fun F X a hs => ?_) (by simp only [Nat.min_def]; split <;> omega) (by rw [e1]; omega) (fun u hu => (hok u (take_cells (by omega) u hu)).2) rfl ?_)
  · have h := srcA_box (P := Tryz.prog) (sz := 2) (off := i * 2) (n := n + 1 - i) (c := c - i) (q := n - i) hs (look_h _ _ _) hmp (by omega) (fun u hu => (hok u (take_cells (by omega) u hu)).1)
    rw [rel_v (opV_rel' (x := .tmp 76) hs (u := .v (.slice (some ⟨k, offS 0 c i 2, none⟩) (n + 1 - i) (c - i))) rfl), e2]
    exact h
  refine c_end ?_
  have hsp : (splice cs ((i + 1) * 2) ((cs.drop (i * 2)).take ((n - i) * 2))).length = c * 2 := by
    rw [splice_len (by rw [hBl]; omega), hcs]
  refine ar_nop (ar_le (σ' := ⟨95, [(0, .v (.slice (some ⟨k, 0, none⟩) (n + 1) c)), (1, .v (.int .i64 (i : Nat))), (2, .sl false 2 [r])], [(k, splice cs ((i + 1) * 2) ((cs.drop (i * 2)).take ((n - i) * 2)))], []⟩) ⟨rfl, ?_, ?_, rfl⟩ ?_)
  · (repeat' (first | exact trivial | exact .refl _ | refine ⟨⟨_, rfl, ?_⟩, ?_⟩))
  · rw [← e1]; (repeat' (first | exact trivial | exact LeL.refl _ | refine ⟨⟨_, look_hd, ?_⟩, ?_⟩))
  repeat (first | ((first | apply ar_op' rfl rfl rfl rfl); (next => (first | exact opv_slice_bx (T := TT) (sz := 2) (i := i) (j := (n + 1)) rfl rfl rfl (by rfl) (by rfl) (by omega) (by omega) | fail))) | (apply ar_op' rfl rfl rfl rfl; (next => (first | (refine evalE_ok (T := TT) rfl ?_; (first | exact trivial)) | fail))) | (refine arO _ ?_; first | (refine arO ⟨_, .move _, _, _, _, _⟩ ?_; first | refine ar_move_sl rfl rfl rfl rfl ?_ | fail) | fail) | refine ar_seq ?_ | refine ar_region ?_ | fail)
  refine ar_eff rfl rfl (eff_copyN (T := TT) (sz := 2) (by_ := 32) (N := 1) (q := 1) (us := r) rfl (look_h _ _ _) (isMpB_even hsp) rfl rfl (fun F X a hs => srcA_row hs rfl hrok) (by simp only [Nat.min_def]; split <;> omega) (by rw [e2, hsp]; omega) (fun u hu => (hrok u hu).2) rfl ?_)
  repeat (first | ((first | apply ar_un | apply stk_un); (next => (first | (simp only [go_sem, Nat.reduceBEq, Nat.reduceEqDiff, reduceIte, reduceCtorEq, String.reduceEq, Nat.reduceAdd, Int.reduceToNat]; exact rfl)))) | (apply ar_op' rfl rfl rfl rfl; (next => (first | (refine evalE_ok (T := TT) rfl ?_; (first | exact trivial)) | fail))) | refine ar_seq ?_ | (refine arE ?_; refine ar_endM [0, 1, 2, 6, 7, 8, 9, 16, 22, 31, 68] rfl ?_) | refine ar_region ?_ | refine ar_dedup rfl ?_ | (refine arC .ret ?_; refine ar_retM [6] ?_) | fail)
  (repeat (first | refine stk_o_ret ?_ | refine stk_c_ret ?_ | refine stk_b_ret ?_))
  refine stk_nil ⟨_, rfl, k, c, (cs.drop ((n + 1) * 2)), rfl, ?_, ?_⟩
  · rw [look_h, e2, ins_list (by omega) (by omega) hBl hr]
  · rw [List.length_drop]; omega
end Go.Proofs.YtgmlkhfjhogdbaaGreat

/- slices.Clone of labels: a box. -/
namespace Go.Proofs.YtgmlkhfjhogdbaaGreat
open Go.RowKit P
set_option linter.unusedSimpArgs false
set_option linter.unusedVariables false
/-- append to a slice without room and elements: a new box. -/
theorem eff_append_clb {P : Program} {T : Tys P} {σ : AS} {t u ty e : TypeId} {x y : Operand} {pos : String} {af : Array Edge} {g : Option (Nat × Bool)} {d by_ sz N : Nat} {us : List AV} {du : TypeDesc} (hx : opV σ x = some (.cl sz [])) (ht : look T.ty t = some (.slice e)) (hu : look T.ty u = some du) (hnz : du = .string ∨ ∃ e', du = .slice e') (hz : look T.sz e = some (sz, by_)) (hb1 : 1 ≤ by_)
    (hsrc : ∀ F X (a : Act), SimE F X σ a.tmps → ∃ vs, SrcA P X sz N N us (a.eval y) vs) (hN : 0 < N) (hfit : N * by_ ≤ 140737488355328) (hpl : Plain1 us) (hd : Nat.ble (d + 1) σ.n = true)
    {R : AS → Prop} (hR : ∀ k' cap sp, FreshK k' σ.h → (N ≤ cap ∧ (us ++ sp).length = cap * sz ∧ Plain1 sp) → R ((σ.box k' (us ++ sp)).put d (.v (.slice (some ⟨k', 0, none⟩) N cap)))) : EffOp P ⟨some d, .call { callee := .builtin .append, args := #[x, y], argTypes := #[t, u] }, ty, pos, af, g⟩ σ R := by
  refine eff_newboxD (Fact := fun cap sp => N ≤ cap ∧ (us ++ sp).length = cap * sz ∧ Plain1 sp) rfl hd (fun cap sp h v hv => ?_) (fun F X a hs => ?_) hR
  · rcases List.mem_append.1 hv with hv | hv
    · exact hpl v hv
    · exact h.2.2 v hv
  · have hrel := opV_rel' hs hx
    obtain ⟨vs, hv⟩ := hsrc F X a hs
    obtain ⟨i, hi1, hi2, hi3, zv, hi4, hi5⟩ := T.szOk _ _ _ hz
    generalize hxv : a.eval x = xv at hrel
    cases hrel with
    | cl _ _ ad n hr =>
      have hn : n = 0 := by
        obtain ⟨a1, c1, h1⟩ := rel_sl_form hr
        cases h1; rfl
      subst hn
      have hcge := grownCap_ge X.w (0 + N) 0 e
      have hold : ∀ w', w'.heap = X.w.heap → (Builtin.firstCells i.size 0 (.slice ad 0 0)).run P w' = .ok ([] : List Value).toArray w' := fun w' _ => by
        cases ad with
        | none => simp [Builtin.firstCells]
        | some b => exact run_firstCells_some (P := P) (w := w') i.size 0 b 0 0 [] (by simp) (fun j v hv => by simp at hv)
      have hrun := run_append_out (P := P) (ty := ty) (sLen := 0) (sCap := 0) (a := ad) (m := N) (olds := []) (news := vs) (x := a.eval y) (T.tyOk _ _ ht) (T.tyOk _ _ hu) hnz hi1 hi4 ⟨hv.len, by rw [hi2]; exact hv.first, by rw [hi2]; exact hv.lv⟩ hold (by omega) (by rw [hi3, Nat.zero_add]; exact hfit) (by rw [hi3]; exact hb1)
      rw [Nat.zero_add] at hrun hcge
      refine ⟨_, e, grownCap X.w N 0 e, (Builtin.zeroCells zv.cells (grownCap X.w N 0 e - N)).toList.map .v, ⟨hcge, ?_, fun v hv => ?_⟩, run_builtin_append hxv rfl hrun, ?_, fun j u0 v hu0 hv0 => ?_⟩
      · rw [List.length_append, hv.lu, List.length_map, Array.length_toList]
        have : (Builtin.zeroCells zv.cells (grownCap X.w N 0 e - N)).size = (grownCap X.w N 0 e - N) * sz := by simp [Builtin.zeroCells, hi5]
        rw [this, ← Nat.add_mul]; congr 1; omega
      · obtain ⟨z, _, rfl⟩ := List.mem_map.1 hv; rfl
      · simp only [Array.size_append, List.size_toArray, List.length_append, hv.lu, hv.lv, List.length_map, Array.length_toList, List.length_nil, Nat.zero_add]
      · have hl0 : (([] : List Value).toArray ++ vs.toArray ++ Builtin.zeroCells zv.cells (grownCap X.w N 0 e - N))[j]? = (vs ++ (Builtin.zeroCells zv.cells (grownCap X.w N 0 e - N)).toList)[j]? := by
          rw [← Array.getElem?_toList]; simp
        rw [hl0] at hv0
        refine rel_app (by rw [hv.lu, hv.lv]) hv.rel (fun i u v hu hv => ?_) j u0 v hu0 hv0
        rw [List.getElem?_map, hv] at hu
        cases hu
        exact .v _
attribute [local irreducible] AS.nf OpV ARun Stk QSem QSemA ACalls EffOp AppOk SrcOk Awp Aops NSem CSem
/-- Rows of two cells that may be copied. -/
def RowsOk (L : List (List AV)) : Prop := ∀ r ∈ L, r.length = 2 ∧ ∀ u ∈ r, CellOk u
theorem RowsOk.flat {L : List (List AV)} (h : RowsOk L) : ∀ u ∈ L.flatten, CellOk u := fun u hu => by
  obtain ⟨r, h1, h2⟩ := List.mem_flatten.1 hu
  exact (h r h1).2 u h2
set_option maxHeartbeats 2000000
set_option maxRecDepth 100000 in
theorem clone_a (r : List AV) (L : List (List AV)) (hl : L.length < 1000000) (hok : RowsOk (r :: L)) :
    ACalls Tryz.prog 30 [.sl false 2 (r :: L)] [] (fun out H => ∃ k c sp, out = .ret (.v (.slice (some ⟨k, 0, none⟩) (L.length + 1) c)) ∧ H = [(k, (r :: L).flatten ++ sp)] ∧ (L.length + 1) * 2 + sp.length = c * 2) := by
  refine acalls_enter _ 8 [.tmp 2] Tryz.func30 (by kernel_rfl) rfl rfl rfl rfl ?_
  dsimp only [slotsOf]
  repeat (first | ((first | apply ar_un); (next => (first | (simp only [go_sem, Nat.reduceBEq, Nat.reduceEqDiff, reduceIte, reduceCtorEq, String.reduceEq, Nat.reduceAdd, Int.reduceToNat]; exact rfl)))) | (apply ar_op' rfl rfl rfl rfl; (next => (first | (refine evalE_ok (T := TT) rfl ?_; (first | exact trivial)) | fail))) | (refine arO _ ?_; first | (refine arO ⟨_, .move _, _, _, _, _⟩ ?_; first | refine ar_move_sl rfl rfl rfl rfl ?_ | fail) | fail) | refine ar_seq ?_ | (refine arE ?_; refine ar_endM [0, 2, 4] rfl ?_) | refine ar_region ?_ | fail)
  refine ar_eff rfl rfl (eff_nil (.inl ⟨rfl, rfl⟩) (TT.tyOk 22 (.slice 42) rfl) rfl rfl rfl (fun b hb => ?_))
  cases b with
  | true => cases hb rfl
  | false =>
    repeat (first
      | ((first | apply ar_un); (next => (first | (simp only [go_sem, Nat.reduceBEq, Nat.reduceEqDiff, reduceIte, reduceCtorEq, String.reduceEq, Nat.reduceAdd, Int.reduceToNat]; exact rfl))))
      | (apply ar_op' rfl rfl rfl rfl; (next => exact opv_build0 (T := TT) rfl rfl))
      | (refine arO _ ?_; first | (refine arO ⟨_, .move _, _, _, _, _⟩ ?_; first | refine ar_move_sl rfl rfl rfl rfl ?_ | fail) | fail)
      | refine ar_seq ?_
      | (refine arE ?_; refine ar_endM [0, 2, 4] rfl ?_)
      | refine ar_region ?_
      | refine ar_skip ?_
      | (refine arC (.cond _ _ _) ?_; first | (refine ar_cond_false rfl ?_ ?_; (next => (first | rfl))) | fail)
      | fail)
    have hfl : (r :: L).flatten.length = (L.length + 1) * 2 := flat_len (L := r :: L) fun q hq => (hok q hq).1
    refine ar_eff rfl rfl (eff_append_clb (T := TT) (sz := 2) (by_ := 32) (N := L.length + 1) (us := (r :: L).flatten) rfl rfl rfl (.inr ⟨_, rfl⟩) rfl (by decide) (fun F X a hs => ?_) (by omega) (by omega) (fun u hu => (hok.flat u hu).2) rfl ?_)
    · exact srcA_sl (P := Tryz.prog) (by decide) (opV_rel' hs (u := .sl false 2 (r :: L)) rfl) (fun q hq u hu => ((hok q hq).2 u hu).1)
    rintro k' cap sp hk' ⟨h1, h2, h3⟩
    repeat (first | ((first | apply ar_un | apply stk_un); (next => (first | (simp only [go_sem, Nat.reduceBEq, Nat.reduceEqDiff, reduceIte, reduceCtorEq, String.reduceEq, Nat.reduceAdd, Int.reduceToNat]; exact rfl)))) | (apply ar_op' rfl rfl rfl rfl; (next => (first | (refine evalE_ok (T := TT) rfl ?_; (first | exact trivial)) | fail))) | (refine arE ?_; refine ar_endM [0, 2, 4] rfl ?_) | (refine arC .ret ?_; refine ar_retM [2] ?_) | refine stk_nil ?_ | fail)
    exact ⟨_, rfl, k', cap, sp, rfl, rfl, by rw [List.length_append, hfl] at h2; exact h2⟩
set_option maxHeartbeats 2000000
set_option maxRecDepth 100000 in
theorem clone0_a : ACalls Tryz.prog 30 [.sl false 2 []] [] (fun out H => ∃ u, out = .ret u ∧ (u = .v (.slice none 0 0) ∨ u = .cl 2 []) ∧ H = []) := by
  refine acalls_enter _ 8 [.tmp 2] Tryz.func30 (by kernel_rfl) rfl rfl rfl rfl ?_
  dsimp only [slotsOf]
  repeat (first | ((first | apply ar_un); (next => (first | (simp only [go_sem, Nat.reduceBEq, Nat.reduceEqDiff, reduceIte, reduceCtorEq, String.reduceEq, Nat.reduceAdd, Int.reduceToNat]; exact rfl)))) | (apply ar_op' rfl rfl rfl rfl; (next => (first | (refine evalE_ok (T := TT) rfl ?_; (first | exact trivial)) | fail))) | (refine arO _ ?_; first | (refine arO ⟨_, .move _, _, _, _, _⟩ ?_; first | refine ar_move_sl rfl rfl rfl rfl ?_ | fail) | fail) | refine ar_seq ?_ | (refine arE ?_; refine ar_endM [0, 2, 4] rfl ?_) | refine ar_region ?_ | fail)
  refine ar_eff rfl rfl (eff_nil (.inl ⟨rfl, rfl⟩) (TT.tyOk 22 (.slice 42) rfl) rfl rfl rfl (fun b hb => ?_))
  cases b with
  | true =>
    repeat (first
      | ((first | apply ar_un | apply stk_un); (next => (first | (simp only [go_sem, Nat.reduceBEq, Nat.reduceEqDiff, reduceIte, reduceCtorEq, String.reduceEq, Nat.reduceAdd, Int.reduceToNat]; exact rfl))))
      | (apply ar_op' rfl rfl rfl rfl; (next => (first | (refine evalE_ok (T := TT) rfl ?_; (first | exact trivial)) | fail)))
      | refine ar_seq ?_
      | (refine arE ?_; refine ar_endM [0, 2, 4] rfl ?_)
      | refine ar_region ?_
      | (refine arC (.cond _ _ _) ?_; first | (refine ar_cond_true rfl ?_ ?_; (next => (first | rfl))) | fail)
      | (refine arC .ret ?_; refine ar_retM [2] ?_)
      | refine stk_c_ret ?_
      | refine stk_nil ?_
      | fail)
    exact ⟨_, rfl, _, rfl, .inl rfl, rfl⟩
  | false =>
    repeat (first
      | ((first | apply ar_un); (next => (first | (simp only [go_sem, Nat.reduceBEq, Nat.reduceEqDiff, reduceIte, reduceCtorEq, String.reduceEq, Nat.reduceAdd, Int.reduceToNat]; exact rfl))))
      | (apply ar_op' rfl rfl rfl rfl; (next => exact opv_build0 (T := TT) rfl rfl))
      | (refine arO _ ?_; first | (refine arO ⟨_, .move _, _, _, _, _⟩ ?_; first | refine ar_move_sl rfl rfl rfl rfl ?_ | fail) | fail)
      | refine ar_seq ?_
      | (refine arE ?_; refine ar_endM [0, 2, 4] rfl ?_)
      | refine ar_region ?_
      | refine ar_skip ?_
      | (refine arC (.cond _ _ _) ?_; first | (refine ar_cond_false rfl ?_ ?_; (next => (first | rfl))) | fail)
      | fail)
    refine ar_op' rfl rfl rfl rfl (opv_append_cl0 (T := TT) (L := []) rfl rfl rfl (.inr ⟨_, rfl⟩) rfl rfl rfl (by first | trivial | simp [RowsOne])) ?_
    repeat (first | ((first | apply ar_un | apply stk_un); (next => (first | (simp only [go_sem, Nat.reduceBEq, Nat.reduceEqDiff, reduceIte, reduceCtorEq, String.reduceEq, Nat.reduceAdd, Int.reduceToNat]; exact rfl)))) | (apply ar_op' rfl rfl rfl rfl; (next => (first | (refine evalE_ok (T := TT) rfl ?_; (first | exact trivial)) | fail))) | (refine arE ?_; refine ar_endM [0, 2, 4] rfl ?_) | (refine arC .ret ?_; refine ar_retM [2] ?_) | refine stk_nil ?_ | fail)
    exact ⟨_, rfl, _, rfl, .inr rfl, rfl⟩
end Go.Proofs.YtgmlkhfjhogdbaaGreat

/- slices.Insert of one label into nothing. -/
namespace Go.Proofs.YtgmlkhfjhogdbaaGreat
open Go.RowKit P
set_option linter.unusedSimpArgs false
set_option linter.unusedVariables false
section
variable {P : Program} {T : Tys P} {σ : AS} {t ty e : TypeId} {x : Operand} {pos : String} {af : Array Edge} {g : Option (Nat × Bool)}
theorem run_slice00 {X : GW} {a : Act} {dd : Option Tmp} {lo : Operand} {ad : Option Addr} {sz by_ : Nat} (e1 : a.eval x = .slice ad 0 0) (e2 : a.eval lo = .int .i64 0) (ht : look T.ty t = some (.slice e)) (hz : look T.sz e = some (sz, by_)) :
    (execOp a.eval ⟨dd, .slice t x (some lo) none none, ty, pos, af, g⟩).run P X.w = .ok (.value (.slice ad 0 0)) X.w := by
  obtain ⟨it, hi1, hi2, hi3, _⟩ := T.szOk _ _ _ hz
  have hu := T.tyOk _ _ ht
  have hb := run_bounds (P := P) (isS := true) (w := X.w) (len := 0) (cap := 0) (lo := some (.int .i64 0)) (hi := none) (i := 0) (j := 0) (by first | exact ⟨_, rfl⟩ | rfl) (by first | exact ⟨_, rfl⟩ | rfl) (by omega) (by omega) (by omega)
  simp only [execOp, e1, Option.map_some, e2, Option.map_none]
  refine run_val ?_
  simp only [Instr.sliceAt, Sem.run_bind, run_underlying hu, Result.andThen_ok]
  simp only [Instr.slice, Sem.run_bind, run_underlying hu, Result.andThen_ok, hb]
  cases ad <;> simp [sizeOf, typeInfo, hi1, hi2]
theorem opv_slice_nil0 {dd : Option Tmp} {lo : Operand} {sz by_ : Nat} (hx : opV σ x = some (.v (.slice none 0 0))) (hl : opV σ lo = some (.v (.int .i64 0))) (ht : look T.ty t = some (.slice e)) (hz : look T.sz e = some (sz, by_)) : OpV P ⟨dd, .slice t x (some lo) none none, ty, pos, af, g⟩ σ (.v (.slice none 0 0)) :=
  opv_same rfl fun F X a hs => ⟨_, run_slice00 (T := T) (opV_val hs (by simp [Op.operands]) hx) (opV_val hs (by simp [Op.operands]) hl) ht hz, .v _⟩
theorem opv_slice_cl0 {dd : Option Tmp} {lo : Operand} {sz by_ : Nat} (hx : opV σ x = some (.cl sz [])) (hl : opV σ lo = some (.v (.int .i64 0))) (ht : look T.ty t = some (.slice e)) (hz : look T.sz e = some (sz, by_)) : OpV P ⟨dd, .slice t x (some lo) none none, ty, pos, af, g⟩ σ (.cl sz []) := by
  refine opv_same rfl fun F X a hs => ?_
  have h := opV_rel hs (by simp [Op.operands]) hx
  have hl := opV_val hs (by simp [Op.operands]) hl
  generalize hxv : a.eval x = xv at h
  cases h with
  | cl _ _ ad n hr =>
    have hn : n = 0 := by
      obtain ⟨a1, c1, h1⟩ := rel_sl_form hr
      cases h1; rfl
    subst hn
    exact ⟨_, run_slice00 (T := T) hxv hl ht hz, .cl _ _ _ _ hr⟩
theorem opv_len_cl {dd : Option Tmp} {sz : Nat} (hx : opV σ x = some (.cl sz [])) (ht : look T.ty t = some (.slice e)) : OpV P ⟨dd, .call { callee := .builtin .len, args := #[x], argTypes := #[t] }, ty, pos, af, g⟩ σ (.v (.int .i64 0)) := by
  refine opv_same rfl fun F X a hs => ⟨_, ?_, .v _⟩
  have h := opV_rel hs (by simp [Op.operands, Call.operands]) hx
  have hu := T.tyOk _ _ ht
  generalize hxv : a.eval x = xv at h
  cases h with
  | cl _ _ ad n hr =>
    have hn : n = 0 := by
      obtain ⟨a1, c1, h1⟩ := rel_sl_form hr
      cases h1; rfl
    subst hn
    simp [execOp, resolve, invoke, builtin, Builtin.len_, hxv, run_underlying hu, goInt]
end
attribute [local irreducible] AS.nf OpV ARun Stk QSem QSemA ACalls EffOp AppOk SrcOk Awp Aops NSem CSem
set_option maxHeartbeats 2000000
set_option maxRecDepth 100000 in
theorem insert_nil (r : List AV) (hr : r.length = 2) (hrok : ∀ u ∈ r, CellOk u) :
    ACalls Tryz.prog 35 [.v (.slice none 0 0), .v (.int .i64 0), .sl false 2 [r]] [] (fun out H => out = .ret (.sl true 2 [r]) ∧ H = []) := by
  refine acalls_enter _ 95 [.tmp 6] Tryz.func35 (by kernel_rfl) rfl rfl rfl rfl ?_
  dsimp only [slotsOf]
  repeat (first
    | ((first | apply ar_un); (next => (first | (simp only [go_sem, Nat.reduceBEq, Nat.reduceEqDiff, reduceIte, reduceCtorEq, String.reduceEq, Nat.reduceAdd, Int.reduceToNat]; exact rfl))))
    | (apply ar_op' rfl rfl rfl rfl; (next => exact opv_slice_nil0 (T := TT) (sz := 2) rfl rfl rfl rfl))
    | (apply ar_op' rfl rfl rfl rfl; (next => (first
     | (refine evalE_ok (T := TT) rfl ?_; (first | exact trivial))
     | (apply opk ⟨_, .binOp .eql _ _ _ _, _, _, _, _⟩; first
      | (refine opv_cmp_t rfl rfl rfl ?_; (next => (first | exact rfl)))
      | (refine opv_cmp_f rfl rfl rfl ?_; (next => (first | (simp only [cmpP]; omega))))
      | fail)
     | (apply opk ⟨_, .call { callee := .builtin .len, args := _, argTypes := _ }, _, _, _, _⟩; first
      | exact opv_len_sl (T := TT) rfl rfl rfl
      | exact opv_len_nil (T := TT) rfl rfl rfl
      | fail)
     | fail)))
    | (refine arO _ ?_; first | (refine arO ⟨_, .move _, _, _, _, _⟩ ?_; first | refine ar_move_sl rfl rfl rfl rfl ?_ | fail) | fail)
    | refine ar_seq ?_
    | (refine arE ?_; refine ar_endM [0, 1, 2, 6, 7, 8, 9, 16, 22, 31, 68] rfl ?_)
    | refine ar_region ?_
    | refine ar_skip ?_
    | (refine arC (.cond _ _ _) ?_; first | (refine ar_cond_true rfl ?_ ?_; (next => (first | rfl))) | (refine ar_cond_false rfl ?_ ?_; (next => (first | rfl))) | fail)
    | fail)
  have h1 : RowsOne [r] := fun q hq u hu => by simp only [List.mem_singleton] at hq; subst hq; exact (hrok u hu).1
  refine ar_eff rfl rfl (eff_append_nil (T := TT) (m := [r]) (sz := 2) rfl rfl rfl (.inr ⟨_, rfl⟩) rfl rfl (fun F X a hs => adds_rel h1 X a (Rel.own (o := false) (opV_rel' hs (u := .sl false 2 [r]) rfl))) (by simp) rfl ?_)
  repeat (first | ((first | apply ar_un | apply stk_un); (next => (first | (simp only [go_sem, Nat.reduceBEq, Nat.reduceEqDiff, reduceIte, reduceCtorEq, String.reduceEq, Nat.reduceAdd, Int.reduceToNat]; exact rfl)))) | (refine arO _ ?_; first | (refine arO ⟨_, .assign _, _, _, _, _⟩ ?_; first | refine ar_assign_sl rfl rfl rfl rfl ?_ | fail) | fail) | (refine arE ?_; refine ar_endM [0, 1, 2, 6, 7, 8, 9, 16, 22, 31, 68] rfl ?_) | (refine arC .ret ?_; refine ar_retM [6] ?_) | refine stk_c_ret ?_ | refine stk_nil ?_ | fail)
  exact ⟨_, rfl, rfl, rfl⟩
set_option maxHeartbeats 2000000
set_option maxRecDepth 100000 in
theorem insert_cl (r : List AV) (hr : r.length = 2) (hrok : ∀ u ∈ r, CellOk u) :
    ACalls Tryz.prog 35 [.cl 2 [], .v (.int .i64 0), .sl false 2 [r]] [] (fun out H => out = .ret (.sl true 2 [r]) ∧ H = []) := by
  refine acalls_enter _ 95 [.tmp 6] Tryz.func35 (by kernel_rfl) rfl rfl rfl rfl ?_
  dsimp only [slotsOf]
  repeat (first
    | ((first | apply ar_un); (next => (first | (simp only [go_sem, Nat.reduceBEq, Nat.reduceEqDiff, reduceIte, reduceCtorEq, String.reduceEq, Nat.reduceAdd, Int.reduceToNat]; exact rfl))))
    | (apply ar_op' rfl rfl rfl rfl; (next => first | exact opv_slice_cl0 (T := TT) (sz := 2) rfl rfl rfl rfl | exact opv_len_cl (T := TT) (sz := 2) rfl rfl | fail))
    | (apply ar_op' rfl rfl rfl rfl; (next => (first
     | (refine evalE_ok (T := TT) rfl ?_; (first | exact trivial))
     | (apply opk ⟨_, .binOp .eql _ _ _ _, _, _, _, _⟩; first
      | (refine opv_cmp_t rfl rfl rfl ?_; (next => (first | exact rfl)))
      | (refine opv_cmp_f rfl rfl rfl ?_; (next => (first | (simp only [cmpP]; omega))))
      | fail)
     | (apply opk ⟨_, .call { callee := .builtin .len, args := _, argTypes := _ }, _, _, _, _⟩; first | exact opv_len_sl (T := TT) rfl rfl rfl | fail)
     | fail)))
    | (refine arO _ ?_; first | (refine arO ⟨_, .move _, _, _, _, _⟩ ?_; first | refine ar_move_sl rfl rfl rfl rfl ?_ | fail) | fail)
    | refine ar_seq ?_
    | (refine arE ?_; refine ar_endM [0, 1, 2, 6, 7, 8, 9, 16, 22, 31, 68] rfl ?_)
    | refine ar_region ?_
    | refine ar_skip ?_
    | (refine arC (.cond _ _ _) ?_; first | (refine ar_cond_true rfl ?_ ?_; (next => (first | rfl))) | (refine ar_cond_false rfl ?_ ?_; (next => (first | rfl))) | fail)
    | fail)
  have h1 : RowsOne [r] := fun q hq u hu => by simp only [List.mem_singleton] at hq; subst hq; exact (hrok u hu).1
  refine ar_eff rfl rfl (eff_append_cl (T := TT) (L := []) (m := [r]) (sz := 2) rfl rfl rfl (.inr ⟨_, rfl⟩) rfl rfl (fun F X a hs => adds_rel h1 X a (Rel.own (o := false) (opV_rel' hs (u := .sl false 2 [r]) rfl))) (by simp) (by simp) rfl ?_)
  repeat (first | ((first | apply ar_un | apply stk_un); (next => (first | (simp only [go_sem, Nat.reduceBEq, Nat.reduceEqDiff, reduceIte, reduceCtorEq, String.reduceEq, Nat.reduceAdd, Int.reduceToNat]; exact rfl)))) | (refine arO _ ?_; first | (refine arO ⟨_, .assign _, _, _, _, _⟩ ?_; first | refine ar_assign_sl rfl rfl rfl rfl ?_ | fail) | fail) | (refine arE ?_; refine ar_endM [0, 1, 2, 6, 7, 8, 9, 16, 22, 31, 68] rfl ?_) | (refine arC .ret ?_; refine ar_retM [6] ?_) | refine stk_c_ret ?_ | refine stk_nil ?_ | fail)
  exact ⟨_, rfl, rfl, rfl⟩
end Go.Proofs.YtgmlkhfjhogdbaaGreat

/- labels.Set. -/
namespace Go.Proofs.YtgmlkhfjhogdbaaGreat
open Go.RowKit P
set_option linter.unusedSimpArgs false
set_option linter.unusedVariables false
/-- The cells of labels. -/
def rowsL (l : List VLabel) : List (List AV) := l.map fun v => [.v (.string (mkB v.Name)), .v (.string (mkB v.Value))]
theorem find_a {N : Nat} (l : List VLabel) (nm : List UInt8) {i : Int} {ok : Bool} (h : labels_find N l nm = some (i, ok)) : ACalls Tryz.prog 33 [.sl false 2 (rowsL l), .v (.string (mkB nm))] [] (fun out H => out = .ret (.tu [.v (.int .i64 i), .v (.bool ok)]) ∧ H = []) :=
  labels_find_ok l nm h fun i => i
theorem rowsL_ok (l : List VLabel) : RowsOk (rowsL l) := fun r hr => by
  obtain ⟨v, _, rfl⟩ := List.mem_map.1 hr
  refine ⟨rfl, fun u hu => ?_⟩
  simp only [List.mem_cons, List.not_mem_nil, or_false] at hu
  rcases hu with rfl | rfl <;> exact ⟨rfl, rfl⟩
theorem insert_a (k n c i : Nat) (cs r : List AV) (hcs : cs.length = c * 2) (hnc : n ≤ c) (hi : i ≤ n) (hc : n ≤ 1000000) (hok : ∀ u ∈ cs.take (n * 2), CellOk u) (hr : r.length = 2) (hrok : ∀ u ∈ r, CellOk u) :
    ACalls Tryz.prog 35 [.v (.slice (some ⟨k, 0, none⟩) n c), .v (.int .i64 (i : Nat)), .sl false 2 [r]] [(k, cs)] (InsPost cs n i r) := by
  by_cases h1 : i = n
  · subst h1; exact insert_end k i c cs r hcs hnc hc hok hr hrok
  · by_cases h2 : n + 1 ≤ c
    · exact insert_in k n c i cs r hcs hnc (by omega) h2 hc hok hr hrok
    · exact insert_new k n c i cs r hcs hnc (by omega) (by omega) hc hok hr hrok
theorem rowsL_len (l : List VLabel) : (rowsL l).flatten.length = l.length * 2 := by
  rw [flat_len (sz := 2) fun r hr => (rowsL_ok l r hr).1]; simp [rowsL]
theorem rowsL_take (l : List VLabel) (sp : List AV) {i : Nat} (hi : i ≤ l.length) : ((rowsL l).flatten ++ sp).take (i * 2) = (rowsL (l.take i)).flatten := by
  have h : (rowsL l).flatten = (rowsL (l.take i)).flatten ++ (rowsL (l.drop i)).flatten := by
    rw [← List.flatten_append]; congr 1
    simp only [rowsL, ← List.map_append, List.take_append_drop]
  have h2 := rowsL_len (l.take i)
  rw [List.length_take, Nat.min_eq_left hi] at h2
  rw [h, List.append_assoc, ← h2, List.take_left]
theorem rowsL_drop (l : List VLabel) (sp : List AV) {i : Nat} (hi : i ≤ l.length) : (((rowsL l).flatten ++ sp).drop (i * 2)).take ((l.length - i) * 2) = (rowsL (l.drop i)).flatten := by
  have h : (rowsL l).flatten = (rowsL (l.take i)).flatten ++ (rowsL (l.drop i)).flatten := by
    rw [← List.flatten_append]; congr 1
    simp only [rowsL, ← List.map_append, List.take_append_drop]
  have h2 := rowsL_len (l.take i)
  have h3 := rowsL_len (l.drop i)
  rw [List.length_take, Nat.min_eq_left hi] at h2
  rw [List.length_drop] at h3
  rw [h, List.append_assoc, ← h2, List.drop_left, ← h3, List.take_left]
theorem splice_del {A B C sp Z : List AV} {i n : Nat} (hA : A.length = i * 2) (hB : B.length = 2) (hC : C.length = (n - (i + 1)) * 2) (hi : i < n) (hZ : Z.length = 2) : splice (splice (A ++ (B ++ C) ++ sp) (i * 2) C) ((n - 1) * 2) Z = A ++ C ++ (Z ++ sp) := by
  have h1 : B ++ C = (B ++ C).take C.length ++ (B ++ C).drop C.length := (List.take_append_drop _ _).symm
  have h2 : ((B ++ C).take C.length).length = C.length := by rw [List.length_take, List.length_append]; omega
  have h3 : ((B ++ C).drop C.length).length = 2 := by rw [List.length_drop, List.length_append]; omega
  rw [h1, ← List.append_assoc A, List.append_assoc (A ++ _), splice_mid hA h2, ← List.append_assoc (A ++ C), splice_mid (by rw [List.length_append]; omega) (by omega), List.append_assoc (A ++ C)]
theorem delC_rows (l : List VLabel) (sp : List AV) {i : Nat} (hi : i < l.length) : delC ((rowsL l).flatten ++ sp) l.length i (i + 1) = (rowsL (l.take i ++ l.drop (i + 1))).flatten ++ ((Builtin.zeroCells (Value.agg #[.string ⟨#[]⟩, .string ⟨#[]⟩]).cells 1).toList.map AV.v ++ sp) := by
  have h : (rowsL l).flatten = (rowsL (l.take i)).flatten ++ ((rowsL [l[i]]).flatten ++ (rowsL (l.drop (i + 1))).flatten) := by
    rw [← List.flatten_append, ← List.flatten_append]; congr 1
    simp only [rowsL, ← List.map_append]
    congr 1
    rw [List.singleton_append, List.getElem_cons_drop, List.take_append_drop]
  have hA := rowsL_len (l.take i)
  rw [List.length_take, Nat.min_eq_left (by omega)] at hA
  have hC := rowsL_len (l.drop (i + 1))
  rw [List.length_drop] at hC
  unfold delC
  rw [rowsL_drop l sp (i := i + 1) (by omega), show i + 1 - i = 1 by omega, h, splice_del hA (rowsL_len [l[i]]) hC hi (by rw [List.length_map, Array.length_toList, zc_len])]
  simp [rowsL]
attribute [local irreducible] AS.nf OpV ARun Stk QSem QSemA ACalls EffOp AppOk SrcOk Awp Aops NSem CSem
set_option maxHeartbeats 2000000
set_option maxRecDepth 100000 in
/-- Set on no labels. -/
theorem set_none {N : Nat} (nm v : List UInt8) (h : labels_find N [] nm = some (0, false)) (hv : v ≠ []) :
    ACalls Tryz.prog 20 [.sl false 2 [], .v (.string (mkB nm)), .v (.string (mkB v))] [] (fun out H => out = .ret (.sl true 2 (rowsL [⟨nm, v⟩])) ∧ H = []) := by
  have hf := find_a [] nm h
  refine acalls_enter _ 46 [.tmp 6] Tryz.func20 (by kernel_rfl) rfl rfl rfl rfl ?_
  dsimp only [slotsOf]
  repeat (first
    | ((first | apply ar_un); (next => (first | (simp only [go_sem, Nat.reduceBEq, Nat.reduceEqDiff, reduceIte, reduceCtorEq, String.reduceEq, Nat.reduceAdd, Int.reduceToNat]; exact rfl))))
    | (apply ar_op' rfl rfl rfl rfl; (next => (first | (refine evalE_ok (T := TT) rfl ?_; (first | exact trivial)) | fail)))
    | (refine arO _ ?_; first
     | (refine arO ⟨_, .move _, _, _, _, _⟩ ?_; first | refine ar_move_sl rfl rfl rfl rfl ?_ | fail)
     | (refine arO ⟨_, .call { callee := .value _, args := _, argTypes := _ }, _, _, _, _⟩ ?_; first
      | (apply ar_callM0 rfl (hf) rfl rfl; (next => (repeat (first | exact PArgs.nil | (apply PArgs.cons; (next => (first | exact PArg.rd rfl (Le1.refl _) rfl)))))); (next => rfl); (next => rfl); rintro _ _ ⟨rfl, rfl⟩; refine ⟨_, rfl, ?_⟩)
      | fail)
     | fail)
    | refine ar_seq ?_
    | (refine arE ?_; refine ar_endM [0, 1, 2, 6, 7, 8, 17, 28, 35] rfl ?_)
    | refine ar_region ?_
    | fail)
  have hve : (decide (mkB v = ⟨#[]⟩)) = false := decide_eq_false fun e => hv (by have := congrArg (fun b => b.data.toList) e; simpa [mkB] using this)
  refine ar_eff rfl rfl (eff_call (Hp := []) (Hr := []) clone0_a (.cons (.rd rfl (Le1.refl _) rfl) .nil) (fun i j r hi hj => oneSome_spec (ρs := [none]) rfl i j r r hi hj) (fun _ _ _ => rfl) (fun k cs hk => by simp [look_nil] at hk) (fun k cs hk => by simp [look_nil] at hk) rfl ?_)
  rintro _ _ ⟨u, rfl, hu, rfl⟩
  refine ⟨_, rfl, ?_⟩
  rcases hu with rfl | rfl
  · repeat (first
    | ((first | apply ar_un); (next => (first | (simp only [go_sem, Nat.reduceBEq, Nat.reduceEqDiff, reduceIte, reduceCtorEq, String.reduceEq, Nat.reduceAdd, Int.reduceToNat]; exact rfl))))
    | (apply ar_op' rfl rfl rfl rfl; (next => (first
     | (refine evalE_ok (T := TT) rfl ?_; (first | exact trivial))
     | (apply opk ⟨_, .binOp .neq _ _ _ _, _, _, _, _⟩; first | (refine opv_sne_t rfl rfl rfl ?_; (next => (first | assumption))) | fail)
     | (apply opk ⟨_, .buildSlice _ _ _, _, _, _, _⟩; first | exact opv_build_slice (T := TT) rfl rfl rfl rfl rfl rfl rfl | fail)
     | (apply opk ⟨_, .build _ _, _, _, _, _⟩; first | exact opv_build (T := TT) rfl rfl rfl rfl rfl | fail)
     | (apply opk ⟨_, .pick _ _ _, _, _, _, _⟩; first | (refine opv_pickf rfl ?_ rfl; (next => (first | rfl))) | fail)
     | fail)))
    | refine ar_unwanted' rfl rfl rfl rfl ?_
    | refine ar_seq ?_
    | (refine arE ?_; refine ar_endM [0, 1, 2, 6, 7, 8, 17, 28, 35] rfl ?_)
    | refine ar_region ?_
    | refine ar_block ?_
    | (refine arC (.cond _ _ _) ?_; first | (refine ar_cond_true rfl ?_ ?_; (next => (first | rfl))) | (refine ar_cond_false rfl ?_ ?_; (next => (first | rfl))) | fail)
    | fail)
    refine ar_eff rfl rfl (eff_call (Hp := []) (Hr := []) (insert_nil [.v (.string (mkB nm)), .v (.string (mkB v))] rfl (rowsL_ok [⟨nm, v⟩] _ (List.mem_singleton.2 rfl)).2) (.cons (.rd rfl (Le1.refl _) rfl) (.cons (.rd rfl (Le1.refl _) rfl) (.cons (.rd rfl (Le1.rd _ _ _) rfl) .nil))) (fun i j r hi hj => oneSome_spec (ρs := [none, none, none]) rfl i j r r hi hj) (fun _ _ _ => rfl) (fun k cs hk => by simp [look_nil] at hk) (fun k cs hk => by simp [look_nil] at hk) rfl ?_)
    rintro _ _ ⟨rfl, rfl⟩
    refine ⟨_, rfl, ?_⟩
    repeat (first | ((first | apply ar_un | apply stk_un); (next => (first | (simp only [go_sem, Nat.reduceBEq, Nat.reduceEqDiff, reduceIte, reduceCtorEq, String.reduceEq, Nat.reduceAdd, Int.reduceToNat]; exact rfl)))) | (refine arO _ ?_; first | (refine arO ⟨_, .assign _, _, _, _, _⟩ ?_; first | refine ar_assign_sl rfl rfl rfl rfl ?_ | fail) | fail) | (refine arE ?_; refine ar_endM [0, 1, 2, 6, 7, 8, 17, 28, 35] rfl ?_) | (refine arC .ret ?_; refine ar_retM [6] ?_) | refine stk_c_ret ?_ | refine stk_b_ret ?_ | refine stk_nil ?_ | fail)
    exact ⟨_, rfl, rfl, rfl⟩
  · repeat (first
    | ((first | apply ar_un); (next => (first | (simp only [go_sem, Nat.reduceBEq, Nat.reduceEqDiff, reduceIte, reduceCtorEq, String.reduceEq, Nat.reduceAdd, Int.reduceToNat]; exact rfl))))
    | (apply ar_op' rfl rfl rfl rfl; (next => (first
     | (refine evalE_ok (T := TT) rfl ?_; (first | exact trivial))
     | (apply opk ⟨_, .binOp .neq _ _ _ _, _, _, _, _⟩; first | (refine opv_sne_t rfl rfl rfl ?_; (next => (first | assumption))) | fail)
     | (apply opk ⟨_, .buildSlice _ _ _, _, _, _, _⟩; first | exact opv_build_slice (T := TT) rfl rfl rfl rfl rfl rfl rfl | fail)
     | (apply opk ⟨_, .build _ _, _, _, _, _⟩; first | exact opv_build (T := TT) rfl rfl rfl rfl rfl | fail)
     | (apply opk ⟨_, .pick _ _ _, _, _, _, _⟩; first | (refine opv_pickf rfl ?_ rfl; (next => (first | rfl))) | fail)
     | fail)))
    | refine ar_unwanted' rfl rfl rfl rfl ?_
    | refine ar_seq ?_
    | (refine arE ?_; refine ar_endM [0, 1, 2, 6, 7, 8, 17, 28, 35] rfl ?_)
    | refine ar_region ?_
    | refine ar_block ?_
    | (refine arC (.cond _ _ _) ?_; first | (refine ar_cond_true rfl ?_ ?_; (next => (first | rfl))) | (refine ar_cond_false rfl ?_ ?_; (next => (first | rfl))) | fail)
    | fail)
    refine ar_eff rfl rfl (eff_call (Hp := []) (Hr := []) (insert_cl [.v (.string (mkB nm)), .v (.string (mkB v))] rfl (rowsL_ok [⟨nm, v⟩] _ (List.mem_singleton.2 rfl)).2) (.cons (.rd rfl (Le1.refl _) rfl) (.cons (.rd rfl (Le1.refl _) rfl) (.cons (.rd rfl (Le1.rd _ _ _) rfl) .nil))) (fun i j r hi hj => oneSome_spec (ρs := [none, none, none]) rfl i j r r hi hj) (fun _ _ _ => rfl) (fun k cs hk => by simp [look_nil] at hk) (fun k cs hk => by simp [look_nil] at hk) rfl ?_)
    rintro _ _ ⟨rfl, rfl⟩
    refine ⟨_, rfl, ?_⟩
    repeat (first | ((first | apply ar_un | apply stk_un); (next => (first | (simp only [go_sem, Nat.reduceBEq, Nat.reduceEqDiff, reduceIte, reduceCtorEq, String.reduceEq, Nat.reduceAdd, Int.reduceToNat]; exact rfl)))) | (refine arO _ ?_; first | (refine arO ⟨_, .assign _, _, _, _, _⟩ ?_; first | refine ar_assign_sl rfl rfl rfl rfl ?_ | fail) | fail) | (refine arE ?_; refine ar_endM [0, 1, 2, 6, 7, 8, 17, 28, 35] rfl ?_) | (refine arC .ret ?_; refine ar_retM [6] ?_) | refine stk_c_ret ?_ | refine stk_b_ret ?_ | refine stk_nil ?_ | fail)
    exact ⟨_, rfl, rfl, rfl⟩
set_option maxHeartbeats 2000000
set_option maxRecDepth 100000 in
/-- Set of a name that is not there. -/
theorem set_ins {N : Nat} (a : VLabel) (l : List VLabel) (nm v : List UInt8) (i : Nat) (hi : i ≤ l.length + 1) (hl : l.length < 400000) (h : labels_find N (a :: l) nm = some ((i : Int), false)) (hv : v ≠ []) :
    ACalls Tryz.prog 20 [.sl false 2 (rowsL (a :: l)), .v (.string (mkB nm)), .v (.string (mkB v))] [] (fun out H => out = .ret (.sl true 2 (rowsL ((a :: l).take i ++ ⟨nm, v⟩ :: (a :: l).drop i))) ∧ H = []) := by
  have hf := find_a (a :: l) nm h
  have hve : (decide (mkB v = ⟨#[]⟩)) = false := decide_eq_false fun e => hv (by have := congrArg (fun b => b.data.toList) e; simpa [mkB] using this)
  refine acalls_enter _ 46 [.tmp 6] Tryz.func20 (by kernel_rfl) rfl rfl rfl rfl ?_
  dsimp only [slotsOf]
  repeat (first
    | ((first | apply ar_un); (next => (first | (simp only [go_sem, Nat.reduceBEq, Nat.reduceEqDiff, reduceIte, reduceCtorEq, String.reduceEq, Nat.reduceAdd, Int.reduceToNat]; exact rfl))))
    | (apply ar_op' rfl rfl rfl rfl; (next => (first | (refine evalE_ok (T := TT) rfl ?_; (first | exact trivial)) | fail)))
    | (refine arO _ ?_; first
     | (refine arO ⟨_, .move _, _, _, _, _⟩ ?_; first | refine ar_move_sl rfl rfl rfl rfl ?_ | fail)
     | (refine arO ⟨_, .call { callee := .value _, args := _, argTypes := _ }, _, _, _, _⟩ ?_; first
      | (apply ar_callM0 rfl (hf) rfl rfl; (next => (repeat (first | exact PArgs.nil | (apply PArgs.cons; (next => (first | exact PArg.rd rfl (Le1.refl _) rfl)))))); (next => rfl); (next => rfl); rintro _ _ ⟨rfl, rfl⟩; refine ⟨_, rfl, ?_⟩)
      | fail)
     | fail)
    | refine ar_seq ?_
    | (refine arE ?_; refine ar_endM [0, 1, 2, 6, 7, 8, 17, 28, 35] rfl ?_)
    | refine ar_region ?_
    | fail)
  have hl : l.length < 1000000 := by omega
  refine ar_eff rfl rfl (eff_call (Hp := []) (Hr := []) (clone_a _ _ (by simpa [rowsL] using hl) (rowsL_ok (a :: l))) (.cons (.rd rfl (Le1.refl _) rfl) .nil) (fun i j r hi hj => oneSome_spec (ρs := [none]) rfl i j r r hi hj) (fun _ _ _ => rfl) (fun k cs hk => by simp [look_nil] at hk) (fun k cs hk => by simp [look_nil] at hk) rfl ?_)
  rintro _ _ ⟨k, c, sp, rfl, rfl, hc⟩
  refine ⟨_, rfl, ?_⟩
  repeat (first
    | ((first | apply ar_un); (next => (first | (simp only [go_sem, Nat.reduceBEq, Nat.reduceEqDiff, reduceIte, reduceCtorEq, String.reduceEq, Nat.reduceAdd, Int.reduceToNat]; exact rfl))))
    | (apply ar_op' rfl rfl rfl rfl; (next => (first
     | (refine evalE_ok (T := TT) rfl ?_; (first | exact trivial))
     | (apply opk ⟨_, .binOp .neq _ _ _ _, _, _, _, _⟩; first | (refine opv_sne_t rfl rfl rfl ?_; (next => (first | assumption))) | fail)
     | (apply opk ⟨_, .buildSlice _ _ _, _, _, _, _⟩; first | exact opv_build_slice (T := TT) rfl rfl rfl rfl rfl rfl rfl | fail)
     | (apply opk ⟨_, .build _ _, _, _, _, _⟩; first | exact opv_build (T := TT) rfl rfl rfl rfl rfl | fail)
     | (apply opk ⟨_, .pick _ _ _, _, _, _, _⟩; first | (refine opv_pickf rfl ?_ rfl; (next => (first | rfl))) | fail)
     | fail)))
    | refine ar_unwanted' rfl rfl rfl rfl ?_
    | refine ar_seq ?_
    | (refine arE ?_; refine ar_endM [0, 1, 2, 6, 7, 8, 17, 28, 35] rfl ?_)
    | refine ar_region ?_
    | refine ar_block ?_
    | (refine arC (.cond _ _ _) ?_; first | (refine ar_cond_true rfl ?_ ?_; (next => (first | rfl))) | (refine ar_cond_false rfl ?_ ?_; (next => (first | rfl))) | fail)
    | fail)
  refine ar_eff rfl rfl (eff_call (Hp := [(k, (rowsL (a :: l)).flatten ++ sp)]) (Hr := []) (insert_a k (l.length + 1) c i ((rowsL (a :: l)).flatten ++ sp) [.v (.string (mkB nm)), .v (.string (mkB v))] ?_ ?_ hi (by omega) ?_ rfl (rowsL_ok [⟨nm, v⟩] _ (List.mem_singleton.2 rfl)).2) (.cons (.rd rfl ?_ rfl) (.cons (.rd rfl (Le1.refl _) rfl) (.cons (.rd rfl (Le1.rd _ _ _) rfl) .nil))) (fun i j r hi hj => oneSome_spec (ρs := [none, none, none]) rfl i j r r hi hj) (fun _ _ hh => by simp at hh) (fun k cs hk => hk) (fun k cs hk => by simp [look_nil] at hk) rfl ?_)
  · rw [List.length_append, rowsL_len]; rw [List.length_map] at hc; simp only [List.length_cons]; omega
  · rw [List.length_map] at hc; omega
  · rw [show l.length + 1 = (a :: l).length from rfl, rowsL_take _ _ (Nat.le_refl _), List.take_length]
    exact (rowsL_ok (a :: l)).flat
  · rw [List.length_map]; exact Le1.refl _
  rintro _ H ⟨k', c', sp', rfl, hk', hc'⟩
  refine ⟨_, rfl, ?_⟩
  rw [show l.length + 1 = (a :: l).length from rfl, rowsL_take _ _ hi, rowsL_drop _ _ hi] at hk'
  repeat (first | ((first | apply ar_un); (next => (first | (simp only [go_sem, Nat.reduceBEq, Nat.reduceEqDiff, reduceIte, reduceCtorEq, String.reduceEq, Nat.reduceAdd, Int.reduceToNat]; exact rfl)))) | (apply ar_op' rfl rfl rfl rfl; (next => (first | (refine evalE_ok (T := TT) rfl ?_; (first | exact trivial)) | fail))) | (refine arE ?_; refine ar_endM [0, 1, 2, 6, 7, 8, 17, 28, 35] rfl ?_) | fail | fail)
  have hfl : (rowsL ((a :: l).take i ++ ⟨nm, v⟩ :: (a :: l).drop i)).flatten = (rowsL (List.take i (a :: l))).flatten ++ [AV.v (.string (mkB nm)), AV.v (.string (mkB v))] ++ (rowsL (List.drop i (a :: l))).flatten := by
    simp [rowsL]
  have hll : ((a :: l).take i ++ (⟨nm, v⟩ : VLabel) :: (a :: l).drop i).length = l.length + 1 + 1 := by
    rw [List.length_append, List.length_cons, List.length_take, List.length_drop, List.length_cons]; omega
  rw [← hfl] at hk'
  have hbl : ((rowsL ((a :: l).take i ++ ⟨nm, v⟩ :: (a :: l).drop i)).flatten ++ sp').length = c' * 2 := by
    rw [List.length_append, rowsL_len, hll]; exact hc'
  refine ar_ghost ?_ (fun F X tm hs => SimE.claim (k := k') (d := 6) (L := rowsL ((a :: l).take i ++ ⟨nm, v⟩ :: (a :: l).drop i)) hs rfl hk' (isMpB_even hbl) (by rw [← hll]; simp [rowsL]) (fun r hr => (rowsL_ok _ r hr).1) rfl hbl (by omega))
  repeat (first | ((first | apply stk_un); (next => (first | (simp only [go_sem, Nat.reduceBEq, Nat.reduceEqDiff, reduceIte, reduceCtorEq, String.reduceEq, Nat.reduceAdd, Int.reduceToNat]; exact rfl)))) | (refine arC .ret ?_; refine ar_retM0 [6] ?_) | refine stk_c_ret ?_ | refine stk_b_ret ?_ | refine stk_nil ?_ | fail)
  exact ⟨_, rfl, rfl, rfl⟩
end Go.Proofs.YtgmlkhfjhogdbaaGreat

/- labels.Set: a label taken out. -/
namespace Go.Proofs.YtgmlkhfjhogdbaaGreat
open Go.RowKit P
set_option linter.unusedSimpArgs false
set_option linter.unusedVariables false
attribute [local irreducible] AS.nf OpV ARun Stk QSem QSemA ACalls EffOp AppOk SrcOk Awp Aops NSem CSem
set_option maxHeartbeats 2000000
set_option maxRecDepth 100000 in
/-- Set of a name that is there to nothing. -/
theorem set_del {N : Nat} (a : VLabel) (l : List VLabel) (nm : List UInt8) (i : Nat) (hi : i < l.length + 1) (hl : l.length < 400000) (h : labels_find N (a :: l) nm = some ((i : Int), true)) :
    ACalls Tryz.prog 20 [.sl false 2 (rowsL (a :: l)), .v (.string (mkB nm)), .v (.string (mkB []))] [] (fun out H => out = .ret (.sl true 2 (rowsL ((a :: l).take i ++ (a :: l).drop (i + 1)))) ∧ H = []) := by
  have hf := find_a (a :: l) nm h
  refine acalls_enter _ 46 [.tmp 6] Tryz.func20 (by kernel_rfl) rfl rfl rfl rfl ?_
  dsimp only [slotsOf]
  repeat (first
    | ((first | apply ar_un); (next => (first | (simp only [go_sem, Nat.reduceBEq, Nat.reduceEqDiff, reduceIte, reduceCtorEq, String.reduceEq, Nat.reduceAdd, Int.reduceToNat]; exact rfl))))
    | (apply ar_op' rfl rfl rfl rfl; (next => (first | (refine evalE_ok (T := TT) rfl ?_; (first | exact trivial)) | fail)))
    | (refine arO _ ?_; first
     | (refine arO ⟨_, .move _, _, _, _, _⟩ ?_; first | refine ar_move_sl rfl rfl rfl rfl ?_ | fail)
     | (refine arO ⟨_, .call { callee := .value _, args := _, argTypes := _ }, _, _, _, _⟩ ?_; first
      | (apply ar_callM0 rfl (hf) rfl rfl; (next => (repeat (first | exact PArgs.nil | (apply PArgs.cons; (next => (first | exact PArg.rd rfl (Le1.refl _) rfl)))))); (next => rfl); (next => rfl); rintro _ _ ⟨rfl, rfl⟩; refine ⟨_, rfl, ?_⟩)
      | fail)
     | fail)
    | refine ar_seq ?_
    | (refine arE ?_; refine ar_endM [0, 1, 2, 6, 7, 8, 17, 28, 35] rfl ?_)
    | refine ar_region ?_
    | fail)
  have hl : l.length < 1000000 := by omega
  refine ar_eff rfl rfl (eff_call (Hp := []) (Hr := []) (clone_a _ _ (by simpa [rowsL] using hl) (rowsL_ok (a :: l))) (.cons (.rd rfl (Le1.refl _) rfl) .nil) (fun i j r hi hj => oneSome_spec (ρs := [none]) rfl i j r r hi hj) (fun _ _ _ => rfl) (fun k cs hk => by simp [look_nil] at hk) (fun k cs hk => by simp [look_nil] at hk) rfl ?_)
  rintro _ _ ⟨k, c, sp, rfl, rfl, hc⟩
  refine ⟨_, rfl, ?_⟩
  repeat (first
    | ((first | apply ar_un); (next => (first | (simp only [go_sem, Nat.reduceBEq, Nat.reduceEqDiff, reduceIte, reduceCtorEq, String.reduceEq, Nat.reduceAdd, Int.reduceToNat]; exact rfl))))
    | (apply ar_op' rfl rfl rfl rfl; (next => (first
     | (refine evalE_ok (T := TT) rfl ?_; (first | exact trivial | omega))
     | (apply opk ⟨_, .binOp .eql _ _ _ _, _, _, _, _⟩; first | (refine opv_seq_t rfl rfl rfl ?_; (next => (first | rfl))) | fail)
     | (apply opk ⟨_, .pick _ _ _, _, _, _, _⟩; first | (refine opv_pickt rfl ?_ rfl; (next => (first | rfl))) | fail)
     | fail)))
    | refine ar_seq ?_
    | (refine arE ?_; refine ar_endM [0, 1, 2, 6, 7, 8, 17, 28, 35] rfl ?_)
    | refine ar_region ?_
    | refine ar_block ?_
    | (refine arC (.cond _ _ _) ?_; first | (refine ar_cond_true rfl ?_ ?_; (next => (first | rfl))) | fail)
    | fail)
  rw [List.length_map] at hc
  refine ar_eff rfl rfl (eff_call (Hp := [(k, (rowsL (a :: l)).flatten ++ sp)]) (Hr := []) (delete_a k (l.length + 1) c i (i + 1) ((rowsL (a :: l)).flatten ++ sp) ?_ ?_ (by omega) (by omega) (by omega) ?_) (.cons (.rd rfl ?_ rfl) (.cons (.rd rfl (Le1.refl _) rfl) (.cons (.rd rfl ?_ rfl) .nil))) (fun i j r hi hj => oneSome_spec (ρs := [none, none, none]) rfl i j r r hi hj) (fun _ _ hh => by simp at hh) (fun k cs hk => hk) (fun k cs hk => by simp [look_nil] at hk) rfl ?_)
  · rw [List.length_append, rowsL_len]; simp only [List.length_cons]; omega
  · omega
  · rw [show l.length + 1 = (a :: l).length from rfl, rowsL_take _ _ (Nat.le_refl _), List.take_length]
    exact (rowsL_ok (a :: l)).flat
  · rw [List.length_map]; exact Le1.refl _
  · exact Le1.refl _
  rintro _ H ⟨rfl, hk'⟩
  refine ⟨_, rfl, ?_⟩
  rw [show l.length + 1 = (a :: l).length from rfl, delC_rows (a :: l) sp (by simpa using hi)] at hk'
  repeat (first | ((first | apply ar_un); (next => (first | (simp only [go_sem, Nat.reduceBEq, Nat.reduceEqDiff, reduceIte, reduceCtorEq, String.reduceEq, Nat.reduceAdd, Int.reduceToNat]; exact rfl)))) | (apply ar_op' rfl rfl rfl rfl; (next => (first | (refine evalE_ok (T := TT) rfl ?_; (first | exact trivial)) | fail))) | (refine arE ?_; refine ar_endM [0, 1, 2, 6, 7, 8, 17, 28, 35] rfl ?_) | fail | fail)
  have hll : ((a :: l).take i ++ (a :: l).drop (i + 1)).length = l.length := by
    rw [List.length_append, List.length_take, List.length_drop, List.length_cons]; omega
  have hbl : ((rowsL ((a :: l).take i ++ (a :: l).drop (i + 1))).flatten ++ ((Builtin.zeroCells (Value.agg #[.string ⟨#[]⟩, .string ⟨#[]⟩]).cells 1).toList.map AV.v ++ sp)).length = c * 2 := by
    have hz : (Builtin.zeroCells (Value.agg #[.string ⟨#[]⟩, .string ⟨#[]⟩]).cells 1).toList.length = 1 * 2 := by rw [Array.length_toList, zc_len]
    rw [List.length_append, rowsL_len, hll, List.length_append, List.length_map, hz]; omega
  refine ar_ghost ?_ (fun F X tm hs => SimE.claim (k := k) (d := 6) (L := rowsL ((a :: l).take i ++ (a :: l).drop (i + 1))) hs rfl hk' (isMpB_even hbl) (by rw [show l.length + 1 - (i + 1 - i) = l.length by omega, ← hll]; simp [rowsL]) (fun r hr => (rowsL_ok _ r hr).1) rfl hbl (by omega))
  repeat (first | ((first | apply stk_un); (next => (first | (simp only [go_sem, Nat.reduceBEq, Nat.reduceEqDiff, reduceIte, reduceCtorEq, String.reduceEq, Nat.reduceAdd, Int.reduceToNat]; exact rfl)))) | (refine arC .ret ?_; refine ar_retM0 [6] ?_) | refine stk_c_ret ?_ | refine stk_b_ret ?_ | refine stk_nil ?_ | fail)
  exact ⟨_, rfl, rfl, rfl⟩
end Go.Proofs.YtgmlkhfjhogdbaaGreat

/- labels.Set: a value put in the place of another. -/
namespace Go.Proofs.YtgmlkhfjhogdbaaGreat
open Go.RowKit P
set_option linter.unusedSimpArgs false
set_option linter.unusedVariables false
theorem put_rows (l : List VLabel) (sp : List AV) (v : List UInt8) {i : Nat} (hi : i < l.length) : splice ((rowsL l).flatten ++ sp) (i * 2 + 1) [.v (.string (mkB v))] = (rowsL (l.take i ++ ⟨l[i].Name, v⟩ :: l.drop (i + 1))).flatten ++ sp := by
  have h : (rowsL l).flatten ++ sp = (rowsL (l.take i)).flatten ++ [.v (.string (mkB l[i].Name))] ++ [.v (.string (mkB l[i].Value))] ++ ((rowsL (l.drop (i + 1))).flatten ++ sp) := by
    have h1 : rowsL l = rowsL (l.take i) ++ (rowsL [l[i]] ++ rowsL (l.drop (i + 1))) := by
      simp only [rowsL, ← List.map_append]
      congr 1
      rw [List.singleton_append, List.getElem_cons_drop, List.take_append_drop]
    rw [h1]; simp [rowsL]
  have hA := rowsL_len (l.take i)
  rw [List.length_take, Nat.min_eq_left (by omega)] at hA
  rw [h, splice_mid (M := [.v (.string (mkB l[i].Value))]) (U := [.v (.string (mkB v))]) (by rw [List.length_append, hA]; rfl) rfl]
  simp [rowsL]
attribute [local irreducible] AS.nf OpV ARun Stk QSem QSemA ACalls EffOp AppOk SrcOk Awp Aops NSem CSem
set_option maxHeartbeats 2000000
set_option maxRecDepth 100000 in
/-- Set of a name that is there. -/
theorem set_put {N : Nat} (a : VLabel) (l : List VLabel) (nm v : List UInt8) (i : Nat) (hi : i < (a :: l).length) (hl : l.length < 400000) (h : labels_find N (a :: l) nm = some ((i : Int), true)) (hv : v ≠ []) :
    ACalls Tryz.prog 20 [.sl false 2 (rowsL (a :: l)), .v (.string (mkB nm)), .v (.string (mkB v))] [] (fun out H => out = .ret (.sl true 2 (rowsL ((a :: l).take i ++ ⟨((a :: l)[i]).Name, v⟩ :: (a :: l).drop (i + 1)))) ∧ H = []) := by
  have hf := find_a (a :: l) nm h
  have hve : (decide (mkB v = ⟨#[]⟩)) = false := decide_eq_false fun e => hv (by have := congrArg (fun b => b.data.toList) e; simpa [mkB] using this)
  have hi2 : i < l.length + 1 := hi
  refine acalls_enter _ 46 [.tmp 6] Tryz.func20 (by kernel_rfl) rfl rfl rfl rfl ?_
  dsimp only [slotsOf]
  repeat (first
    | ((first | apply ar_un); (next => (first | (simp only [go_sem, Nat.reduceBEq, Nat.reduceEqDiff, reduceIte, reduceCtorEq, String.reduceEq, Nat.reduceAdd, Int.reduceToNat]; exact rfl))))
    | (apply ar_op' rfl rfl rfl rfl; (next => (first | (refine evalE_ok (T := TT) rfl ?_; (first | exact trivial)) | fail)))
    | (refine arO _ ?_; first
     | (refine arO ⟨_, .move _, _, _, _, _⟩ ?_; first | refine ar_move_sl rfl rfl rfl rfl ?_ | fail)
     | (refine arO ⟨_, .call { callee := .value _, args := _, argTypes := _ }, _, _, _, _⟩ ?_; first
      | (apply ar_callM0 rfl (hf) rfl rfl; (next => (repeat (first | exact PArgs.nil | (apply PArgs.cons; (next => (first | exact PArg.rd rfl (Le1.refl _) rfl)))))); (next => rfl); (next => rfl); rintro _ _ ⟨rfl, rfl⟩; refine ⟨_, rfl, ?_⟩)
      | fail)
     | fail)
    | refine ar_seq ?_
    | (refine arE ?_; refine ar_endM [0, 1, 2, 6, 7, 8, 17, 28, 35] rfl ?_)
    | refine ar_region ?_
    | fail)
  have hl : l.length < 1000000 := by omega
  refine ar_eff rfl rfl (eff_call (Hp := []) (Hr := []) (clone_a _ _ (by simpa [rowsL] using hl) (rowsL_ok (a :: l))) (.cons (.rd rfl (Le1.refl _) rfl) .nil) (fun i j r hi hj => oneSome_spec (ρs := [none]) rfl i j r r hi hj) (fun _ _ _ => rfl) (fun k cs hk => by simp [look_nil] at hk) (fun k cs hk => by simp [look_nil] at hk) rfl ?_)
  rintro _ _ ⟨k, c, sp, rfl, rfl, hc⟩
  refine ⟨_, rfl, ?_⟩
  rw [List.length_map] at hc ⊢
  repeat (first
    | ((first | apply ar_un); (next => (first | (simp only [go_sem, Nat.reduceBEq, Nat.reduceEqDiff, reduceIte, reduceCtorEq, String.reduceEq, Nat.reduceAdd, Int.reduceToNat]; exact rfl))))
    | (apply ar_op' rfl rfl rfl rfl; (next => (first | exact opv_indexaddr_box (T := TT) rfl rfl rfl rfl (by omega) (by omega) | exact opv_field_box (T := TT) rfl rfl rfl rfl rfl | fail)))
    | (apply ar_op' rfl rfl rfl rfl; (next => (first
     | (refine evalE_ok (T := TT) rfl ?_; (first | exact trivial))
     | (apply opk ⟨_, .binOp .eql _ _ _ _, _, _, _, _⟩; first | (refine opv_seq_f rfl rfl rfl ?_; (next => (first | assumption))) | fail)
     | (apply opk ⟨_, .pick _ _ _, _, _, _, _⟩; first | (refine opv_pickt rfl ?_ rfl; (next => (first | rfl))) | fail)
     | fail)))
    | refine ar_seq ?_
    | (refine arE ?_; refine ar_endM [0, 1, 2, 6, 7, 8, 17, 28, 35] rfl ?_)
    | refine ar_region ?_
    | refine ar_block ?_
    | (refine arC (.cond _ _ _) ?_; first | (refine ar_cond_true rfl ?_ ?_; (next => (first | rfl))) | (refine ar_cond_false rfl ?_ ?_; (next => (first | rfl))) | fail)
    | fail)
  have e' := put_rows (a :: l) sp v hi
  have hcl : ((rowsL (a :: l)).flatten ++ sp).length = c * 2 := by
    rw [List.length_append, rowsL_len]; simp only [List.length_cons]; omega
  refine ar_eff rfl rfl (eff_store (T := TT) (n := 1) (cs := (rowsL (a :: l)).flatten ++ sp) rfl (look_h _ _ _) rfl rfl rfl rfl rfl (by intro u hu; simp [AV.rd, AV.cells] at hu; subst hu; rfl) (Nat.ble_eq_true_of_le ?_) ?_ (isMpB_even hcl))
  · rw [hcl]; show 0 + ((i : Nat) : Int).toNat * 2 + 1 + 1 ≤ c * 2; omega
  repeat (first | ((first | apply ar_un); (next => (first | (simp only [go_sem, Nat.reduceBEq, Nat.reduceEqDiff, reduceIte, reduceCtorEq, String.reduceEq, Nat.reduceAdd, Int.reduceToNat]; exact rfl)))) | (apply ar_op' rfl rfl rfl rfl; (next => (first | (refine evalE_ok (T := TT) rfl ?_; (first | exact trivial)) | fail))) | refine ar_seq ?_ | (refine arE ?_; refine ar_endM [0, 1, 2, 6, 7, 8, 17, 28, 35] rfl ?_) | refine ar_region ?_ | refine ar_blk ?_ | refine ar_dedup rfl ?_ | fail | fail)
  have hll : ((a :: l).take i ++ (⟨((a :: l)[i]).Name, v⟩ : VLabel) :: (a :: l).drop (i + 1)).length = l.length + 1 := by
    rw [List.length_append, List.length_cons, List.length_take, List.length_drop, List.length_cons]; omega
  have hbl : ((rowsL ((a :: l).take i ++ ⟨((a :: l)[i]).Name, v⟩ :: (a :: l).drop (i + 1))).flatten ++ sp).length = c * 2 := by
    rw [List.length_append, rowsL_len, hll]; exact hc
  refine ar_ghost ?_ (fun F X tm hs => SimE.claim (k := k) (d := 6) (L := rowsL ((a :: l).take i ++ ⟨((a :: l)[i]).Name, v⟩ :: (a :: l).drop (i + 1))) hs rfl ((look_h _ _ _).trans (congrArg some e')) (isMpB_even hbl) (by rw [← hll]; simp [rowsL]) (fun r hr => (rowsL_ok _ r hr).1) rfl hbl (by omega))
  repeat (first | ((first | apply stk_un); (next => (first | (simp only [go_sem, Nat.reduceBEq, Nat.reduceEqDiff, reduceIte, reduceCtorEq, String.reduceEq, Nat.reduceAdd, Int.reduceToNat]; exact rfl)))) | (refine arC .ret ?_; refine ar_retM0 [6] ?_) | refine stk_nil ?_ | fail)
  exact ⟨_, rfl, rfl, rfl⟩
end Go.Proofs.YtgmlkhfjhogdbaaGreat

/- labels.Set: nothing put where nothing is. -/
namespace Go.Proofs.YtgmlkhfjhogdbaaGreat
open Go.RowKit P
set_option linter.unusedSimpArgs false
set_option linter.unusedVariables false
theorem SimE.cl0 {F : Nat → Prop} {X : GW} {σ : AS} {tm : Array Value} {d sz : Nat} (h : SimE F X σ tm) (hd : look σ.t d = some (.cl sz [])) : SimE F X ⟨σ.n, [(d, .sl false sz [])], [], []⟩ tm := by
  have hown : ∀ r s l, (⟨σ.n, [(d, .sl false sz [])], [], []⟩ : AS).own r = some (s, l) → False := fun r s l ho => by
    cases r with
    | s t =>
      simp only [AS.own, look_cons, look_nil] at ho
      by_cases ht : t = d
      · rw [if_pos ht] at ho; simp [own1] at ho
      · rw [if_neg ht] at ho; simp [own1] at ho
    | c k o => simp [AS.own, look_nil] at ho
  refine ⟨⟨h.size, h.gb, h.fb, fun t u hu => ?_, fun k cs hk => by simp [look_nil] at hk, fun x r hx => by simp [look_nil] at hx, fun r s l ho => (hown r s l ho).elim, fun r r' s1 l1 s2 l2 a n1 c1 a' n2 c2 hne ho => (hown r s1 l1 ho).elim⟩, fun p hp => by cases hp⟩
  rw [look_cons] at hu
  by_cases ht : t = d
  · rw [if_pos ht] at hu; cases hu
    have hr := h.slot d _ hd
    rw [ht]
    generalize tm.getD d undef = v at hr
    cases hr with
    | cl _ _ ad n hr => exact hr
  · rw [if_neg ht] at hu; simp [look_nil] at hu
attribute [local irreducible] AS.nf OpV ARun Stk QSem QSemA ACalls EffOp AppOk SrcOk Awp Aops NSem CSem
set_option maxHeartbeats 2000000
set_option maxRecDepth 100000 in
/-- Set of a name that is not there to nothing. -/
theorem set_same {N : Nat} (a : VLabel) (l : List VLabel) (nm : List UInt8) (i : Int) (hl : l.length < 400000) (h : labels_find N (a :: l) nm = some (i, false)) :
    ACalls Tryz.prog 20 [.sl false 2 (rowsL (a :: l)), .v (.string (mkB nm)), .v (.string (mkB []))] [] (fun out H => out = .ret (.sl true 2 (rowsL (a :: l))) ∧ H = []) := by
  have hf := find_a (a :: l) nm h
  refine acalls_enter _ 46 [.tmp 6] Tryz.func20 (by kernel_rfl) rfl rfl rfl rfl ?_
  dsimp only [slotsOf]
  repeat (first
    | ((first | apply ar_un); (next => (first | (simp only [go_sem, Nat.reduceBEq, Nat.reduceEqDiff, reduceIte, reduceCtorEq, String.reduceEq, Nat.reduceAdd, Int.reduceToNat]; exact rfl))))
    | (apply ar_op' rfl rfl rfl rfl; (next => (first | (refine evalE_ok (T := TT) rfl ?_; (first | exact trivial)) | fail)))
    | (refine arO _ ?_; first
     | (refine arO ⟨_, .move _, _, _, _, _⟩ ?_; first | refine ar_move_sl rfl rfl rfl rfl ?_ | fail)
     | (refine arO ⟨_, .call { callee := .value _, args := _, argTypes := _ }, _, _, _, _⟩ ?_; first
      | (apply ar_callM0 rfl (hf) rfl rfl; (next => (repeat (first | exact PArgs.nil | (apply PArgs.cons; (next => (first | exact PArg.rd rfl (Le1.refl _) rfl)))))); (next => rfl); (next => rfl); rintro _ _ ⟨rfl, rfl⟩; refine ⟨_, rfl, ?_⟩)
      | fail)
     | fail)
    | refine ar_seq ?_
    | (refine arE ?_; refine ar_endM [0, 1, 2, 6, 7, 8, 17, 28, 35] rfl ?_)
    | refine ar_region ?_
    | fail)
  have hl : l.length < 1000000 := by omega
  refine ar_eff rfl rfl (eff_call (Hp := []) (Hr := []) (clone_a _ _ (by simpa [rowsL] using hl) (rowsL_ok (a :: l))) (.cons (.rd rfl (Le1.refl _) rfl) .nil) (fun i j r hi hj => oneSome_spec (ρs := [none]) rfl i j r r hi hj) (fun _ _ _ => rfl) (fun k cs hk => by simp [look_nil] at hk) (fun k cs hk => by simp [look_nil] at hk) rfl ?_)
  rintro _ _ ⟨k, c, sp, rfl, rfl, hc⟩
  refine ⟨_, rfl, ?_⟩
  rw [List.length_map] at hc ⊢
  repeat (first
    | ((first | apply ar_un); (next => (first | (simp only [go_sem, Nat.reduceBEq, Nat.reduceEqDiff, reduceIte, reduceCtorEq, String.reduceEq, Nat.reduceAdd, Int.reduceToNat]; exact rfl))))
    | (apply ar_op' rfl rfl rfl rfl; (next => (first
     | (refine evalE_ok (T := TT) rfl ?_; (first | exact trivial))
     | (apply opk ⟨_, .binOp .neq _ _ _ _, _, _, _, _⟩; first | (refine opv_sne_f rfl rfl rfl ?_; (next => (first | rfl))) | fail)
     | (apply opk ⟨_, .pick _ _ _, _, _, _, _⟩; first | (refine opv_pickf rfl ?_ rfl; (next => (first | rfl))) | fail)
     | fail)))
    | refine ar_unwanted' rfl rfl rfl rfl ?_
    | refine ar_seq ?_
    | (refine arE ?_; refine ar_endM [0, 1, 2, 6, 7, 8, 17, 28, 35] rfl ?_)
    | refine ar_region ?_
    | refine ar_block ?_
    | refine ar_skip ?_
    | refine ar_blk ?_
    | (refine arC (.cond _ _ _) ?_; first | (refine ar_cond_false rfl ?_ ?_; (next => (first | rfl))) | fail)
    | fail
    | fail)
  have hbl : ((rowsL (a :: l)).flatten ++ sp).length = c * 2 := by
    rw [List.length_append, rowsL_len]; simp only [List.length_cons]; omega
  refine ar_ghost ?_ (fun F X tm hs => SimE.claim (k := k) (d := 6) (L := rowsL (a :: l)) hs rfl (look_h _ _ _) (isMpB_even hbl) (by simp [rowsL]) (fun r hr => (rowsL_ok _ r hr).1) rfl hbl (by omega))
  repeat (first | ((first | apply stk_un); (next => (first | (simp only [go_sem, Nat.reduceBEq, Nat.reduceEqDiff, reduceIte, reduceCtorEq, String.reduceEq, Nat.reduceAdd, Int.reduceToNat]; exact rfl)))) | (refine arC .ret ?_; refine ar_retM0 [6] ?_) | refine stk_nil ?_ | fail)
  exact ⟨_, rfl, rfl, rfl⟩
set_option maxHeartbeats 2000000
set_option maxRecDepth 100000 in
theorem set_none0 {N : Nat} (nm : List UInt8) {i : Int} (h : labels_find N [] nm = some (i, false)) :
    ACalls Tryz.prog 20 [.sl false 2 [], .v (.string (mkB nm)), .v (.string (mkB []))] [] (fun out H => out = .ret (.sl false 2 (rowsL [])) ∧ H = []) := by
  have hf := find_a [] nm h
  refine acalls_enter _ 46 [.tmp 6] Tryz.func20 (by kernel_rfl) rfl rfl rfl rfl ?_
  dsimp only [slotsOf]
  repeat (first
    | ((first | apply ar_un); (next => (first | (simp only [go_sem, Nat.reduceBEq, Nat.reduceEqDiff, reduceIte, reduceCtorEq, String.reduceEq, Nat.reduceAdd, Int.reduceToNat]; exact rfl))))
    | (apply ar_op' rfl rfl rfl rfl; (next => (first | (refine evalE_ok (T := TT) rfl ?_; (first | exact trivial)) | fail)))
    | (refine arO _ ?_; first
     | (refine arO ⟨_, .move _, _, _, _, _⟩ ?_; first | refine ar_move_sl rfl rfl rfl rfl ?_ | fail)
     | (refine arO ⟨_, .call { callee := .value _, args := _, argTypes := _ }, _, _, _, _⟩ ?_; first
      | (apply ar_callM0 rfl (hf) rfl rfl; (next => (repeat (first | exact PArgs.nil | (apply PArgs.cons; (next => (first | exact PArg.rd rfl (Le1.refl _) rfl)))))); (next => rfl); (next => rfl); rintro _ _ ⟨rfl, rfl⟩; refine ⟨_, rfl, ?_⟩)
      | fail)
     | fail)
    | refine ar_seq ?_
    | (refine arE ?_; refine ar_endM [0, 1, 2, 6, 7, 8, 17, 28, 35] rfl ?_)
    | refine ar_region ?_
    | fail)
  refine ar_eff rfl rfl (eff_call (Hp := []) (Hr := []) clone0_a (.cons (.rd rfl (Le1.refl _) rfl) .nil) (fun i j r hi hj => oneSome_spec (ρs := [none]) rfl i j r r hi hj) (fun _ _ _ => rfl) (fun k cs hk => by simp [look_nil] at hk) (fun k cs hk => by simp [look_nil] at hk) rfl ?_)
  rintro _ _ ⟨u, rfl, hu, rfl⟩
  refine ⟨_, rfl, ?_⟩
  rcases hu with rfl | rfl
  · repeat (first
    | ((first | apply ar_un); (next => (first | (simp only [go_sem, Nat.reduceBEq, Nat.reduceEqDiff, reduceIte, reduceCtorEq, String.reduceEq, Nat.reduceAdd, Int.reduceToNat]; exact rfl))))
    | (apply ar_op' rfl rfl rfl rfl; (next => (first
     | (refine evalE_ok (T := TT) rfl ?_; (first | exact trivial))
     | (apply opk ⟨_, .binOp .neq _ _ _ _, _, _, _, _⟩; first | (refine opv_sne_f rfl rfl rfl ?_; (next => (first | rfl))) | fail)
     | (apply opk ⟨_, .pick _ _ _, _, _, _, _⟩; first | (refine opv_pickf rfl ?_ rfl; (next => (first | rfl))) | fail)
     | fail)))
    | refine ar_unwanted' rfl rfl rfl rfl ?_
    | refine ar_seq ?_
    | (refine arE ?_; refine ar_endM [0, 1, 2, 6, 7, 8, 17, 28, 35] rfl ?_)
    | refine ar_region ?_
    | refine ar_block ?_
    | refine ar_skip ?_
    | refine ar_blk ?_
    | (refine arC (.cond _ _ _) ?_; first | (refine ar_cond_false rfl ?_ ?_; (next => (first | rfl))) | fail)
    | fail
    | fail)
    refine ar_le (σ' := ⟨46, [(6, .sl false 2 [])], [], []⟩) ⟨rfl, ?_, ?_, rfl⟩ ?_
    · (repeat' (first | exact trivial | refine ⟨⟨_, rfl, ?_⟩, ?_⟩ | exact .nil _ _))
    · (repeat' (first | exact trivial))
    repeat (first | ((first | apply stk_un); (next => (first | (simp only [go_sem, Nat.reduceBEq, Nat.reduceEqDiff, reduceIte, reduceCtorEq, String.reduceEq, Nat.reduceAdd, Int.reduceToNat]; exact rfl)))) | (refine arC .ret ?_; refine ar_retM0 [6] ?_) | refine stk_nil ?_ | fail)
    exact ⟨_, rfl, rfl, rfl⟩
  · repeat (first
    | ((first | apply ar_un); (next => (first | (simp only [go_sem, Nat.reduceBEq, Nat.reduceEqDiff, reduceIte, reduceCtorEq, String.reduceEq, Nat.reduceAdd, Int.reduceToNat]; exact rfl))))
    | (apply ar_op' rfl rfl rfl rfl; (next => (first
     | (refine evalE_ok (T := TT) rfl ?_; (first | exact trivial))
     | (apply opk ⟨_, .binOp .neq _ _ _ _, _, _, _, _⟩; first | (refine opv_sne_f rfl rfl rfl ?_; (next => (first | rfl))) | fail)
     | (apply opk ⟨_, .pick _ _ _, _, _, _, _⟩; first | (refine opv_pickf rfl ?_ rfl; (next => (first | rfl))) | fail)
     | fail)))
    | refine ar_unwanted' rfl rfl rfl rfl ?_
    | refine ar_seq ?_
    | (refine arE ?_; refine ar_endM [0, 1, 2, 6, 7, 8, 17, 28, 35] rfl ?_)
    | refine ar_region ?_
    | refine ar_block ?_
    | refine ar_skip ?_
    | refine ar_blk ?_
    | (refine arC (.cond _ _ _) ?_; first | (refine ar_cond_false rfl ?_ ?_; (next => (first | rfl))) | fail)
    | fail
    | fail)
    refine ar_sub ?_ (fun F X tm hs => SimE.cl0 (d := 6) hs rfl)
    repeat (first | ((first | apply stk_un); (next => (first | (simp only [go_sem, Nat.reduceBEq, Nat.reduceEqDiff, reduceIte, reduceCtorEq, String.reduceEq, Nat.reduceAdd, Int.reduceToNat]; exact rfl)))) | (refine arC .ret ?_; refine ar_retM0 [6] ?_) | refine stk_nil ?_ | fail)
    exact ⟨_, rfl, rfl, rfl⟩
end Go.Proofs.YtgmlkhfjhogdbaaGreat

/- labels.Set, as a callee. -/
namespace Go.Proofs.YtgmlkhfjhogdbaaGreat
open Go.RowKit P
set_option linter.unusedSimpArgs false
set_option linter.unusedVariables false
theorem acalls_rd {P : Program} {f : FuncId} {us : List AV} {o : Bool} {sz : Nat} {l : List (List AV)} (h : ACalls P f us [] (fun out H => out = .ret (.sl o sz l) ∧ H = [])) : ACalls P f us [] (fun out H => out = .ret (.sl false sz l) ∧ H = []) :=
  ⟨h.1, fun F X vs hs => (h.2 F X vs hs).mono fun e w' ⟨X', out, H', h1, ⟨h2, h3⟩, h4, h5⟩ => by
    subst h2
    subst h3
    obtain ⟨v, k1, k2⟩ := h4
    exact ⟨X', _, [], h1, ⟨rfl, rfl⟩, ⟨v, k1, k2.le ⟨rfl, ⟨⟨_, look_hd, .rd _ _ _⟩, trivial⟩, trivial, rfl⟩⟩, h5⟩⟩
/-- What Set answers, with the place of the name and whether it is there. -/
def setL (l : List VLabel) (nm v : List UInt8) (i : Nat) (ok : Bool) : List VLabel := match ok with
  | true => if v = [] then l.take i ++ l.drop (i + 1) else l.take i ++ ⟨(l.getD i ⟨[], []⟩).Name, v⟩ :: l.drop (i + 1)
  | false => if v = [] then l else l.take i ++ ⟨nm, v⟩ :: l.drop i
def b2n : Bool → Nat
  | true => 1
  | false => 0
def labels_Set (N : Nat) (l : List VLabel) (nm v : List UInt8) : Option (List VLabel) := match labels_find N l nm with
  | none => none
  | some (i, ok) => if 0 ≤ i ∧ i.toNat + b2n ok ≤ l.length ∧ l.length < 400000 then some (setL l nm v i.toNat ok) else none
attribute [local irreducible] ACalls
theorem set_call {N : Nat} (l : List VLabel) (nm v : List UInt8) {r : List VLabel} (h : labels_Set N l nm v = some r) : ACalls Tryz.prog 20 [.sl false 2 (rowsL l), .v (.string (mkB nm)), .v (.string (mkB v))] [] (fun out H => out = .ret (.sl false 2 (rowsL r)) ∧ H = []) := by
  unfold labels_Set at h
  split at h
  · cases h
  · rename_i i ok hf
    split at h
    · rename_i hi
      obtain ⟨h0, h1, h2⟩ := hi
      cases h
      obtain ⟨n, rfl⟩ := Int.eq_ofNat_of_zero_le h0
      rw [Int.toNat_natCast] at h1 ⊢
      cases ok with
      | true =>
        simp only [b2n] at h1
        cases l with
        | nil => simp at h1
        | cons a l =>
          simp only [List.length_cons] at h1 h2
          by_cases hv : v = []
          · subst hv
            have := acalls_rd (set_del a l nm n (by omega) (by omega) hf)
            simpa only [setL, if_true] using this
          · have hn : n < (a :: l).length := by simp only [List.length_cons]; omega
            have := acalls_rd (set_put a l nm v n hn (by omega) hf hv)
            simp only [setL, if_neg hv, List.getD_eq_getElem?_getD, List.getElem?_eq_getElem hn, Option.getD_some]
            exact this
      | false =>
        simp only [b2n] at h1
        cases l with
        | nil =>
          have hn : n = 0 := by simpa using h1
          subst hn
          by_cases hv : v = []
          · subst hv
            have e : setL ([] : List VLabel) nm [] 0 false = [] := by simp only [setL, if_true]
            rw [e]
            exact set_none0 nm hf
          · have := acalls_rd (set_none nm v hf hv)
            simp only [setL, if_neg hv, List.take_nil, List.drop_nil, List.nil_append]
            exact this
        | cons a l =>
          simp only [List.length_cons] at h1 h2
          by_cases hv : v = []
          · subst hv
            have := acalls_rd (set_same a l nm _ (by omega) hf)
            simpa only [setL, if_true] using this
          · have := acalls_rd (set_ins a l nm v n (by omega) (by omega) hf hv)
            simp only [setL, if_neg hv]
            exact this
    · cases h
def labels_Set_u (r : List VLabel) : TV EE.T := .a (.d (.sl (.nam 2)) r)
def labels_Set_h (N : Nat) : List (TV EE.T) → PV EE.T
  | [u0, u1, u2] => match argD (.sl (.nam 2)) u0, argD .str u1, argD .str u2 with
    | some x0, some x1, some x2 => .opt (labels_Set N x0 x1 x2) labels_Set_u
    | _, _, _ => .bad
  | _ => .bad
theorem labels_Set_hok (N : Nat) (us : List (TV EE.T)) : (labels_Set_h N us).ok fun u => ∀ ρ, ACalls Tryz.prog 20 (us.map (TV.to EE.toEnc ρ)) [] (fun out H => out = .ret (u.to EE.toEnc ρ) ∧ H = []) := by
  unfold labels_Set_h
  split
  · split
    · rename_i u0 u1 u2 _ _ _ x0 x1 x2 h0 h1 h2
      intro z hz ρ
      refine acalls_le (us' := ([.a (.d (.sl (.nam 2)) x0), .a (.d .str x1), .a (.d .str x2)] : List (TV EE.T))) ⟨argD_le h0 ρ, argD_le h1 ρ, argD_le h2 ρ, trivial⟩ ?_
      exact set_call x0 x1 x2 hz
    · trivial
  · trivial
end Go.Proofs.YtgmlkhfjhogdbaaGreat

/- Plain functions, written by gen/tgl.py out of the program. -/
namespace Go.Proofs.YtgmlkhfjhogdbaaGreat
open Go.RowKit P
set_option linter.unusedVariables false
set_option linter.unusedSimpArgs false
set_option maxRecDepth 100000
/-! ### gleaner/labels.With -/
def labels_With (N : Nat) (x0 : List VLabel) (x1 : List UInt8) (x2 : List UInt8) : Option ((List VLabel) × Int) :=
  (labels_check N ([x0] : List (List VLabel))).bind fun z1 =>
  bif z1 != 0 then
    some (([] : List VLabel), z1)
  else
    (labels_IsName N x1).bind fun z2 =>
    bif !z2 then
      some (([] : List VLabel), 1)
    else
      bif decide ((x2.length : Int) > 100) then
        some (([] : List VLabel), 2)
      else
        (labels_Set N x0 x1 x2).bind fun z3 =>
        bif decide ((z3.length : Int) > 20) then
          some (([] : List VLabel), 2)
        else
          some (z3, 0)
/-! ### gleaner/labels.sum -/
def labels_sum_L2 (N : Nat) : Nat → Int → (List UInt8) → Int → Int → Option Int
  | 0, _, _, _, _ => none
  | n + 1, x0, x10, x11, x12 =>
    bif decide (x12 < x11) then
      (idxC x10 x12).bind fun z2 =>
      labels_sum_L2 N n (IntKind.wrap .u64 ((bits .xor .u64 x0 (IntKind.wrap .u64 (b2i z2))) * 1099511628211)) x10 x11 (w64 (x12 + 1))
    else
      some x0
def labels_sum (N : Nat) (x0 : Int) (x1 : List UInt8) : Option Int :=
  (appC 1 x1 ([255] : List UInt8)).bind fun z1 =>
  labels_sum_L2 N N x0 z1 (z1.length : Int) 0
/-! ### gleaner/labels.RawSum -/
def labels_RawSum_L3 (N : Nat) : Nat → Int → (List VLabel) → Int → Int → Option Int
  | 0, _, _, _, _ => none
  | n + 1, x3, x6, x7, x8 =>
    bif decide (x8 < x7) then
      (idxC x6 x8).bind fun z1 =>
      (labels_sum N x3 z1.Name).bind fun z2 =>
      (labels_sum N z2 z1.Value).bind fun z3 =>
      labels_RawSum_L3 N n z3 x6 x7 (w64 (x8 + 1))
    else
      some x3
def labels_RawSum (N : Nat) (x0 : List VLabel) : Option Int :=
  labels_RawSum_L3 N N 14695981039346656037 x0 (x0.length : Int) 0
/-! ### gleaner/labels.Sum -/
def labels_Sum (N : Nat) (x0 : List VLabel) : Option (Int × Int) :=
  (labels_check N ([x0] : List (List VLabel))).bind fun z1 =>
  bif z1 != 0 then
    some (0, z1)
  else
    (labels_RawSum N x0).bind fun z2 =>
    some (z2, 0)
/-! ### gleaner/gleanerlaw.labelsBegun -/
def law_labelsBegun (N : Nat) : Option Bool :=
  (labels_Text N ([({ Name := ([95, 95, 110, 97, 109, 101, 95, 95] : List UInt8), Value := ([117, 112] : List UInt8) } : VLabel), ({ Name := ([106, 111, 98] : List UInt8), Value := ([120] : List UInt8) } : VLabel)] : List VLabel)).bind fun z1 =>
  (labels_Sum N ([] : List VLabel)).bind fun z2 =>
  bif z1.2 == 0 then
    bif decide (z1.1 = ([117, 112, 123, 106, 111, 98, 61, 34, 120, 34, 125] : List UInt8)) then
      bif z2.2 == 0 then
        some (z2.1 == 14695981039346656037)
      else
        some false
    else
      some false
  else
    some false
/-! ### gleaner/gleanerlaw.LabelsWith -/
def law_LabelsWith_R13 (N : Nat) (n : Nat) (x7 : List VLabel) (x8 : Int) (x9 : Int) (x10 : List VLabel) : Option Bool :=
  (law_labelsBegun N).bind fun z5 =>
  bif z5 then
    (law_labelsAre N x7 x8 x9 x10).bind fun z6 =>
    some z6
  else
    some false
def law_LabelsWith_R8 (N : Nat) (n : Nat) (x0 : List VLabel) (x1 : List UInt8) (x2 : List UInt8) (x7 : List VLabel) (x8 : Int) (x9 : Int) : Option Bool :=
  bif x9 == 0 then
    (ref_PutLabel N x0 x1 x2).bind fun z4 =>
    bif decide ((z4.length : Int) > 20) then
      law_LabelsWith_R13 N n x7 x8 2 z4
    else
      law_LabelsWith_R13 N n x7 x8 x9 z4
  else
    law_LabelsWith_R13 N n x7 x8 x9 ([] : List VLabel)
def law_LabelsWith (N : Nat) (x0 : List VLabel) (x1 : List UInt8) (x2 : List UInt8) : Option Bool :=
  (labels_With N x0 x1 x2).bind fun z1 =>
  (ref_CheckLabels N x0).bind fun z2 =>
  bif z2 != 0 then
    law_LabelsWith_R8 N N x0 x1 x2 z1.1 z1.2 z2
  else
    (ref_IsName N x1).bind fun z3 =>
    bif !z3 then
      law_LabelsWith_R8 N N x0 x1 x2 z1.1 z1.2 1
    else
      bif decide ((x2.length : Int) > 100) then
        law_LabelsWith_R8 N N x0 x1 x2 z1.1 z1.2 2
      else
        law_LabelsWith_R8 N N x0 x1 x2 z1.1 z1.2 z2
/-! ### gleaner/gleanerlaw.LabelsBack -/
def law_LabelsBack (N : Nat) (x0 : List VLabel) (x1 : List UInt8) (x2 : List UInt8) (x3 : List UInt8) : Option Bool :=
  (law_labelsBegun N).bind fun z1 =>
  bif !z1 then
    some false
  else
    (labels_Get N x0 x1).bind fun z2 =>
    bif z2.2 != 0 then
      some true
    else
      (labels_With N x0 x1 ([] : List UInt8)).bind fun z3 =>
      (labels_With N z3.1 x1 z2.1).bind fun z4 =>
      bif z3.2 != 0 then
        some false
      else
        bif z4.2 != 0 then
          some false
        else
          (ref_SameLabels N z4.1 x0).bind fun z5 =>
          bif !z5 then
            some false
          else
            (labels_With N x0 x1 x2).bind fun z6 =>
            bif z6.2 != 0 then
              some true
            else
              (labels_Get N z6.1 x1).bind fun z7 =>
              bif z7.2 != 0 then
                some false
              else
                bif !decide (z7.1 = x2) then
                  some false
                else
                  (labels_Check N z6.1).bind fun z8 =>
                  bif z8 != 0 then
                    some false
                  else
                    (labels_Get N x0 x3).bind fun z9 =>
                    (labels_Get N z6.1 x3).bind fun z10 =>
                    bif z9.2 == z10.2 then
                      bif decide (x3 = x1) then
                        some true
                      else
                        some (decide (z9.1 = z10.1))
                    else
                      some false
end Go.Proofs.YtgmlkhfjhogdbaaGreat
