-- slim: written by gen/slim.py from XFF01.f.lean.tpl
/- The walks that prove plain functions right, written by gen/tgl.py. -/
import Derived.Test.YtgmlkhfjhogdbaaFF01p
import Derived.Test.YtgmlkhfjhogdbaaIN2
namespace Go.Proofs.Ytgmlkhfjhogdbaa
open Go.RowKit P
set_option linter.unusedVariables false
set_option linter.unusedSimpArgs false
set_option maxRecDepth 100000
/-! ### gleaner/labels.each -/
def labels_each_u (r : Int) : TV EE.T := .a (.d (.int .i64) r)
def w36enc (r : Int) : RL EE.T := .ret (labels_each_u r) []
def w36lv : Lvs := ⟨[(9, ⟨[(0, false), (1, false), (6, false), (13, false), (14, false), (15, false)], [], [(6, (some 2, []))]⟩)], [(4, ⟨[(0, false), (1, false), (13, false), (14, false), (15, false)], [], []⟩), (14, ⟨[(7, false), (38, false), (39, false), (40, false)], [], [(37, (none, []))]⟩)], [9], [], false, [], []⟩
def w36rs : List ResultVar := [.tmp 4]
def w36G (N : Nat) : Gam EE := ⟨[⟨48, labels_IsName_h N⟩], EQT, [], []⟩
theorem w36Gok (N : Nat) : GOk Try.prog TT EE (w36G N) := GOk.cons (labels_IsName_hok N) (GOk.nil EQT_ok)
def w36kR9 (c : Code) : List It2 := atR 9 c
def w36sR9 (x0 : List VLabel) (x1 : Bool) (x13 : List VLabel) (x14 : Int) (x15 : Int) (b6 : VLabel) : TS EE.T := ⟨52, [(0, .a (.d (.sl (.nam 2)) x0)), (1, .a (.d .bool x1)), (6, .a (.box 6 0)), (13, .a (.d (.sl (.nam 2)) x13)), (14, .a (.d (.int .i64) x14)), (15, .a (.d (.int .i64) x15))], [(6, .cs (unpT EE (.nam 2) b6))], []⟩
def w36kL14 (c : Code) : List It2 := atL 14 c
def w36sL14 (x38 : List VLabel) (x39 : Int) (x40 : Int) (b37 : List (List UInt8 × Bool)) : TS EE.T := ⟨52, [(7, .a (.mpr 37)), (38, .a (.d (.sl (.nam 2)) x38)), (39, .a (.d (.int .i64) x39)), (40, .a (.d (.int .i64) x40))], [(37, .smap .bool b37)], []⟩
def w36kL4 (c : Code) : List It2 := atL 4 c
def w36sL4 (x0 : List VLabel) (x1 : Bool) (x13 : List VLabel) (x14 : Int) (x15 : Int) : TS EE.T := ⟨52, [(0, .a (.d (.sl (.nam 2)) x0)), (1, .a (.d .bool x1)), (13, .a (.d (.sl (.nam 2)) x13)), (14, .a (.d (.int .i64) x14)), (15, .a (.d (.int .i64) x15))], [], []⟩
def w36kE0 (c : Code) : List It2 := [.c c]
def w36sE0 (x0 : List VLabel) (x1 : Bool) : TS EE.T := ⟨52, [(0, .a (.d (.sl (.nam 2)) x0)), (1, .a (.d .bool x1))], [], []⟩
def w36TR9 (c : Code) (N : Nat) (k4 : (List VLabel) → Bool → (List VLabel) → Int → Int → Option Int) (n : Nat) (x0 : List VLabel) (x1 : Bool) (x13 : List VLabel) (x14 : Int) (x15 : Int) (b6 : VLabel) : Tree (Lf EE.T × Option Int) :=
  .cond (decide ((b6.Value.length : Int) > 100))
  (
    .leaf (.done (w36enc 2), some 2))
  (
    .leaf (.go (w36kL4 c) (w36sL4 x0 x1 x13 x14 (w64 (x15 + 1))), k4 x0 x1 x13 x14 (w64 (x15 + 1))))
theorem w36vR9 (N : Nat) (k4 : (List VLabel) → Bool → (List VLabel) → Int → Int → Option Int) (n : Nat) (x0 : List VLabel) (x1 : Bool) (x13 : List VLabel) (x14 : Int) (x15 : Int) (b6 : VLabel) : evM TT EE (w36G N) w36lv w36rs 4000 true (w36kR9 (bodyOf 0 Try.f36)) (w36sR9 x0 x1 x13 x14 x15 b6) = (w36TR9 (bodyOf 0 Try.f36) N k4 n x0 x1 x13 x14 x15 b6).map1 := by kernel_rfl
theorem w36nR9 (N : Nat) (k4 : (List VLabel) → Bool → (List VLabel) → Int → Int → Option Int) (n : Nat) (x0 : List VLabel) (x1 : Bool) (x13 : List VLabel) (x14 : Int) (x15 : Int) (b6 : VLabel) : labels_each_R9 N k4 n x0 x1 x13 x14 x15 b6 = (w36TR9 (bodyOf 0 Try.f36) N k4 n x0 x1 x13 x14 x15 b6).run := by kernel_rfl
theorem w36oR9 {N : Nat} {r : Int} {k4 : (List VLabel) → Bool → (List VLabel) → Int → Int → Option Int} (hk4 : ∀ x0 x1 x13 x14 x15, k4 x0 x1 x13 x14 x15 = some r → Ends (Y := TT) EE (w36G N) w36lv w36rs (fun u => u = w36enc r) (w36kL4 (bodyOf 0 Try.f36)) (w36sL4 x0 x1 x13 x14 x15)) (n : Nat) (x0 : List VLabel) (x1 : Bool) (x13 : List VLabel) (x14 : Int) (x15 : Int) (b6 : VLabel) (h : labels_each_R9 N k4 n x0 x1 x13 x14 x15 b6 = some r) : Ends (Y := TT) EE (w36G N) w36lv w36rs (fun u => u = w36enc r) (w36kR9 (bodyOf 0 Try.f36)) (w36sR9 x0 x1 x13 x14 x15 b6) :=
  tree_use (w36vR9 N k4 n x0 x1 x13 x14 x15 b6) (w36nR9 N k4 n x0 x1 x13 x14 x15 b6) h (show (w36TR9 (bodyOf 0 Try.f36) N k4 n x0 x1 x13 x14 x15 b6).all _ from ⟨retp (enc := w36enc) rfl, fun h => hk4 _ _ _ _ _ h⟩)
def w36TL14 (c : Code) (N : Nat) (n : Nat) (x38 : List VLabel) (x39 : Int) (x40 : Int) (b37 : List (List UInt8 × Bool)) : Tree (Lf EE.T × Option Int) :=
  .cond (decide (x40 < x39))
  (
    .bnd (idxC x38 x40) fun z3 =>
    .cond ((mget b37 z3.Name).getD false)
    (
      .leaf (.done (w36enc 6), some 6))
    (
      .leaf (.go (w36kL14 c) (w36sL14 x38 x39 (w64 (x40 + 1)) (mset b37 z3.Name true)), labels_each_L14 N n x38 x39 (w64 (x40 + 1)) (mset b37 z3.Name true))))
  (
    .leaf (.done (w36enc 0), some 0))
theorem w36vL14 (N : Nat) (n : Nat) (x38 : List VLabel) (x39 : Int) (x40 : Int) (b37 : List (List UInt8 × Bool)) : evM TT EE (w36G N) w36lv w36rs 4000 true (w36kL14 (bodyOf 0 Try.f36)) (w36sL14 x38 x39 x40 b37) = (w36TL14 (bodyOf 0 Try.f36) N n x38 x39 x40 b37).map1 := by kernel_rfl
theorem w36nL14 (N : Nat) (n : Nat) (x38 : List VLabel) (x39 : Int) (x40 : Int) (b37 : List (List UInt8 × Bool)) : labels_each_L14 N (n + 1) x38 x39 x40 b37 = (w36TL14 (bodyOf 0 Try.f36) N n x38 x39 x40 b37).run := by kernel_rfl
theorem w36oL14 {N : Nat} {r : Int} : ∀ (n : Nat) (x38 : List VLabel) (x39 : Int) (x40 : Int) (b37 : List (List UInt8 × Bool)), labels_each_L14 N n x38 x39 x40 b37 = some r → Ends (Y := TT) EE (w36G N) w36lv w36rs (fun u => u = w36enc r) (w36kL14 (bodyOf 0 Try.f36)) (w36sL14 x38 x39 x40 b37)
  | 0, _, _, _, _, h => by cases h
  | n + 1, x38, x39, x40, b37, h => tree_use (w36vL14 N n x38 x39 x40 b37) (w36nL14 N n x38 x39 x40 b37) h (show (w36TL14 (bodyOf 0 Try.f36) N n x38 x39 x40 b37).all _ from ⟨fun _ => ⟨retp (enc := w36enc) rfl, fun h => (w36oL14 n) _ _ _ _ h⟩, retp (enc := w36enc) rfl⟩)
def w36TL4 (c : Code) (N : Nat) (n : Nat) (x0 : List VLabel) (x1 : Bool) (x13 : List VLabel) (x14 : Int) (x15 : Int) : Tree (Lf EE.T × Option Int) :=
  .cond (decide (x15 < x14))
  (
    .bnd (idxC x13 x15) fun z1 =>
    .bnd (labels_IsName N z1.Name) fun z2 =>
    .cond (!z2)
    (
      .leaf (.done (w36enc 1), some 1))
    (
      .cond (decide (z1.Value = ([] : List UInt8)))
      (
        .cond (!x1)
        (
          .leaf (.done (w36enc 1), some 1))
        (
          .leaf (.go (w36kR9 c) (w36sR9 x0 x1 x13 x14 x15 z1), labels_each_R9 N (labels_each_L4 N n) n x0 x1 x13 x14 x15 z1)))
      (
        .leaf (.go (w36kR9 c) (w36sR9 x0 x1 x13 x14 x15 z1), labels_each_R9 N (labels_each_L4 N n) n x0 x1 x13 x14 x15 z1))))
  (
    .leaf (.go (w36kL14 c) (w36sL14 x0 (x0.length : Int) 0 ([] : List (List UInt8 × Bool))), labels_each_L14 N n x0 (x0.length : Int) 0 ([] : List (List UInt8 × Bool))))
theorem w36vL4 (N : Nat) (n : Nat) (x0 : List VLabel) (x1 : Bool) (x13 : List VLabel) (x14 : Int) (x15 : Int) : evM TT EE (w36G N) w36lv w36rs 4000 true (w36kL4 (bodyOf 0 Try.f36)) (w36sL4 x0 x1 x13 x14 x15) = (w36TL4 (bodyOf 0 Try.f36) N n x0 x1 x13 x14 x15).map1 := by kernel_rfl
theorem w36nL4 (N : Nat) (n : Nat) (x0 : List VLabel) (x1 : Bool) (x13 : List VLabel) (x14 : Int) (x15 : Int) : labels_each_L4 N (n + 1) x0 x1 x13 x14 x15 = (w36TL4 (bodyOf 0 Try.f36) N n x0 x1 x13 x14 x15).run := by kernel_rfl
theorem w36oL4 {N : Nat} {r : Int} : ∀ (n : Nat) (x0 : List VLabel) (x1 : Bool) (x13 : List VLabel) (x14 : Int) (x15 : Int), labels_each_L4 N n x0 x1 x13 x14 x15 = some r → Ends (Y := TT) EE (w36G N) w36lv w36rs (fun u => u = w36enc r) (w36kL4 (bodyOf 0 Try.f36)) (w36sL4 x0 x1 x13 x14 x15)
  | 0, _, _, _, _, _, h => by cases h
  | n + 1, x0, x1, x13, x14, x15, h => tree_use (w36vL4 N n x0 x1 x13 x14 x15) (w36nL4 N n x0 x1 x13 x14 x15) h (show (w36TL4 (bodyOf 0 Try.f36) N n x0 x1 x13 x14 x15).all _ from ⟨fun _ => fun _ => ⟨retp (enc := w36enc) rfl, ⟨⟨retp (enc := w36enc) rfl, fun h => w36oR9 (w36oL4 n) n _ _ _ _ _ _ h⟩, fun h => w36oR9 (w36oL4 n) n _ _ _ _ _ _ h⟩⟩, fun h => w36oL14 n _ _ _ _ h⟩)
def w36TE0 (c : Code) (N : Nat) (x0 : List VLabel) (x1 : Bool) : Tree (Lf EE.T × Option Int) :=
  .cond (decide ((x0.length : Int) > 20))
  (
    .leaf (.done (w36enc 2), some 2))
  (
    .leaf (.go (w36kL4 c) (w36sL4 x0 x1 x0 (x0.length : Int) 0), labels_each_L4 N N x0 x1 x0 (x0.length : Int) 0))
theorem w36vE0 (N : Nat) (x0 : List VLabel) (x1 : Bool) : evM TT EE (w36G N) w36lv w36rs 4000 true (w36kE0 (bodyOf 0 Try.f36)) (w36sE0 x0 x1) = (w36TE0 (bodyOf 0 Try.f36) N x0 x1).map1 := by kernel_rfl
theorem w36nE0 (N : Nat) (x0 : List VLabel) (x1 : Bool) : labels_each N x0 x1 = (w36TE0 (bodyOf 0 Try.f36) N x0 x1).run := by kernel_rfl
theorem w36oE0 {N : Nat} {r : Int} (x0 : List VLabel) (x1 : Bool) (h : labels_each N x0 x1 = some r) : Ends (Y := TT) EE (w36G N) w36lv w36rs (fun u => u = w36enc r) (w36kE0 (bodyOf 0 Try.f36)) (w36sE0 x0 x1) :=
  tree_use (w36vE0 N x0 x1) (w36nE0 N x0 x1) h (show (w36TE0 (bodyOf 0 Try.f36) N x0 x1).all _ from ⟨retp (enc := w36enc) rfl, fun h => w36oL4 N _ _ _ _ _ h⟩)
theorem labels_each_ok {N : Nat} (x0 : List VLabel) (x1 : Bool) {r : Int} (h : labels_each N x0 x1 = some r) (ρ : Nat → Nat) : ACalls Try.prog 36 (([.a (.d (.sl (.nam 2)) x0), .a (.d .bool x1)] : List (TV EE.T)).map (TV.to EE.toEnc ρ)) [] (fun out H => out = .ret ((labels_each_u r).to EE.toEnc ρ) ∧ H = []) :=
  (fn_ok (bodyOf 0 Try.f36) 52 mixed (w36Gok N) Try.func36 (by kernel_rfl) rfl rfl rfl rfl (w36oE0 x0 x1 h) ρ).mono fun out H h => KPost.ret rfl h
def labels_each_h (N : Nat) : List (TV EE.T) → PV EE.T
  | [u0, u1] => match argD (.sl (.nam 2)) u0, argD .bool u1 with
    | some x0, some x1 => .opt (labels_each N x0 x1) labels_each_u
    | _, _ => .bad
  | _ => .bad
theorem labels_each_hok (N : Nat) (us : List (TV EE.T)) : (labels_each_h N us).ok fun u => ∀ ρ, ACalls Try.prog 36 (us.map (TV.to EE.toEnc ρ)) [] (fun out H => out = .ret (u.to EE.toEnc ρ) ∧ H = []) := by
  unfold labels_each_h
  split
  · split
    · rename_i h0 h1
      intro z hz ρ; refine acalls_le ?_ (labels_each_ok _ _ hz ρ); exact ⟨argD_le h0 ρ, argD_le h1 ρ, trivial⟩
    · trivial
  · trivial
/-! ### cmp.isNaN[string] -/
def cmp_isNaN_string__u (r : Bool) : TV EE.T := .a (.d .bool r)
def w47enc (r : Bool) : RL EE.T := .ret (cmp_isNaN_string__u r) []
def w47lv : Lvs := ⟨[], [], [], [], false, [], []⟩
def w47rs : List ResultVar := [.tmp 2]
def w47G (N : Nat) : Gam EE := ⟨[], EQT, [], []⟩
theorem w47Gok (N : Nat) : GOk Try.prog TT EE (w47G N) := GOk.nil EQT_ok
def w47kE0 (c : Code) : List It2 := [.c c]
def w47sE0 (x0 : List UInt8) : TS EE.T := ⟨6, [(0, .a (.d .str x0))], [], []⟩
def w47TE0 (c : Code) (N : Nat) (x0 : List UInt8) : Tree (Lf EE.T × Option Bool) :=
  .leaf (.done (w47enc (!decide (x0 = x0))), some (!decide (x0 = x0)))
theorem w47vE0 (N : Nat) (x0 : List UInt8) : evM TT EE (w47G N) w47lv w47rs 4000 true (w47kE0 (bodyOf 0 Try.f47)) (w47sE0 x0) = (w47TE0 (bodyOf 0 Try.f47) N x0).map1 := by kernel_rfl
theorem w47nE0 (N : Nat) (x0 : List UInt8) : cmp_isNaN_string_ N x0 = (w47TE0 (bodyOf 0 Try.f47) N x0).run := by kernel_rfl
theorem w47oE0 {N : Nat} {r : Bool} (x0 : List UInt8) (h : cmp_isNaN_string_ N x0 = some r) : Ends (Y := TT) EE (w47G N) w47lv w47rs (fun u => u = w47enc r) (w47kE0 (bodyOf 0 Try.f47)) (w47sE0 x0) :=
  tree_use (w47vE0 N x0) (w47nE0 N x0) h (show (w47TE0 (bodyOf 0 Try.f47) N x0).all _ from retp (enc := w47enc) rfl)
theorem cmp_isNaN_string__ok {N : Nat} (x0 : List UInt8) {r : Bool} (h : cmp_isNaN_string_ N x0 = some r) (ρ : Nat → Nat) : ACalls Try.prog 47 (([.a (.d .str x0)] : List (TV EE.T)).map (TV.to EE.toEnc ρ)) [] (fun out H => out = .ret ((cmp_isNaN_string__u r).to EE.toEnc ρ) ∧ H = []) :=
  (fn_ok (bodyOf 0 Try.f47) 6 mixed (w47Gok N) Try.func47 (by kernel_rfl) rfl rfl rfl rfl (w47oE0 x0 h) ρ).mono fun out H h => KPost.ret rfl h
def cmp_isNaN_string__h (N : Nat) : List (TV EE.T) → PV EE.T
  | [u0] => match argD .str u0 with
    | some x0 => .opt (cmp_isNaN_string_ N x0) cmp_isNaN_string__u
    | _ => .bad
  | _ => .bad
theorem cmp_isNaN_string__hok (N : Nat) (us : List (TV EE.T)) : (cmp_isNaN_string__h N us).ok fun u => ∀ ρ, ACalls Try.prog 47 (us.map (TV.to EE.toEnc ρ)) [] (fun out H => out = .ret (u.to EE.toEnc ρ) ∧ H = []) := by
  unfold cmp_isNaN_string__h
  split
  · split
    · rename_i h0
      intro z hz ρ; refine acalls_le ?_ (cmp_isNaN_string__ok _ hz ρ); exact ⟨argD_le h0 ρ, trivial⟩
    · trivial
  · trivial
/-! ### cmp.Compare[string] -/
def cmp_Compare_string__u (r : Int) : TV EE.T := .a (.d (.int .i64) r)
def w35enc (r : Int) : RL EE.T := .ret (cmp_Compare_string__u r) []
def w35lv : Lvs := ⟨[], [], [], [], false, [], []⟩
def w35rs : List ResultVar := [.tmp 4]
def w35G (N : Nat) : Gam EE := ⟨[⟨47, cmp_isNaN_string__h N⟩], EQT, [], []⟩
theorem w35Gok (N : Nat) : GOk Try.prog TT EE (w35G N) := GOk.cons (cmp_isNaN_string__hok N) (GOk.nil EQT_ok)
def w35kE0 (c : Code) : List It2 := [.c c]
def w35sE0 (x0 : List UInt8) (x1 : List UInt8) : TS EE.T := ⟨20, [(0, .a (.d .str x0)), (1, .a (.d .str x1))], [], []⟩
def w35TE0 (c : Code) (N : Nat) (x0 : List UInt8) (x1 : List UInt8) : Tree (Lf EE.T × Option Int) :=
  .bnd (cmp_isNaN_string_ N x0) fun z1 =>
  .bnd (cmp_isNaN_string_ N x1) fun z2 =>
  .cond (z1)
  (
    .cond (z2)
    (
      .leaf (.done (w35enc 0), some 0))
    (
      .leaf (.done (w35enc (-1)), some (-1))))
  (
    .cond (z2)
    (
      .leaf (.done (w35enc 1), some 1))
    (
      .cond (Op.bytesLess x0 x1)
      (
        .leaf (.done (w35enc (-1)), some (-1)))
      (
        .cond (!(Op.bytesLess x0 x1 || decide (x0 = x1)))
        (
          .leaf (.done (w35enc 1), some 1))
        (
          .leaf (.done (w35enc 0), some 0)))))
theorem w35vE0 (N : Nat) (x0 : List UInt8) (x1 : List UInt8) : evM TT EE (w35G N) w35lv w35rs 4000 true (w35kE0 (bodyOf 0 Try.f35)) (w35sE0 x0 x1) = (w35TE0 (bodyOf 0 Try.f35) N x0 x1).map1 := by kernel_rfl
theorem w35nE0 (N : Nat) (x0 : List UInt8) (x1 : List UInt8) : cmp_Compare_string_ N x0 x1 = (w35TE0 (bodyOf 0 Try.f35) N x0 x1).run := by kernel_rfl
theorem w35oE0 {N : Nat} {r : Int} (x0 : List UInt8) (x1 : List UInt8) (h : cmp_Compare_string_ N x0 x1 = some r) : Ends (Y := TT) EE (w35G N) w35lv w35rs (fun u => u = w35enc r) (w35kE0 (bodyOf 0 Try.f35)) (w35sE0 x0 x1) :=
  tree_use (w35vE0 N x0 x1) (w35nE0 N x0 x1) h (show (w35TE0 (bodyOf 0 Try.f35) N x0 x1).all _ from fun _ => fun _ => ⟨⟨retp (enc := w35enc) rfl, retp (enc := w35enc) rfl⟩, ⟨retp (enc := w35enc) rfl, ⟨retp (enc := w35enc) rfl, ⟨retp (enc := w35enc) rfl, retp (enc := w35enc) rfl⟩⟩⟩⟩)
theorem cmp_Compare_string__ok {N : Nat} (x0 : List UInt8) (x1 : List UInt8) {r : Int} (h : cmp_Compare_string_ N x0 x1 = some r) (ρ : Nat → Nat) : ACalls Try.prog 35 (([.a (.d .str x0), .a (.d .str x1)] : List (TV EE.T)).map (TV.to EE.toEnc ρ)) [] (fun out H => out = .ret ((cmp_Compare_string__u r).to EE.toEnc ρ) ∧ H = []) :=
  (fn_ok (bodyOf 0 Try.f35) 20 mixed (w35Gok N) Try.func35 (by kernel_rfl) rfl rfl rfl rfl (w35oE0 x0 x1 h) ρ).mono fun out H h => KPost.ret rfl h
def cmp_Compare_string__h (N : Nat) : List (TV EE.T) → PV EE.T
  | [u0, u1] => match argD .str u0, argD .str u1 with
    | some x0, some x1 => .opt (cmp_Compare_string_ N x0 x1) cmp_Compare_string__u
    | _, _ => .bad
  | _ => .bad
theorem cmp_Compare_string__hok (N : Nat) (us : List (TV EE.T)) : (cmp_Compare_string__h N us).ok fun u => ∀ ρ, ACalls Try.prog 35 (us.map (TV.to EE.toEnc ρ)) [] (fun out H => out = .ret (u.to EE.toEnc ρ) ∧ H = []) := by
  unfold cmp_Compare_string__h
  split
  · split
    · rename_i h0 h1
      intro z hz ρ; refine acalls_le ?_ (cmp_Compare_string__ok _ _ hz ρ); exact ⟨argD_le h0 ρ, argD_le h1 ρ, trivial⟩
    · trivial
  · trivial
/-! ### gleaner/labels.byName -/
def labels_byName_u (r : Int) : TV EE.T := .a (.d (.int .i64) r)
def w38enc (r : Int) : RL EE.T := .ret (labels_byName_u r) []
def w38lv : Lvs := ⟨[], [], [], [], false, [], []⟩
def w38rs : List ResultVar := [.tmp 4]
def w38G (N : Nat) : Gam EE := ⟨[⟨35, cmp_Compare_string__h N⟩], EQT, [], []⟩
theorem w38Gok (N : Nat) : GOk Try.prog TT EE (w38G N) := GOk.cons (cmp_Compare_string__hok N) (GOk.nil EQT_ok)
def w38kE0 (c : Code) : List It2 := [.c c]
def w38sE0 (x0 : VLabel) (x1 : VLabel) : TS EE.T := ⟨10, [(0, .ag (unpT EE (.nam 2) x0)), (1, .ag (unpT EE (.nam 2) x1))], [], []⟩
def w38TE0 (c : Code) (N : Nat) (x0 : VLabel) (x1 : VLabel) : Tree (Lf EE.T × Option Int) :=
  .bnd (cmp_Compare_string_ N x0.Name x1.Name) fun z1 =>
  .leaf (.done (w38enc z1), some z1)
theorem w38vE0 (N : Nat) (x0 : VLabel) (x1 : VLabel) : evM TT EE (w38G N) w38lv w38rs 4000 true (w38kE0 (bodyOf 0 Try.f38)) (w38sE0 x0 x1) = (w38TE0 (bodyOf 0 Try.f38) N x0 x1).map1 := by kernel_rfl
theorem w38nE0 (N : Nat) (x0 : VLabel) (x1 : VLabel) : labels_byName N x0 x1 = (w38TE0 (bodyOf 0 Try.f38) N x0 x1).run := by kernel_rfl
theorem w38oE0 {N : Nat} {r : Int} (x0 : VLabel) (x1 : VLabel) (h : labels_byName N x0 x1 = some r) : Ends (Y := TT) EE (w38G N) w38lv w38rs (fun u => u = w38enc r) (w38kE0 (bodyOf 0 Try.f38)) (w38sE0 x0 x1) :=
  tree_use (w38vE0 N x0 x1) (w38nE0 N x0 x1) h (show (w38TE0 (bodyOf 0 Try.f38) N x0 x1).all _ from fun _ => retp (enc := w38enc) rfl)
theorem labels_byName_ok {N : Nat} (x0 : VLabel) (x1 : VLabel) {r : Int} (h : labels_byName N x0 x1 = some r) (ρ : Nat → Nat) : ACalls Try.prog 38 (([.ag (unpT EE (.nam 2) x0), .ag (unpT EE (.nam 2) x1)] : List (TV EE.T)).map (TV.to EE.toEnc ρ)) [] (fun out H => out = .ret ((labels_byName_u r).to EE.toEnc ρ) ∧ H = []) :=
  (fn_ok (bodyOf 0 Try.f38) 10 mixed (w38Gok N) Try.func38 (by kernel_rfl) rfl rfl rfl rfl (w38oE0 x0 x1 h) ρ).mono fun out H h => KPost.ret rfl h
def labels_byName_h (N : Nat) : List (TV EE.T) → PV EE.T
  | [u0, u1] => match argS EE 2 u0, argS EE 2 u1 with
    | some x0, some x1 => .opt (labels_byName N x0 x1) labels_byName_u
    | _, _ => .bad
  | _ => .bad
theorem labels_byName_hok (N : Nat) (us : List (TV EE.T)) : (labels_byName_h N us).ok fun u => ∀ ρ, ACalls Try.prog 38 (us.map (TV.to EE.toEnc ρ)) [] (fun out H => out = .ret (u.to EE.toEnc ρ) ∧ H = []) := by
  unfold labels_byName_h
  split
  · split
    · rename_i h0 h1
      intro z hz ρ; refine acalls_le ?_ (labels_byName_ok _ _ hz ρ); exact ⟨argS_le h0 ρ, argS_le h1 ρ, trivial⟩
    · trivial
  · trivial
/-! ### slices.IsSortedFunc[[]gleaner/api.Label,gleaner/api.Label] -/
def slices_IsSortedFunc_api_Label_api_Label__i0_u (r : Bool) : TV EE.T := .a (.d .bool r)
def w37i0hh (r : Bool) : List (Nat × TB EE.T) := []
def w37i0enc (r : Bool) : RL EE.T := .ret (slices_IsSortedFunc_api_Label_api_Label__i0_u r) (w37i0hh r)
def w37i0lv : Lvs := ⟨[(4, ⟨[(0, false), (1, false), (5, false)], [], []⟩)], [(2, ⟨[(0, false), (1, false), (5, false)], [], []⟩)], [], [], false, [], []⟩
def w37i0rs : List ResultVar := [.tmp 4]
def w37i0G (N : Nat) : Gam EE := ⟨[⟨38, labels_byName_h N⟩], EQT, [], []⟩
theorem w37i0Gok (N : Nat) : GOk Try.prog TT EE (w37i0G N) := GOk.cons (labels_byName_hok N) (GOk.nil EQT_ok)
def w37i0kL2 (c : Code) : List It2 := atL 2 c
def w37i0sL2 (x0 : List VLabel) (x5 : Int) : TS EE.T := ⟨25, [(0, .a (.d (.sl (.nam 2)) x0)), (1, .fn 38 []), (5, .a (.d (.int .i64) x5))], [], []⟩
def w37i0kE0 (c : Code) : List It2 := [.c c]
def w37i0sE0 (x0 : List VLabel) : TS EE.T := ⟨25, [(0, .a (.d (.sl (.nam 2)) x0)), (1, .fn 38 [])], [], []⟩
def w37i0TL2 (c : Code) (N : Nat) (n : Nat) (x0 : List VLabel) (x5 : Int) : Tree (Lf EE.T × Option Bool) :=
  .cond (decide (x5 > 0))
  (
    .bnd (idxC x0 x5) fun z1 =>
    .bnd (idxC x0 (w64 (x5 - 1))) fun z2 =>
    .bnd (labels_byName N z1 z2) fun z3 =>
    .cond (decide (z3 < 0))
    (
      .leaf (.done (w37i0enc false), some false))
    (
      .leaf (.go (w37i0kL2 c) (w37i0sL2 x0 (w64 (x5 - 1))), slices_IsSortedFunc_api_Label_api_Label__i0_L2 N n x0 (w64 (x5 - 1)))))
  (
    .leaf (.done (w37i0enc true), some true))
theorem w37i0vL2 (N : Nat) (n : Nat) (x0 : List VLabel) (x5 : Int) : evM TT EE (w37i0G N) w37i0lv w37i0rs 4000 true (w37i0kL2 (bodyOf 0 Try.f37)) (w37i0sL2 x0 x5) = (w37i0TL2 (bodyOf 0 Try.f37) N n x0 x5).map1 := by kernel_rfl
theorem w37i0nL2 (N : Nat) (n : Nat) (x0 : List VLabel) (x5 : Int) : slices_IsSortedFunc_api_Label_api_Label__i0_L2 N (n + 1) x0 x5 = (w37i0TL2 (bodyOf 0 Try.f37) N n x0 x5).run := by kernel_rfl
theorem w37i0oL2 {N : Nat} {r : Bool} : ∀ (n : Nat) (x0 : List VLabel) (x5 : Int), slices_IsSortedFunc_api_Label_api_Label__i0_L2 N n x0 x5 = some r → Ends (Y := TT) EE (w37i0G N) w37i0lv w37i0rs (fun u => u = w37i0enc r) (w37i0kL2 (bodyOf 0 Try.f37)) (w37i0sL2 x0 x5)
  | 0, _, _, h => by cases h
  | n + 1, x0, x5, h => tree_use (w37i0vL2 N n x0 x5) (w37i0nL2 N n x0 x5) h (show (w37i0TL2 (bodyOf 0 Try.f37) N n x0 x5).all _ from ⟨fun _ => fun _ => fun _ => ⟨retp (enc := w37i0enc) rfl, fun h => (w37i0oL2 n) _ _ h⟩, retp (enc := w37i0enc) rfl⟩)
def w37i0TE0 (c : Code) (N : Nat) (x0 : List VLabel) : Tree (Lf EE.T × Option Bool) :=
  .leaf (.go (w37i0kL2 c) (w37i0sL2 x0 (w64 ((x0.length : Int) - 1))), slices_IsSortedFunc_api_Label_api_Label__i0_L2 N N x0 (w64 ((x0.length : Int) - 1)))
theorem w37i0vE0 (N : Nat) (x0 : List VLabel) : evM TT EE (w37i0G N) w37i0lv w37i0rs 4000 true (w37i0kE0 (bodyOf 0 Try.f37)) (w37i0sE0 x0) = (w37i0TE0 (bodyOf 0 Try.f37) N x0).map1 := by kernel_rfl
theorem w37i0nE0 (N : Nat) (x0 : List VLabel) : slices_IsSortedFunc_api_Label_api_Label__i0 N x0 = (w37i0TE0 (bodyOf 0 Try.f37) N x0).run := by kernel_rfl
theorem w37i0oE0 {N : Nat} {r : Bool} (x0 : List VLabel) (h : slices_IsSortedFunc_api_Label_api_Label__i0 N x0 = some r) : Ends (Y := TT) EE (w37i0G N) w37i0lv w37i0rs (fun u => u = w37i0enc r) (w37i0kE0 (bodyOf 0 Try.f37)) (w37i0sE0 x0) :=
  tree_use (w37i0vE0 N x0) (w37i0nE0 N x0) h (show (w37i0TE0 (bodyOf 0 Try.f37) N x0).all _ from fun h => w37i0oL2 N _ _ h)
def w37i0us (x0 : List VLabel) : List (TV EE.T) := [.a (.d (.sl (.nam 2)) x0), .fn 38 []]
def w37i0h0 (x0 : List VLabel) : List (Nat × TB EE.T) := []
theorem slices_IsSortedFunc_api_Label_api_Label__i0_ok {N : Nat} (x0 : List VLabel) {r : Bool} (h : slices_IsSortedFunc_api_Label_api_Label__i0 N x0 = some r) (ρ : Nat → Nat) (hi : Inj ρ (w37i0h0 x0)) : ACalls Try.prog 37 ((w37i0us x0).map (TV.to EE.toEnc ρ)) (hTo EE.toEnc ρ (w37i0h0 x0)) (fun out H => out = .ret ((slices_IsSortedFunc_api_Label_api_Label__i0_u r).to EE.toEnc ρ) ∧ H = hTo EE.toEnc ρ (w37i0hh r)) :=
  (fn_okH (bodyOf 0 Try.f37) 25 mixed (w37i0Gok N) Try.func37 (by kernel_rfl) rfl rfl rfl rfl (w37i0oE0 x0 h) ρ hi).mono fun out H h => KPost.retH rfl rfl h
def slices_IsSortedFunc_api_Label_api_Label__i0_h (N : Nat) (us : List (TV EE.T)) (hs : List (Nat × TB EE.T)) : XR EE.T :=
  gdX (lenX us 2) <|
  bnX (aD (.sl (.nam 2)) us 0) fun x0 =>
  bnX (aF 38 us 1) fun c1 =>
  bnX (cbs c1) fun s1 =>
  gdX (lenX s1 0) <|
  gdX (goodIds hs []) <|
  .ret (slices_IsSortedFunc_api_Label_api_Label__i0 N x0) [] slices_IsSortedFunc_api_Label_api_Label__i0_u (w37i0hh)
theorem slices_IsSortedFunc_api_Label_api_Label__i0_hok (N : Nat) : XOk Try.prog EE 37 (slices_IsSortedFunc_api_Label_api_Label__i0_h N) := fun us hs =>
  gdX_ok fun h1 => bnX_ok fun x0 h2 => bnX_ok fun c1 h3 => bnX_ok fun s1 h4 => gdX_ok fun h5 => gdX_ok fun h6 => fun z hz => ⟨rfl, fun ρ hi => xcall (us' := w37i0us x0) (h0 := w37i0h0 x0) (ρ' := rhoS ρ []) ⟨aD_le h2, aF_le (js := []) h3 h4 (by rw [lis0 (lenX_ok h5)];  kernel_rfl), lenX_ok h1⟩ trivial (slices_IsSortedFunc_api_Label_api_Label__i0_ok x0 hz _ (rhoS_inj hi h6 _ (by kernel_rfl))) (fun out H h => ⟨h.1.trans (by kernel_rfl), h.2.trans (by kernel_rfl)⟩)⟩
/-! ### gleaner/labels.Check -/
def labels_Check_u (r : Int) : TV EE.T := .a (.d (.int .i64) r)
def w24enc (r : Int) : RL EE.T := .ret (labels_Check_u r) []
def w24lv : Lvs := ⟨[], [], [], [], false, [], []⟩
def w24rs : List ResultVar := [.tmp 2]
def w24G (N : Nat) : Gam EE := ⟨[⟨36, labels_each_h N⟩], EQT, [⟨37, slices_IsSortedFunc_api_Label_api_Label__i0_h N⟩], []⟩
theorem w24Gok (N : Nat) : GOk Try.prog TT EE (w24G N) := GOk.cons (labels_each_hok N) (GOk.consx (slices_IsSortedFunc_api_Label_api_Label__i0_hok N) (GOk.nil EQT_ok))
def w24kE0 (c : Code) : List It2 := [.c c]
def w24sE0 (x0 : List VLabel) : TS EE.T := ⟨12, [(0, .a (.d (.sl (.nam 2)) x0))], [], []⟩
def w24TE0 (c : Code) (N : Nat) (x0 : List VLabel) : Tree (Lf EE.T × Option Int) :=
  .bnd (labels_each N x0 false) fun z1 =>
  .cond (z1 != 0)
  (
    .leaf (.done (w24enc z1), some z1))
  (
    .bnd (slices_IsSortedFunc_api_Label_api_Label__i0 N x0) fun z2 =>
    .cond (!z2)
    (
      .leaf (.done (w24enc 4), some 4))
    (
      .leaf (.done (w24enc 0), some 0)))
theorem w24vE0 (N : Nat) (x0 : List VLabel) : evM TT EE (w24G N) w24lv w24rs 4000 true (w24kE0 (bodyOf 0 Try.f24)) (w24sE0 x0) = (w24TE0 (bodyOf 0 Try.f24) N x0).map1 := by kernel_rfl
theorem w24nE0 (N : Nat) (x0 : List VLabel) : labels_Check N x0 = (w24TE0 (bodyOf 0 Try.f24) N x0).run := by kernel_rfl
theorem w24oE0 {N : Nat} {r : Int} (x0 : List VLabel) (h : labels_Check N x0 = some r) : Ends (Y := TT) EE (w24G N) w24lv w24rs (fun u => u = w24enc r) (w24kE0 (bodyOf 0 Try.f24)) (w24sE0 x0) :=
  tree_use (w24vE0 N x0) (w24nE0 N x0) h (show (w24TE0 (bodyOf 0 Try.f24) N x0).all _ from fun _ => ⟨retp (enc := w24enc) rfl, fun _ => ⟨retp (enc := w24enc) rfl, retp (enc := w24enc) rfl⟩⟩)
theorem labels_Check_ok {N : Nat} (x0 : List VLabel) {r : Int} (h : labels_Check N x0 = some r) (ρ : Nat → Nat) : ACalls Try.prog 24 (([.a (.d (.sl (.nam 2)) x0)] : List (TV EE.T)).map (TV.to EE.toEnc ρ)) [] (fun out H => out = .ret ((labels_Check_u r).to EE.toEnc ρ) ∧ H = []) :=
  (fn_ok (bodyOf 0 Try.f24) 12 mixed (w24Gok N) Try.func24 (by kernel_rfl) rfl rfl rfl rfl (w24oE0 x0 h) ρ).mono fun out H h => KPost.ret rfl h
def labels_Check_h (N : Nat) : List (TV EE.T) → PV EE.T
  | [u0] => match argD (.sl (.nam 2)) u0 with
    | some x0 => .opt (labels_Check N x0) labels_Check_u
    | _ => .bad
  | _ => .bad
theorem labels_Check_hok (N : Nat) (us : List (TV EE.T)) : (labels_Check_h N us).ok fun u => ∀ ρ, ACalls Try.prog 24 (us.map (TV.to EE.toEnc ρ)) [] (fun out H => out = .ret (u.to EE.toEnc ρ) ∧ H = []) := by
  unfold labels_Check_h
  split
  · split
    · rename_i h0
      intro z hz ρ; refine acalls_le ?_ (labels_Check_ok _ hz ρ); exact ⟨argD_le h0 ρ, trivial⟩
    · trivial
  · trivial
/-! ### gleaner/labels.check -/
def labels_check_u (r : Int) : TV EE.T := .a (.d (.int .i64) r)
def w14enc (r : Int) : RL EE.T := .ret (labels_check_u r) []
def w14lv : Lvs := ⟨[], [(2, ⟨[(6, false), (7, false), (8, false)], [], []⟩)], [], [], false, [], []⟩
def w14rs : List ResultVar := [.tmp 2]
def w14G (N : Nat) : Gam EE := ⟨[⟨24, labels_Check_h N⟩], EQT, [], []⟩
theorem w14Gok (N : Nat) : GOk Try.prog TT EE (w14G N) := GOk.cons (labels_Check_hok N) (GOk.nil EQT_ok)
def w14kL2 (c : Code) : List It2 := atL 2 c
def w14sL2 (x6 : List (List VLabel)) (x7 : Int) (x8 : Int) : TS EE.T := ⟨18, [(6, .a (.d (.sl (.sl (.nam 2))) x6)), (7, .a (.d (.int .i64) x7)), (8, .a (.d (.int .i64) x8))], [], []⟩
def w14kE0 (c : Code) : List It2 := [.c c]
def w14sE0 (x0 : List (List VLabel)) : TS EE.T := ⟨18, [(0, .a (.d (.sl (.sl (.nam 2))) x0))], [], []⟩
def w14TL2 (c : Code) (N : Nat) (n : Nat) (x6 : List (List VLabel)) (x7 : Int) (x8 : Int) : Tree (Lf EE.T × Option Int) :=
  .cond (decide (x8 < x7))
  (
    .bnd (idxC x6 x8) fun z1 =>
    .bnd (labels_Check N z1) fun z2 =>
    .cond (z2 != 0)
    (
      .leaf (.done (w14enc z2), some z2))
    (
      .leaf (.go (w14kL2 c) (w14sL2 x6 x7 (w64 (x8 + 1))), labels_check_L2 N n x6 x7 (w64 (x8 + 1)))))
  (
    .leaf (.done (w14enc 0), some 0))
theorem w14vL2 (N : Nat) (n : Nat) (x6 : List (List VLabel)) (x7 : Int) (x8 : Int) : evM TT EE (w14G N) w14lv w14rs 4000 true (w14kL2 (bodyOf 0 Try.f14)) (w14sL2 x6 x7 x8) = (w14TL2 (bodyOf 0 Try.f14) N n x6 x7 x8).map1 := by kernel_rfl
theorem w14nL2 (N : Nat) (n : Nat) (x6 : List (List VLabel)) (x7 : Int) (x8 : Int) : labels_check_L2 N (n + 1) x6 x7 x8 = (w14TL2 (bodyOf 0 Try.f14) N n x6 x7 x8).run := by kernel_rfl
theorem w14oL2 {N : Nat} {r : Int} : ∀ (n : Nat) (x6 : List (List VLabel)) (x7 : Int) (x8 : Int), labels_check_L2 N n x6 x7 x8 = some r → Ends (Y := TT) EE (w14G N) w14lv w14rs (fun u => u = w14enc r) (w14kL2 (bodyOf 0 Try.f14)) (w14sL2 x6 x7 x8)
  | 0, _, _, _, h => by cases h
  | n + 1, x6, x7, x8, h => tree_use (w14vL2 N n x6 x7 x8) (w14nL2 N n x6 x7 x8) h (show (w14TL2 (bodyOf 0 Try.f14) N n x6 x7 x8).all _ from ⟨fun _ => fun _ => ⟨retp (enc := w14enc) rfl, fun h => (w14oL2 n) _ _ _ h⟩, retp (enc := w14enc) rfl⟩)
def w14TE0 (c : Code) (N : Nat) (x0 : List (List VLabel)) : Tree (Lf EE.T × Option Int) :=
  .leaf (.go (w14kL2 c) (w14sL2 x0 (x0.length : Int) 0), labels_check_L2 N N x0 (x0.length : Int) 0)
theorem w14vE0 (N : Nat) (x0 : List (List VLabel)) : evM TT EE (w14G N) w14lv w14rs 4000 true (w14kE0 (bodyOf 0 Try.f14)) (w14sE0 x0) = (w14TE0 (bodyOf 0 Try.f14) N x0).map1 := by kernel_rfl
theorem w14nE0 (N : Nat) (x0 : List (List VLabel)) : labels_check N x0 = (w14TE0 (bodyOf 0 Try.f14) N x0).run := by kernel_rfl
theorem w14oE0 {N : Nat} {r : Int} (x0 : List (List VLabel)) (h : labels_check N x0 = some r) : Ends (Y := TT) EE (w14G N) w14lv w14rs (fun u => u = w14enc r) (w14kE0 (bodyOf 0 Try.f14)) (w14sE0 x0) :=
  tree_use (w14vE0 N x0) (w14nE0 N x0) h (show (w14TE0 (bodyOf 0 Try.f14) N x0).all _ from fun h => w14oL2 N _ _ _ h)
theorem labels_check_ok {N : Nat} (x0 : List (List VLabel)) {r : Int} (h : labels_check N x0 = some r) (ρ : Nat → Nat) : ACalls Try.prog 14 (([.a (.d (.sl (.sl (.nam 2))) x0)] : List (TV EE.T)).map (TV.to EE.toEnc ρ)) [] (fun out H => out = .ret ((labels_check_u r).to EE.toEnc ρ) ∧ H = []) :=
  (fn_ok (bodyOf 0 Try.f14) 18 mixed (w14Gok N) Try.func14 (by kernel_rfl) rfl rfl rfl rfl (w14oE0 x0 h) ρ).mono fun out H h => KPost.ret rfl h
def labels_check_h (N : Nat) : List (TV EE.T) → PV EE.T
  | [u0] => match argD (.sl (.sl (.nam 2))) u0 with
    | some x0 => .opt (labels_check N x0) labels_check_u
    | _ => .bad
  | _ => .bad
theorem labels_check_hok (N : Nat) (us : List (TV EE.T)) : (labels_check_h N us).ok fun u => ∀ ρ, ACalls Try.prog 14 (us.map (TV.to EE.toEnc ρ)) [] (fun out H => out = .ret (u.to EE.toEnc ρ) ∧ H = []) := by
  unfold labels_check_h
  split
  · split
    · rename_i h0
      intro z hz ρ; refine acalls_le ?_ (labels_check_ok _ hz ρ); exact ⟨argD_le h0 ρ, trivial⟩
    · trivial
  · trivial
/-! ### gleaner/labels.find$1 -/
def labels_find_1_u (r : Int) : TV EE.T := .a (.d (.int .i64) r)
def w40enc (r : Int) : RL EE.T := .ret (labels_find_1_u r) []
def w40lv : Lvs := ⟨[], [], [], [], false, [], []⟩
def w40rs : List ResultVar := [.tmp 4]
def w40G (N : Nat) : Gam EE := ⟨[⟨35, cmp_Compare_string__h N⟩], EQT, [], []⟩
theorem w40Gok (N : Nat) : GOk Try.prog TT EE (w40G N) := GOk.cons (cmp_Compare_string__hok N) (GOk.nil EQT_ok)
def w40kE0 (c : Code) : List It2 := [.c c]
def w40sE0 (x0 : VLabel) (x1 : List UInt8) : TS EE.T := ⟨9, [(0, .ag (unpT EE (.nam 2) x0)), (1, .a (.d .str x1))], [], []⟩
def w40TE0 (c : Code) (N : Nat) (x0 : VLabel) (x1 : List UInt8) : Tree (Lf EE.T × Option Int) :=
  .bnd (cmp_Compare_string_ N x0.Name x1) fun z1 =>
  .leaf (.done (w40enc z1), some z1)
theorem w40vE0 (N : Nat) (x0 : VLabel) (x1 : List UInt8) : evM TT EE (w40G N) w40lv w40rs 4000 true (w40kE0 (bodyOf 0 Try.f40)) (w40sE0 x0 x1) = (w40TE0 (bodyOf 0 Try.f40) N x0 x1).map1 := by kernel_rfl
theorem w40nE0 (N : Nat) (x0 : VLabel) (x1 : List UInt8) : labels_find_1 N x0 x1 = (w40TE0 (bodyOf 0 Try.f40) N x0 x1).run := by kernel_rfl
theorem w40oE0 {N : Nat} {r : Int} (x0 : VLabel) (x1 : List UInt8) (h : labels_find_1 N x0 x1 = some r) : Ends (Y := TT) EE (w40G N) w40lv w40rs (fun u => u = w40enc r) (w40kE0 (bodyOf 0 Try.f40)) (w40sE0 x0 x1) :=
  tree_use (w40vE0 N x0 x1) (w40nE0 N x0 x1) h (show (w40TE0 (bodyOf 0 Try.f40) N x0 x1).all _ from fun _ => retp (enc := w40enc) rfl)
theorem labels_find_1_ok {N : Nat} (x0 : VLabel) (x1 : List UInt8) {r : Int} (h : labels_find_1 N x0 x1 = some r) (ρ : Nat → Nat) : ACalls Try.prog 40 (([.ag (unpT EE (.nam 2) x0), .a (.d .str x1)] : List (TV EE.T)).map (TV.to EE.toEnc ρ)) [] (fun out H => out = .ret ((labels_find_1_u r).to EE.toEnc ρ) ∧ H = []) :=
  (fn_ok (bodyOf 0 Try.f40) 9 mixed (w40Gok N) Try.func40 (by kernel_rfl) rfl rfl rfl rfl (w40oE0 x0 x1 h) ρ).mono fun out H h => KPost.ret rfl h
def labels_find_1_h (N : Nat) : List (TV EE.T) → PV EE.T
  | [u0, u1] => match argS EE 2 u0, argD .str u1 with
    | some x0, some x1 => .opt (labels_find_1 N x0 x1) labels_find_1_u
    | _, _ => .bad
  | _ => .bad
theorem labels_find_1_hok (N : Nat) (us : List (TV EE.T)) : (labels_find_1_h N us).ok fun u => ∀ ρ, ACalls Try.prog 40 (us.map (TV.to EE.toEnc ρ)) [] (fun out H => out = .ret (u.to EE.toEnc ρ) ∧ H = []) := by
  unfold labels_find_1_h
  split
  · split
    · rename_i h0 h1
      intro z hz ρ; refine acalls_le ?_ (labels_find_1_ok _ _ hz ρ); exact ⟨argS_le h0 ρ, argD_le h1 ρ, trivial⟩
    · trivial
  · trivial
/-! ### slices.BinarySearchFunc[[]gleaner/api.Label,gleaner/api.Label,string] -/
def slices_BinarySearchFunc_api_Label_api_Label_string__i0_u (r : Int × Bool) : TV EE.T := .tu [.a (.d (.int .i64) r.1), .a (.d .bool r.2)]
def w39i0hh (r : Int × Bool) : List (Nat × TB EE.T) := []
def w39i0enc (r : Int × Bool) : RL EE.T := .ret (slices_BinarySearchFunc_api_Label_api_Label_string__i0_u r) (w39i0hh r)
def w39i0lv : Lvs := ⟨[], [(3, ⟨[(0, false), (1, false), (2, false), (8, false), (9, false), (10, false)], [], []⟩)], [], [], false, [], []⟩
def w39i0rs : List ResultVar := [.tmp 6, .tmp 7]
def w39i0G (N : Nat) : Gam EE := ⟨[], EQT, [⟨40, xOf (labels_find_1_h N)⟩], []⟩
theorem w39i0Gok (N : Nat) : GOk Try.prog TT EE (w39i0G N) := GOk.consx (xOf_ok (labels_find_1_hok N)) (GOk.nil EQT_ok)
def w39i0kL3 (c : Code) : List It2 := atL 3 c
def w39i0sL3 (x0 : List VLabel) (x1 : List UInt8) (x8 : Int) (x9 : Int) (x10 : Int) : TS EE.T := ⟨49, [(0, .a (.d (.sl (.nam 2)) x0)), (1, .a (.d .str x1)), (2, .fn 40 []), (8, .a (.d (.int .i64) x8)), (9, .a (.d (.int .i64) x9)), (10, .a (.d (.int .i64) x10))], [], []⟩
def w39i0kE0 (c : Code) : List It2 := [.c c]
def w39i0sE0 (x0 : List VLabel) (x1 : List UInt8) : TS EE.T := ⟨49, [(0, .a (.d (.sl (.nam 2)) x0)), (1, .a (.d .str x1)), (2, .fn 40 [])], [], []⟩
def w39i0TL3 (c : Code) (N : Nat) (n : Nat) (x0 : List VLabel) (x1 : List UInt8) (x8 : Int) (x9 : Int) (x10 : Int) : Tree (Lf EE.T × Option (Int × Bool)) :=
  .cond (decide (x9 < x10))
  (
    .bnd (shrC .u64 (IntKind.wrap .u64 (w64 (x9 + x10))) 1) fun z1 =>
    .bnd (idxC x0 (w64 z1)) fun z2 =>
    .bnd (labels_find_1 N z2 x1) fun z3 =>
    .cond (decide (z3 < 0))
    (
      .leaf (.go (w39i0kL3 c) (w39i0sL3 x0 x1 x8 (w64 ((w64 z1) + 1)) x10), slices_BinarySearchFunc_api_Label_api_Label_string__i0_L3 N n x0 x1 x8 (w64 ((w64 z1) + 1)) x10))
    (
      .leaf (.go (w39i0kL3 c) (w39i0sL3 x0 x1 x8 x9 (w64 z1)), slices_BinarySearchFunc_api_Label_api_Label_string__i0_L3 N n x0 x1 x8 x9 (w64 z1))))
  (
    .cond (decide (x9 < x8))
    (
      .bnd (idxC x0 x9) fun z4 =>
      .bnd (labels_find_1 N z4 x1) fun z5 =>
      .leaf (.done (w39i0enc (x9, z5 == 0)), some (x9, z5 == 0)))
    (
      .leaf (.done (w39i0enc (x9, false)), some (x9, false))))
theorem w39i0vL3 (N : Nat) (n : Nat) (x0 : List VLabel) (x1 : List UInt8) (x8 : Int) (x9 : Int) (x10 : Int) : evM TT EE (w39i0G N) w39i0lv w39i0rs 4000 true (w39i0kL3 (bodyOf 0 Try.f39)) (w39i0sL3 x0 x1 x8 x9 x10) = (w39i0TL3 (bodyOf 0 Try.f39) N n x0 x1 x8 x9 x10).map1 := by kernel_rfl
theorem w39i0nL3 (N : Nat) (n : Nat) (x0 : List VLabel) (x1 : List UInt8) (x8 : Int) (x9 : Int) (x10 : Int) : slices_BinarySearchFunc_api_Label_api_Label_string__i0_L3 N (n + 1) x0 x1 x8 x9 x10 = (w39i0TL3 (bodyOf 0 Try.f39) N n x0 x1 x8 x9 x10).run := by kernel_rfl
theorem w39i0oL3 {N : Nat} {r : Int × Bool} : ∀ (n : Nat) (x0 : List VLabel) (x1 : List UInt8) (x8 : Int) (x9 : Int) (x10 : Int), slices_BinarySearchFunc_api_Label_api_Label_string__i0_L3 N n x0 x1 x8 x9 x10 = some r → Ends (Y := TT) EE (w39i0G N) w39i0lv w39i0rs (fun u => u = w39i0enc r) (w39i0kL3 (bodyOf 0 Try.f39)) (w39i0sL3 x0 x1 x8 x9 x10)
  | 0, _, _, _, _, _, h => by cases h
  | n + 1, x0, x1, x8, x9, x10, h => tree_use (w39i0vL3 N n x0 x1 x8 x9 x10) (w39i0nL3 N n x0 x1 x8 x9 x10) h (show (w39i0TL3 (bodyOf 0 Try.f39) N n x0 x1 x8 x9 x10).all _ from ⟨fun _ => fun _ => fun _ => ⟨fun h => (w39i0oL3 n) _ _ _ _ _ h, fun h => (w39i0oL3 n) _ _ _ _ _ h⟩, ⟨fun _ => fun _ => retp (enc := w39i0enc) rfl, retp (enc := w39i0enc) rfl⟩⟩)
def w39i0TE0 (c : Code) (N : Nat) (x0 : List VLabel) (x1 : List UInt8) : Tree (Lf EE.T × Option (Int × Bool)) :=
  .leaf (.go (w39i0kL3 c) (w39i0sL3 x0 x1 (x0.length : Int) 0 (x0.length : Int)), slices_BinarySearchFunc_api_Label_api_Label_string__i0_L3 N N x0 x1 (x0.length : Int) 0 (x0.length : Int))
theorem w39i0vE0 (N : Nat) (x0 : List VLabel) (x1 : List UInt8) : evM TT EE (w39i0G N) w39i0lv w39i0rs 4000 true (w39i0kE0 (bodyOf 0 Try.f39)) (w39i0sE0 x0 x1) = (w39i0TE0 (bodyOf 0 Try.f39) N x0 x1).map1 := by kernel_rfl
theorem w39i0nE0 (N : Nat) (x0 : List VLabel) (x1 : List UInt8) : slices_BinarySearchFunc_api_Label_api_Label_string__i0 N x0 x1 = (w39i0TE0 (bodyOf 0 Try.f39) N x0 x1).run := by kernel_rfl
theorem w39i0oE0 {N : Nat} {r : Int × Bool} (x0 : List VLabel) (x1 : List UInt8) (h : slices_BinarySearchFunc_api_Label_api_Label_string__i0 N x0 x1 = some r) : Ends (Y := TT) EE (w39i0G N) w39i0lv w39i0rs (fun u => u = w39i0enc r) (w39i0kE0 (bodyOf 0 Try.f39)) (w39i0sE0 x0 x1) :=
  tree_use (w39i0vE0 N x0 x1) (w39i0nE0 N x0 x1) h (show (w39i0TE0 (bodyOf 0 Try.f39) N x0 x1).all _ from fun h => w39i0oL3 N _ _ _ _ _ h)
def w39i0us (x0 : List VLabel) (x1 : List UInt8) : List (TV EE.T) := [.a (.d (.sl (.nam 2)) x0), .a (.d .str x1), .fn 40 []]
def w39i0h0 (x0 : List VLabel) (x1 : List UInt8) : List (Nat × TB EE.T) := []
theorem slices_BinarySearchFunc_api_Label_api_Label_string__i0_ok {N : Nat} (x0 : List VLabel) (x1 : List UInt8) {r : Int × Bool} (h : slices_BinarySearchFunc_api_Label_api_Label_string__i0 N x0 x1 = some r) (ρ : Nat → Nat) (hi : Inj ρ (w39i0h0 x0 x1)) : ACalls Try.prog 39 ((w39i0us x0 x1).map (TV.to EE.toEnc ρ)) (hTo EE.toEnc ρ (w39i0h0 x0 x1)) (fun out H => out = .ret ((slices_BinarySearchFunc_api_Label_api_Label_string__i0_u r).to EE.toEnc ρ) ∧ H = hTo EE.toEnc ρ (w39i0hh r)) :=
  (fn_okH (bodyOf 0 Try.f39) 49 mixed (w39i0Gok N) Try.func39 (by kernel_rfl) rfl rfl rfl rfl (w39i0oE0 x0 x1 h) ρ hi).mono fun out H h => KPost.retH rfl rfl h
def slices_BinarySearchFunc_api_Label_api_Label_string__i0_h (N : Nat) (us : List (TV EE.T)) (hs : List (Nat × TB EE.T)) : XR EE.T :=
  gdX (lenX us 3) <|
  bnX (aD (.sl (.nam 2)) us 0) fun x0 =>
  bnX (aD .str us 1) fun x1 =>
  bnX (aF 40 us 2) fun c2 =>
  bnX (cbs c2) fun s2 =>
  gdX (lenX s2 0) <|
  gdX (goodIds hs []) <|
  .ret (slices_BinarySearchFunc_api_Label_api_Label_string__i0 N x0 x1) [] slices_BinarySearchFunc_api_Label_api_Label_string__i0_u (w39i0hh)
theorem slices_BinarySearchFunc_api_Label_api_Label_string__i0_hok (N : Nat) : XOk Try.prog EE 39 (slices_BinarySearchFunc_api_Label_api_Label_string__i0_h N) := fun us hs =>
  gdX_ok fun h1 => bnX_ok fun x0 h2 => bnX_ok fun x1 h3 => bnX_ok fun c2 h4 => bnX_ok fun s2 h5 => gdX_ok fun h6 => gdX_ok fun h7 => fun z hz => ⟨rfl, fun ρ hi => xcall (us' := w39i0us x0 x1) (h0 := w39i0h0 x0 x1) (ρ' := rhoS ρ []) ⟨aD_le h2, aD_le h3, aF_le (js := []) h4 h5 (by rw [lis0 (lenX_ok h6)];  kernel_rfl), lenX_ok h1⟩ trivial (slices_BinarySearchFunc_api_Label_api_Label_string__i0_ok x0 x1 hz _ (rhoS_inj hi h7 _ (by kernel_rfl))) (fun out H h => ⟨h.1.trans (by kernel_rfl), h.2.trans (by kernel_rfl)⟩)⟩
/-! ### gleaner/labels.find -/
def labels_find_u (r : Int × Bool) : TV EE.T := .tu [.a (.d (.int .i64) r.1), .a (.d .bool r.2)]
def w25enc (r : Int × Bool) : RL EE.T := .ret (labels_find_u r) []
def w25lv : Lvs := ⟨[], [], [], [], false, [], []⟩
def w25rs : List ResultVar := [.tmp 4, .tmp 5]
def w25G (N : Nat) : Gam EE := ⟨[], EQT, [⟨39, slices_BinarySearchFunc_api_Label_api_Label_string__i0_h N⟩], []⟩
theorem w25Gok (N : Nat) : GOk Try.prog TT EE (w25G N) := GOk.consx (slices_BinarySearchFunc_api_Label_api_Label_string__i0_hok N) (GOk.nil EQT_ok)
def w25kE0 (c : Code) : List It2 := [.c c]
def w25sE0 (x0 : List VLabel) (x1 : List UInt8) : TS EE.T := ⟨11, [(0, .a (.d (.sl (.nam 2)) x0)), (1, .a (.d .str x1))], [], []⟩
def w25TE0 (c : Code) (N : Nat) (x0 : List VLabel) (x1 : List UInt8) : Tree (Lf EE.T × Option (Int × Bool)) :=
  .bnd (slices_BinarySearchFunc_api_Label_api_Label_string__i0 N x0 x1) fun z1 =>
  .leaf (.done (w25enc (z1.1, z1.2)), some (z1.1, z1.2))
theorem w25vE0 (N : Nat) (x0 : List VLabel) (x1 : List UInt8) : evM TT EE (w25G N) w25lv w25rs 4000 true (w25kE0 (bodyOf 0 Try.f25)) (w25sE0 x0 x1) = (w25TE0 (bodyOf 0 Try.f25) N x0 x1).map1 := by kernel_rfl
theorem w25nE0 (N : Nat) (x0 : List VLabel) (x1 : List UInt8) : labels_find N x0 x1 = (w25TE0 (bodyOf 0 Try.f25) N x0 x1).run := by kernel_rfl
theorem w25oE0 {N : Nat} {r : Int × Bool} (x0 : List VLabel) (x1 : List UInt8) (h : labels_find N x0 x1 = some r) : Ends (Y := TT) EE (w25G N) w25lv w25rs (fun u => u = w25enc r) (w25kE0 (bodyOf 0 Try.f25)) (w25sE0 x0 x1) :=
  tree_use (w25vE0 N x0 x1) (w25nE0 N x0 x1) h (show (w25TE0 (bodyOf 0 Try.f25) N x0 x1).all _ from fun _ => retp (enc := w25enc) rfl)
theorem labels_find_ok {N : Nat} (x0 : List VLabel) (x1 : List UInt8) {r : Int × Bool} (h : labels_find N x0 x1 = some r) (ρ : Nat → Nat) : ACalls Try.prog 25 (([.a (.d (.sl (.nam 2)) x0), .a (.d .str x1)] : List (TV EE.T)).map (TV.to EE.toEnc ρ)) [] (fun out H => out = .ret ((labels_find_u r).to EE.toEnc ρ) ∧ H = []) :=
  (fn_ok (bodyOf 0 Try.f25) 11 mixed (w25Gok N) Try.func25 (by kernel_rfl) rfl rfl rfl rfl (w25oE0 x0 x1 h) ρ).mono fun out H h => KPost.ret rfl h
def labels_find_h (N : Nat) : List (TV EE.T) → PV EE.T
  | [u0, u1] => match argD (.sl (.nam 2)) u0, argD .str u1 with
    | some x0, some x1 => .opt (labels_find N x0 x1) labels_find_u
    | _, _ => .bad
  | _ => .bad
theorem labels_find_hok (N : Nat) (us : List (TV EE.T)) : (labels_find_h N us).ok fun u => ∀ ρ, ACalls Try.prog 25 (us.map (TV.to EE.toEnc ρ)) [] (fun out H => out = .ret (u.to EE.toEnc ρ) ∧ H = []) := by
  unfold labels_find_h
  split
  · split
    · rename_i h0 h1
      intro z hz ρ; refine acalls_le ?_ (labels_find_ok _ _ hz ρ); exact ⟨argD_le h0 ρ, argD_le h1 ρ, trivial⟩
    · trivial
  · trivial
/-! ### gleaner/labels.Value -/
def labels_Value_u (r : List UInt8) : TV EE.T := .a (.d .str r)
def w15enc (r : List UInt8) : RL EE.T := .ret (labels_Value_u r) []
def w15lv : Lvs := ⟨[], [], [], [], false, [], []⟩
def w15rs : List ResultVar := [.tmp 4]
def w15G (N : Nat) : Gam EE := ⟨[⟨25, labels_find_h N⟩], EQT, [], []⟩
theorem w15Gok (N : Nat) : GOk Try.prog TT EE (w15G N) := GOk.cons (labels_find_hok N) (GOk.nil EQT_ok)
def w15kE0 (c : Code) : List It2 := [.c c]
def w15sE0 (x0 : List VLabel) (x1 : List UInt8) : TS EE.T := ⟨19, [(0, .a (.d (.sl (.nam 2)) x0)), (1, .a (.d .str x1))], [], []⟩
def w15TE0 (c : Code) (N : Nat) (x0 : List VLabel) (x1 : List UInt8) : Tree (Lf EE.T × Option (List UInt8)) :=
  .bnd (labels_find N x0 x1) fun z1 =>
  .cond (z1.2)
  (
    .bnd (idxC x0 z1.1) fun z2 =>
    .leaf (.done (w15enc z2.Value), some z2.Value))
  (
    .leaf (.done (w15enc ([] : List UInt8)), some ([] : List UInt8)))
theorem w15vE0 (N : Nat) (x0 : List VLabel) (x1 : List UInt8) : evM TT EE (w15G N) w15lv w15rs 4000 true (w15kE0 (bodyOf 0 Try.f15)) (w15sE0 x0 x1) = (w15TE0 (bodyOf 0 Try.f15) N x0 x1).map1 := by kernel_rfl
theorem w15nE0 (N : Nat) (x0 : List VLabel) (x1 : List UInt8) : labels_Value N x0 x1 = (w15TE0 (bodyOf 0 Try.f15) N x0 x1).run := by kernel_rfl
theorem w15oE0 {N : Nat} {r : List UInt8} (x0 : List VLabel) (x1 : List UInt8) (h : labels_Value N x0 x1 = some r) : Ends (Y := TT) EE (w15G N) w15lv w15rs (fun u => u = w15enc r) (w15kE0 (bodyOf 0 Try.f15)) (w15sE0 x0 x1) :=
  tree_use (w15vE0 N x0 x1) (w15nE0 N x0 x1) h (show (w15TE0 (bodyOf 0 Try.f15) N x0 x1).all _ from fun _ => ⟨fun _ => retp (enc := w15enc) rfl, retp (enc := w15enc) rfl⟩)
theorem labels_Value_ok {N : Nat} (x0 : List VLabel) (x1 : List UInt8) {r : List UInt8} (h : labels_Value N x0 x1 = some r) (ρ : Nat → Nat) : ACalls Try.prog 15 (([.a (.d (.sl (.nam 2)) x0), .a (.d .str x1)] : List (TV EE.T)).map (TV.to EE.toEnc ρ)) [] (fun out H => out = .ret ((labels_Value_u r).to EE.toEnc ρ) ∧ H = []) :=
  (fn_ok (bodyOf 0 Try.f15) 19 mixed (w15Gok N) Try.func15 (by kernel_rfl) rfl rfl rfl rfl (w15oE0 x0 x1 h) ρ).mono fun out H h => KPost.ret rfl h
/-! ### gleaner/gleanerref.IsLetter -/
def ref_IsLetter_u (r : Bool) : TV EE.T := .a (.d .bool r)
def w22enc (r : Bool) : RL EE.T := .ret (ref_IsLetter_u r) []
def w22lv : Lvs := ⟨[], [], [], [], false, [], []⟩
def w22rs : List ResultVar := [.tmp 2]
def w22G (N : Nat) : Gam EE := ⟨[], EQT, [], []⟩
theorem w22Gok (N : Nat) : GOk Try.prog TT EE (w22G N) := GOk.nil EQT_ok
def w22kE0 (c : Code) : List It2 := [.c c]
def w22sE0 (x0 : UInt8) : TS EE.T := ⟨21, [(0, .a (.d .byte x0))], [], []⟩
def w22TE0 (c : Code) (N : Nat) (x0 : UInt8) : Tree (Lf EE.T × Option Bool) :=
  .cond (decide ((b2i x0) ≥ (b2i 97)))
  (
    .cond (decide ((b2i x0) ≤ (b2i 122)))
    (
      .leaf (.done (w22enc true), some true))
    (
      .cond (decide ((b2i x0) ≥ (b2i 65)))
      (
        .cond (decide ((b2i x0) ≤ (b2i 90)))
        (
          .leaf (.done (w22enc true), some true))
        (
          .leaf (.done (w22enc ((b2i x0) == (b2i 95))), some ((b2i x0) == (b2i 95)))))
      (
        .leaf (.done (w22enc ((b2i x0) == (b2i 95))), some ((b2i x0) == (b2i 95))))))
  (
    .cond (decide ((b2i x0) ≥ (b2i 65)))
    (
      .cond (decide ((b2i x0) ≤ (b2i 90)))
      (
        .leaf (.done (w22enc true), some true))
      (
        .leaf (.done (w22enc ((b2i x0) == (b2i 95))), some ((b2i x0) == (b2i 95)))))
    (
      .leaf (.done (w22enc ((b2i x0) == (b2i 95))), some ((b2i x0) == (b2i 95)))))
theorem w22vE0 (N : Nat) (x0 : UInt8) : evM TT EE (w22G N) w22lv w22rs 4000 true (w22kE0 (bodyOf 0 Try.f22)) (w22sE0 x0) = (w22TE0 (bodyOf 0 Try.f22) N x0).map1 := by kernel_rfl
theorem w22nE0 (N : Nat) (x0 : UInt8) : ref_IsLetter N x0 = (w22TE0 (bodyOf 0 Try.f22) N x0).run := by kernel_rfl
theorem w22oE0 {N : Nat} {r : Bool} (x0 : UInt8) (h : ref_IsLetter N x0 = some r) : Ends (Y := TT) EE (w22G N) w22lv w22rs (fun u => u = w22enc r) (w22kE0 (bodyOf 0 Try.f22)) (w22sE0 x0) :=
  tree_use (w22vE0 N x0) (w22nE0 N x0) h (show (w22TE0 (bodyOf 0 Try.f22) N x0).all _ from ⟨⟨retp (enc := w22enc) rfl, ⟨⟨retp (enc := w22enc) rfl, retp (enc := w22enc) rfl⟩, retp (enc := w22enc) rfl⟩⟩, ⟨⟨retp (enc := w22enc) rfl, retp (enc := w22enc) rfl⟩, retp (enc := w22enc) rfl⟩⟩)
theorem ref_IsLetter_ok {N : Nat} (x0 : UInt8) {r : Bool} (h : ref_IsLetter N x0 = some r) (ρ : Nat → Nat) : ACalls Try.prog 22 (([.a (.d .byte x0)] : List (TV EE.T)).map (TV.to EE.toEnc ρ)) [] (fun out H => out = .ret ((ref_IsLetter_u r).to EE.toEnc ρ) ∧ H = []) :=
  (fn_ok (bodyOf 0 Try.f22) 21 mixed (w22Gok N) Try.func22 (by kernel_rfl) rfl rfl rfl rfl (w22oE0 x0 h) ρ).mono fun out H h => KPost.ret rfl h
def ref_IsLetter_h (N : Nat) : List (TV EE.T) → PV EE.T
  | [u0] => match argD .byte u0 with
    | some x0 => .opt (ref_IsLetter N x0) ref_IsLetter_u
    | _ => .bad
  | _ => .bad
theorem ref_IsLetter_hok (N : Nat) (us : List (TV EE.T)) : (ref_IsLetter_h N us).ok fun u => ∀ ρ, ACalls Try.prog 22 (us.map (TV.to EE.toEnc ρ)) [] (fun out H => out = .ret (u.to EE.toEnc ρ) ∧ H = []) := by
  unfold ref_IsLetter_h
  split
  · split
    · rename_i h0
      intro z hz ρ; refine acalls_le ?_ (ref_IsLetter_ok _ hz ρ); exact ⟨argD_le h0 ρ, trivial⟩
    · trivial
  · trivial
/-! ### gleaner/gleanerref.IsNumeral -/
def ref_IsNumeral_u (r : Bool) : TV EE.T := .a (.d .bool r)
def w23enc (r : Bool) : RL EE.T := .ret (ref_IsNumeral_u r) []
def w23lv : Lvs := ⟨[], [], [], [], false, [], []⟩
def w23rs : List ResultVar := [.tmp 2]
def w23G (N : Nat) : Gam EE := ⟨[], EQT, [], []⟩
theorem w23Gok (N : Nat) : GOk Try.prog TT EE (w23G N) := GOk.nil EQT_ok
def w23kE0 (c : Code) : List It2 := [.c c]
def w23sE0 (x0 : UInt8) : TS EE.T := ⟨9, [(0, .a (.d .byte x0))], [], []⟩
def w23TE0 (c : Code) (N : Nat) (x0 : UInt8) : Tree (Lf EE.T × Option Bool) :=
  .cond (decide ((b2i x0) ≥ (b2i 48)))
  (
    .leaf (.done (w23enc (decide ((b2i x0) ≤ (b2i 57)))), some (decide ((b2i x0) ≤ (b2i 57)))))
  (
    .leaf (.done (w23enc false), some false))
theorem w23vE0 (N : Nat) (x0 : UInt8) : evM TT EE (w23G N) w23lv w23rs 4000 true (w23kE0 (bodyOf 0 Try.f23)) (w23sE0 x0) = (w23TE0 (bodyOf 0 Try.f23) N x0).map1 := by kernel_rfl
theorem w23nE0 (N : Nat) (x0 : UInt8) : ref_IsNumeral N x0 = (w23TE0 (bodyOf 0 Try.f23) N x0).run := by kernel_rfl
theorem w23oE0 {N : Nat} {r : Bool} (x0 : UInt8) (h : ref_IsNumeral N x0 = some r) : Ends (Y := TT) EE (w23G N) w23lv w23rs (fun u => u = w23enc r) (w23kE0 (bodyOf 0 Try.f23)) (w23sE0 x0) :=
  tree_use (w23vE0 N x0) (w23nE0 N x0) h (show (w23TE0 (bodyOf 0 Try.f23) N x0).all _ from ⟨retp (enc := w23enc) rfl, retp (enc := w23enc) rfl⟩)
theorem ref_IsNumeral_ok {N : Nat} (x0 : UInt8) {r : Bool} (h : ref_IsNumeral N x0 = some r) (ρ : Nat → Nat) : ACalls Try.prog 23 (([.a (.d .byte x0)] : List (TV EE.T)).map (TV.to EE.toEnc ρ)) [] (fun out H => out = .ret ((ref_IsNumeral_u r).to EE.toEnc ρ) ∧ H = []) :=
  (fn_ok (bodyOf 0 Try.f23) 9 mixed (w23Gok N) Try.func23 (by kernel_rfl) rfl rfl rfl rfl (w23oE0 x0 h) ρ).mono fun out H h => KPost.ret rfl h
def ref_IsNumeral_h (N : Nat) : List (TV EE.T) → PV EE.T
  | [u0] => match argD .byte u0 with
    | some x0 => .opt (ref_IsNumeral N x0) ref_IsNumeral_u
    | _ => .bad
  | _ => .bad
theorem ref_IsNumeral_hok (N : Nat) (us : List (TV EE.T)) : (ref_IsNumeral_h N us).ok fun u => ∀ ρ, ACalls Try.prog 23 (us.map (TV.to EE.toEnc ρ)) [] (fun out H => out = .ret (u.to EE.toEnc ρ) ∧ H = []) := by
  unfold ref_IsNumeral_h
  split
  · split
    · rename_i h0
      intro z hz ρ; refine acalls_le ?_ (ref_IsNumeral_ok _ hz ρ); exact ⟨argD_le h0 ρ, trivial⟩
    · trivial
  · trivial
/-! ### gleaner/gleanerref.IsName -/
def ref_IsName_u (r : Bool) : TV EE.T := .a (.d .bool r)
def w12enc (r : Bool) : RL EE.T := .ret (ref_IsName_u r) []
def w12lv : Lvs := ⟨[(3, ⟨[(0, false), (3, false)], [], []⟩)], [(2, ⟨[(0, false), (3, false)], [], []⟩)], [3], [], false, [], []⟩
def w12rs : List ResultVar := [.tmp 2]
def w12G (N : Nat) : Gam EE := ⟨[⟨22, ref_IsLetter_h N⟩, ⟨23, ref_IsNumeral_h N⟩], EQT, [], []⟩
theorem w12Gok (N : Nat) : GOk Try.prog TT EE (w12G N) := GOk.cons (ref_IsLetter_hok N) (GOk.cons (ref_IsNumeral_hok N) (GOk.nil EQT_ok))
def w12kR3 (c : Code) : List It2 := atR 3 c
def w12sR3 (x0 : List UInt8) (x3 : Int) : TS EE.T := ⟨34, [(0, .a (.d .str x0)), (3, .a (.d (.int .i64) x3))], [], []⟩
def w12kL2 (c : Code) : List It2 := atL 2 c
def w12sL2 (x0 : List UInt8) (x3 : Int) : TS EE.T := ⟨34, [(0, .a (.d .str x0)), (3, .a (.d (.int .i64) x3))], [], []⟩
def w12kE0 (c : Code) : List It2 := [.c c]
def w12sE0 (x0 : List UInt8) : TS EE.T := ⟨34, [(0, .a (.d .str x0))], [], []⟩
def w12TR3 (c : Code) (N : Nat) (k2 : (List UInt8) → Int → Option Bool) (n : Nat) (x0 : List UInt8) (x3 : Int) : Tree (Lf EE.T × Option Bool) :=
  .leaf (.go (w12kL2 c) (w12sL2 x0 (w64 (x3 + 1))), k2 x0 (w64 (x3 + 1)))
theorem w12vR3 (N : Nat) (k2 : (List UInt8) → Int → Option Bool) (n : Nat) (x0 : List UInt8) (x3 : Int) : evM TT EE (w12G N) w12lv w12rs 4000 true (w12kR3 (bodyOf 0 Try.f12)) (w12sR3 x0 x3) = (w12TR3 (bodyOf 0 Try.f12) N k2 n x0 x3).map1 := by kernel_rfl
theorem w12nR3 (N : Nat) (k2 : (List UInt8) → Int → Option Bool) (n : Nat) (x0 : List UInt8) (x3 : Int) : ref_IsName_R3 N k2 n x0 x3 = (w12TR3 (bodyOf 0 Try.f12) N k2 n x0 x3).run := by kernel_rfl
theorem w12oR3 {N : Nat} {r : Bool} {k2 : (List UInt8) → Int → Option Bool} (hk2 : ∀ x0 x3, k2 x0 x3 = some r → Ends (Y := TT) EE (w12G N) w12lv w12rs (fun u => u = w12enc r) (w12kL2 (bodyOf 0 Try.f12)) (w12sL2 x0 x3)) (n : Nat) (x0 : List UInt8) (x3 : Int) (h : ref_IsName_R3 N k2 n x0 x3 = some r) : Ends (Y := TT) EE (w12G N) w12lv w12rs (fun u => u = w12enc r) (w12kR3 (bodyOf 0 Try.f12)) (w12sR3 x0 x3) :=
  tree_use (w12vR3 N k2 n x0 x3) (w12nR3 N k2 n x0 x3) h (show (w12TR3 (bodyOf 0 Try.f12) N k2 n x0 x3).all _ from fun h => hk2 _ _ h)
def w12TL2 (c : Code) (N : Nat) (n : Nat) (x0 : List UInt8) (x3 : Int) : Tree (Lf EE.T × Option Bool) :=
  .cond (decide (x3 < (x0.length : Int)))
  (
    .bnd (idxC x0 x3) fun z1 =>
    .bnd (ref_IsLetter N z1) fun z2 =>
    .cond (!z2)
    (
      .cond (x3 == 0)
      (
        .leaf (.done (w12enc false), some false))
      (
        .bnd (idxC x0 x3) fun z3 =>
        .bnd (ref_IsNumeral N z3) fun z4 =>
        .cond (!z4)
        (
          .leaf (.done (w12enc false), some false))
        (
          .leaf (.go (w12kR3 c) (w12sR3 x0 x3), ref_IsName_R3 N (ref_IsName_L2 N n) n x0 x3))))
    (
      .leaf (.go (w12kR3 c) (w12sR3 x0 x3), ref_IsName_R3 N (ref_IsName_L2 N n) n x0 x3)))
  (
    .cond (decide ((x0.length : Int) ≥ 1))
    (
      .leaf (.done (w12enc (decide ((x0.length : Int) ≤ 40))), some (decide ((x0.length : Int) ≤ 40))))
    (
      .leaf (.done (w12enc false), some false)))
theorem w12vL2 (N : Nat) (n : Nat) (x0 : List UInt8) (x3 : Int) : evM TT EE (w12G N) w12lv w12rs 4000 true (w12kL2 (bodyOf 0 Try.f12)) (w12sL2 x0 x3) = (w12TL2 (bodyOf 0 Try.f12) N n x0 x3).map1 := by kernel_rfl
theorem w12nL2 (N : Nat) (n : Nat) (x0 : List UInt8) (x3 : Int) : ref_IsName_L2 N (n + 1) x0 x3 = (w12TL2 (bodyOf 0 Try.f12) N n x0 x3).run := by kernel_rfl
theorem w12oL2 {N : Nat} {r : Bool} : ∀ (n : Nat) (x0 : List UInt8) (x3 : Int), ref_IsName_L2 N n x0 x3 = some r → Ends (Y := TT) EE (w12G N) w12lv w12rs (fun u => u = w12enc r) (w12kL2 (bodyOf 0 Try.f12)) (w12sL2 x0 x3)
  | 0, _, _, h => by cases h
  | n + 1, x0, x3, h => tree_use (w12vL2 N n x0 x3) (w12nL2 N n x0 x3) h (show (w12TL2 (bodyOf 0 Try.f12) N n x0 x3).all _ from ⟨fun _ => fun _ => ⟨⟨retp (enc := w12enc) rfl, fun _ => fun _ => ⟨retp (enc := w12enc) rfl, fun h => w12oR3 (w12oL2 n) n _ _ h⟩⟩, fun h => w12oR3 (w12oL2 n) n _ _ h⟩, ⟨retp (enc := w12enc) rfl, retp (enc := w12enc) rfl⟩⟩)
def w12TE0 (c : Code) (N : Nat) (x0 : List UInt8) : Tree (Lf EE.T × Option Bool) :=
  .leaf (.go (w12kL2 c) (w12sL2 x0 0), ref_IsName_L2 N N x0 0)
theorem w12vE0 (N : Nat) (x0 : List UInt8) : evM TT EE (w12G N) w12lv w12rs 4000 true (w12kE0 (bodyOf 0 Try.f12)) (w12sE0 x0) = (w12TE0 (bodyOf 0 Try.f12) N x0).map1 := by kernel_rfl
theorem w12nE0 (N : Nat) (x0 : List UInt8) : ref_IsName N x0 = (w12TE0 (bodyOf 0 Try.f12) N x0).run := by kernel_rfl
theorem w12oE0 {N : Nat} {r : Bool} (x0 : List UInt8) (h : ref_IsName N x0 = some r) : Ends (Y := TT) EE (w12G N) w12lv w12rs (fun u => u = w12enc r) (w12kE0 (bodyOf 0 Try.f12)) (w12sE0 x0) :=
  tree_use (w12vE0 N x0) (w12nE0 N x0) h (show (w12TE0 (bodyOf 0 Try.f12) N x0).all _ from fun h => w12oL2 N _ _ h)
theorem ref_IsName_ok {N : Nat} (x0 : List UInt8) {r : Bool} (h : ref_IsName N x0 = some r) (ρ : Nat → Nat) : ACalls Try.prog 12 (([.a (.d .str x0)] : List (TV EE.T)).map (TV.to EE.toEnc ρ)) [] (fun out H => out = .ret ((ref_IsName_u r).to EE.toEnc ρ) ∧ H = []) :=
  (fn_ok (bodyOf 0 Try.f12) 34 mixed (w12Gok N) Try.func12 (by kernel_rfl) rfl rfl rfl rfl (w12oE0 x0 h) ρ).mono fun out H h => KPost.ret rfl h
def ref_IsName_h (N : Nat) : List (TV EE.T) → PV EE.T
  | [u0] => match argD .str u0 with
    | some x0 => .opt (ref_IsName N x0) ref_IsName_u
    | _ => .bad
  | _ => .bad
theorem ref_IsName_hok (N : Nat) (us : List (TV EE.T)) : (ref_IsName_h N us).ok fun u => ∀ ρ, ACalls Try.prog 12 (us.map (TV.to EE.toEnc ρ)) [] (fun out H => out = .ret (u.to EE.toEnc ρ) ∧ H = []) := by
  unfold ref_IsName_h
  split
  · split
    · rename_i h0
      intro z hz ρ; refine acalls_le ?_ (ref_IsName_ok _ hz ρ); exact ⟨argD_le h0 ρ, trivial⟩
    · trivial
  · trivial
/-! ### gleaner/gleanerref.EachLabel -/
/-! ### gleaner/gleanerref.CheckLabels -/
/-! ### gleaner/gleanerref.ValueOf -/
def ref_ValueOf_u (r : List UInt8) : TV EE.T := .a (.d .str r)
def w11enc (r : List UInt8) : RL EE.T := .ret (ref_ValueOf_u r) []
def w11lv : Lvs := ⟨[], [(2, ⟨[(0, false), (1, false), (5, false)], [], []⟩)], [], [], false, [], []⟩
def w11rs : List ResultVar := [.tmp 4]
def w11G (N : Nat) : Gam EE := ⟨[], EQT, [], []⟩
theorem w11Gok (N : Nat) : GOk Try.prog TT EE (w11G N) := GOk.nil EQT_ok
def w11kL2 (c : Code) : List It2 := atL 2 c
def w11sL2 (x0 : List VLabel) (x1 : List UInt8) (x5 : Int) : TS EE.T := ⟨24, [(0, .a (.d (.sl (.nam 2)) x0)), (1, .a (.d .str x1)), (5, .a (.d (.int .i64) x5))], [], []⟩
def w11kE0 (c : Code) : List It2 := [.c c]
def w11sE0 (x0 : List VLabel) (x1 : List UInt8) : TS EE.T := ⟨24, [(0, .a (.d (.sl (.nam 2)) x0)), (1, .a (.d .str x1))], [], []⟩
def w11TL2 (c : Code) (N : Nat) (n : Nat) (x0 : List VLabel) (x1 : List UInt8) (x5 : Int) : Tree (Lf EE.T × Option (List UInt8)) :=
  .cond (decide (x5 < (x0.length : Int)))
  (
    .bnd (idxC x0 x5) fun z1 =>
    .cond (decide (z1.Name = x1))
    (
      .bnd (idxC x0 x5) fun z2 =>
      .leaf (.done (w11enc z2.Value), some z2.Value))
    (
      .leaf (.go (w11kL2 c) (w11sL2 x0 x1 (w64 (x5 + 1))), ref_ValueOf_L2 N n x0 x1 (w64 (x5 + 1)))))
  (
    .leaf (.done (w11enc ([] : List UInt8)), some ([] : List UInt8)))
theorem w11vL2 (N : Nat) (n : Nat) (x0 : List VLabel) (x1 : List UInt8) (x5 : Int) : evM TT EE (w11G N) w11lv w11rs 4000 true (w11kL2 (bodyOf 0 Try.f11)) (w11sL2 x0 x1 x5) = (w11TL2 (bodyOf 0 Try.f11) N n x0 x1 x5).map1 := by kernel_rfl
theorem w11nL2 (N : Nat) (n : Nat) (x0 : List VLabel) (x1 : List UInt8) (x5 : Int) : ref_ValueOf_L2 N (n + 1) x0 x1 x5 = (w11TL2 (bodyOf 0 Try.f11) N n x0 x1 x5).run := by kernel_rfl
theorem w11oL2 {N : Nat} {r : List UInt8} : ∀ (n : Nat) (x0 : List VLabel) (x1 : List UInt8) (x5 : Int), ref_ValueOf_L2 N n x0 x1 x5 = some r → Ends (Y := TT) EE (w11G N) w11lv w11rs (fun u => u = w11enc r) (w11kL2 (bodyOf 0 Try.f11)) (w11sL2 x0 x1 x5)
  | 0, _, _, _, h => by cases h
  | n + 1, x0, x1, x5, h => tree_use (w11vL2 N n x0 x1 x5) (w11nL2 N n x0 x1 x5) h (show (w11TL2 (bodyOf 0 Try.f11) N n x0 x1 x5).all _ from ⟨fun _ => ⟨fun _ => retp (enc := w11enc) rfl, fun h => (w11oL2 n) _ _ _ h⟩, retp (enc := w11enc) rfl⟩)
def w11TE0 (c : Code) (N : Nat) (x0 : List VLabel) (x1 : List UInt8) : Tree (Lf EE.T × Option (List UInt8)) :=
  .leaf (.go (w11kL2 c) (w11sL2 x0 x1 0), ref_ValueOf_L2 N N x0 x1 0)
theorem w11vE0 (N : Nat) (x0 : List VLabel) (x1 : List UInt8) : evM TT EE (w11G N) w11lv w11rs 4000 true (w11kE0 (bodyOf 0 Try.f11)) (w11sE0 x0 x1) = (w11TE0 (bodyOf 0 Try.f11) N x0 x1).map1 := by kernel_rfl
theorem w11nE0 (N : Nat) (x0 : List VLabel) (x1 : List UInt8) : ref_ValueOf N x0 x1 = (w11TE0 (bodyOf 0 Try.f11) N x0 x1).run := by kernel_rfl
theorem w11oE0 {N : Nat} {r : List UInt8} (x0 : List VLabel) (x1 : List UInt8) (h : ref_ValueOf N x0 x1 = some r) : Ends (Y := TT) EE (w11G N) w11lv w11rs (fun u => u = w11enc r) (w11kE0 (bodyOf 0 Try.f11)) (w11sE0 x0 x1) :=
  tree_use (w11vE0 N x0 x1) (w11nE0 N x0 x1) h (show (w11TE0 (bodyOf 0 Try.f11) N x0 x1).all _ from fun h => w11oL2 N _ _ _ h)
theorem ref_ValueOf_ok {N : Nat} (x0 : List VLabel) (x1 : List UInt8) {r : List UInt8} (h : ref_ValueOf N x0 x1 = some r) (ρ : Nat → Nat) : ACalls Try.prog 11 (([.a (.d (.sl (.nam 2)) x0), .a (.d .str x1)] : List (TV EE.T)).map (TV.to EE.toEnc ρ)) [] (fun out H => out = .ret ((ref_ValueOf_u r).to EE.toEnc ρ) ∧ H = []) :=
  (fn_ok (bodyOf 0 Try.f11) 24 mixed (w11Gok N) Try.func11 (by kernel_rfl) rfl rfl rfl rfl (w11oE0 x0 x1 h) ρ).mono fun out H h => KPost.ret rfl h
def ref_ValueOf_h (N : Nat) : List (TV EE.T) → PV EE.T
  | [u0, u1] => match argD (.sl (.nam 2)) u0, argD .str u1 with
    | some x0, some x1 => .opt (ref_ValueOf N x0 x1) ref_ValueOf_u
    | _, _ => .bad
  | _ => .bad
theorem ref_ValueOf_hok (N : Nat) (us : List (TV EE.T)) : (ref_ValueOf_h N us).ok fun u => ∀ ρ, ACalls Try.prog 11 (us.map (TV.to EE.toEnc ρ)) [] (fun out H => out = .ret (u.to EE.toEnc ρ) ∧ H = []) := by
  unfold ref_ValueOf_h
  split
  · split
    · rename_i h0 h1
      intro z hz ρ; refine acalls_le ?_ (ref_ValueOf_ok _ _ hz ρ); exact ⟨argD_le h0 ρ, argD_le h1 ρ, trivial⟩
    · trivial
  · trivial
/-! ### gleaner/gleanerref.TextOf -/
end Go.Proofs.Ytgmlkhfjhogdbaa
