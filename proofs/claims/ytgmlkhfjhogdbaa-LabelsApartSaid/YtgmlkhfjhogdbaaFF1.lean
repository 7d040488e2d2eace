-- slim: written by gen/slim.py from XFF1.f.lean.tpl
/- The walks that prove plain functions right, written by gen/tgl.py. -/
import Derived.Test.YtgmlkhfjhogdbaaFF1p
import Derived.Test.YtgmlkhfjhogdbaaTX
namespace Go.Proofs.Ytgmlkhfjhogdbaa
open Go.RowKit P
set_option linter.unusedVariables false
set_option linter.unusedSimpArgs false
set_option maxRecDepth 100000
/-! ### gleaner/labels.sum -/
def labels_sum_u (r : Int) : TV EE.T := .a (.d (.int .u64) r)
def w46enc (r : Int) : RL EE.T := .ret (labels_sum_u r) []
def w46lv : Lvs := ⟨[], [(2, ⟨[(0, false), (10, false), (11, false), (12, false)], [], []⟩)], [], [], false, [], []⟩
def w46rs : List ResultVar := [.tmp 4]
def w46G (N : Nat) : Gam EE := ⟨[], EQT, [], []⟩
theorem w46Gok (N : Nat) : GOk Try.prog TT EE (w46G N) := GOk.nil EQT_ok
def w46kL2 (c : Code) : List It2 := atL 2 c
def w46sL2 (x0 : Int) (x10 : List UInt8) (x11 : Int) (x12 : Int) : TS EE.T := ⟨23, [(0, .a (.d (.int .u64) x0)), (10, .a (.own .byte x10)), (11, .a (.d (.int .i64) x11)), (12, .a (.d (.int .i64) x12))], [], []⟩
def w46kE0 (c : Code) : List It2 := [.c c]
def w46sE0 (x0 : Int) (x1 : List UInt8) : TS EE.T := ⟨23, [(0, .a (.d (.int .u64) x0)), (1, .a (.d .str x1))], [], []⟩
def w46TL2 (c : Code) (N : Nat) (n : Nat) (x0 : Int) (x10 : List UInt8) (x11 : Int) (x12 : Int) : Tree (Lf EE.T × Option Int) :=
  .cond (decide (x12 < x11))
  (
    .bnd (idxC x10 x12) fun z2 =>
    .leaf (.go (w46kL2 c) (w46sL2 (IntKind.wrap .u64 ((bits .xor .u64 x0 (IntKind.wrap .u64 (b2i z2))) * 1099511628211)) x10 x11 (w64 (x12 + 1))), labels_sum_L2 N n (IntKind.wrap .u64 ((bits .xor .u64 x0 (IntKind.wrap .u64 (b2i z2))) * 1099511628211)) x10 x11 (w64 (x12 + 1))))
  (
    .leaf (.done (w46enc x0), some x0))
theorem w46vL2 (N : Nat) (n : Nat) (x0 : Int) (x10 : List UInt8) (x11 : Int) (x12 : Int) : evM TT EE (w46G N) w46lv w46rs 4000 true (w46kL2 (bodyOf 0 Try.f46)) (w46sL2 x0 x10 x11 x12) = (w46TL2 (bodyOf 0 Try.f46) N n x0 x10 x11 x12).map1 := by kernel_rfl
theorem w46nL2 (N : Nat) (n : Nat) (x0 : Int) (x10 : List UInt8) (x11 : Int) (x12 : Int) : labels_sum_L2 N (n + 1) x0 x10 x11 x12 = (w46TL2 (bodyOf 0 Try.f46) N n x0 x10 x11 x12).run := by kernel_rfl
theorem w46oL2 {N : Nat} {r : Int} : ∀ (n : Nat) (x0 : Int) (x10 : List UInt8) (x11 : Int) (x12 : Int), labels_sum_L2 N n x0 x10 x11 x12 = some r → Ends (Y := TT) EE (w46G N) w46lv w46rs (fun u => u = w46enc r) (w46kL2 (bodyOf 0 Try.f46)) (w46sL2 x0 x10 x11 x12)
  | 0, _, _, _, _, h => by cases h
  | n + 1, x0, x10, x11, x12, h => tree_use (w46vL2 N n x0 x10 x11 x12) (w46nL2 N n x0 x10 x11 x12) h (show (w46TL2 (bodyOf 0 Try.f46) N n x0 x10 x11 x12).all _ from ⟨fun _ => fun h => (w46oL2 n) _ _ _ _ h, retp (enc := w46enc) rfl⟩)
def w46TE0 (c : Code) (N : Nat) (x0 : Int) (x1 : List UInt8) : Tree (Lf EE.T × Option Int) :=
  .bnd (appC 1 x1 ([255] : List UInt8)) fun z1 =>
  .leaf (.go (w46kL2 c) (w46sL2 x0 z1 (z1.length : Int) 0), labels_sum_L2 N N x0 z1 (z1.length : Int) 0)
theorem w46vE0 (N : Nat) (x0 : Int) (x1 : List UInt8) : evM TT EE (w46G N) w46lv w46rs 4000 true (w46kE0 (bodyOf 0 Try.f46)) (w46sE0 x0 x1) = (w46TE0 (bodyOf 0 Try.f46) N x0 x1).map1 := by kernel_rfl
theorem w46nE0 (N : Nat) (x0 : Int) (x1 : List UInt8) : labels_sum N x0 x1 = (w46TE0 (bodyOf 0 Try.f46) N x0 x1).run := by kernel_rfl
theorem w46oE0 {N : Nat} {r : Int} (x0 : Int) (x1 : List UInt8) (h : labels_sum N x0 x1 = some r) : Ends (Y := TT) EE (w46G N) w46lv w46rs (fun u => u = w46enc r) (w46kE0 (bodyOf 0 Try.f46)) (w46sE0 x0 x1) :=
  tree_use (w46vE0 N x0 x1) (w46nE0 N x0 x1) h (show (w46TE0 (bodyOf 0 Try.f46) N x0 x1).all _ from fun _ => fun h => w46oL2 N _ _ _ _ h)
theorem labels_sum_ok {N : Nat} (x0 : Int) (x1 : List UInt8) {r : Int} (h : labels_sum N x0 x1 = some r) (ρ : Nat → Nat) : ACalls Try.prog 46 (([.a (.d (.int .u64) x0), .a (.d .str x1)] : List (TV EE.T)).map (TV.to EE.toEnc ρ)) [] (fun out H => out = .ret ((labels_sum_u r).to EE.toEnc ρ) ∧ H = []) :=
  (fn_ok (bodyOf 0 Try.f46) 23 mixed (w46Gok N) Try.func46 (by kernel_rfl) rfl rfl rfl rfl (w46oE0 x0 x1 h) ρ).mono fun out H h => KPost.ret rfl h
def labels_sum_h (N : Nat) : List (TV EE.T) → PV EE.T
  | [u0, u1] => match argD (.int .u64) u0, argD .str u1 with
    | some x0, some x1 => .opt (labels_sum N x0 x1) labels_sum_u
    | _, _ => .bad
  | _ => .bad
theorem labels_sum_hok (N : Nat) (us : List (TV EE.T)) : (labels_sum_h N us).ok fun u => ∀ ρ, ACalls Try.prog 46 (us.map (TV.to EE.toEnc ρ)) [] (fun out H => out = .ret (u.to EE.toEnc ρ) ∧ H = []) := by
  unfold labels_sum_h
  split
  · split
    · rename_i h0 h1
      intro z hz ρ; refine acalls_le ?_ (labels_sum_ok _ _ hz ρ); exact ⟨argD_le h0 ρ, argD_le h1 ρ, trivial⟩
    · trivial
  · trivial
/-! ### gleaner/labels.RawSum -/
def labels_RawSum_u (r : Int) : TV EE.T := .a (.d (.int .u64) r)
def w31enc (r : Int) : RL EE.T := .ret (labels_RawSum_u r) []
def w31lv : Lvs := ⟨[(5, ⟨[(3, false), (5, false), (6, false), (7, false), (8, false)], [], [(5, (some 2, []))]⟩)], [(3, ⟨[(3, false), (6, false), (7, false), (8, false)], [], []⟩)], [], [], false, [], []⟩
def w31rs : List ResultVar := [.tmp 2]
def w31G (N : Nat) : Gam EE := ⟨[⟨46, labels_sum_h N⟩], EQT, [], []⟩
theorem w31Gok (N : Nat) : GOk Try.prog TT EE (w31G N) := GOk.cons (labels_sum_hok N) (GOk.nil EQT_ok)
def w31kL3 (c : Code) : List It2 := atL 3 c
def w31sL3 (x3 : Int) (x6 : List VLabel) (x7 : Int) (x8 : Int) : TS EE.T := ⟨21, [(3, .a (.d (.int .u64) x3)), (6, .a (.d (.sl (.nam 2)) x6)), (7, .a (.d (.int .i64) x7)), (8, .a (.d (.int .i64) x8))], [], []⟩
def w31kE0 (c : Code) : List It2 := [.c c]
def w31sE0 (x0 : List VLabel) : TS EE.T := ⟨21, [(0, .a (.d (.sl (.nam 2)) x0))], [], []⟩
def w31TL3 (c : Code) (N : Nat) (n : Nat) (x3 : Int) (x6 : List VLabel) (x7 : Int) (x8 : Int) : Tree (Lf EE.T × Option Int) :=
  .cond (decide (x8 < x7))
  (
    .bnd (idxC x6 x8) fun z1 =>
    .bnd (labels_sum N x3 z1.Name) fun z2 =>
    .bnd (labels_sum N z2 z1.Value) fun z3 =>
    .leaf (.go (w31kL3 c) (w31sL3 z3 x6 x7 (w64 (x8 + 1))), labels_RawSum_L3 N n z3 x6 x7 (w64 (x8 + 1))))
  (
    .leaf (.done (w31enc x3), some x3))
theorem w31vL3 (N : Nat) (n : Nat) (x3 : Int) (x6 : List VLabel) (x7 : Int) (x8 : Int) : evM TT EE (w31G N) w31lv w31rs 4000 true (w31kL3 (bodyOf 0 Try.f31)) (w31sL3 x3 x6 x7 x8) = (w31TL3 (bodyOf 0 Try.f31) N n x3 x6 x7 x8).map1 := by kernel_rfl
theorem w31nL3 (N : Nat) (n : Nat) (x3 : Int) (x6 : List VLabel) (x7 : Int) (x8 : Int) : labels_RawSum_L3 N (n + 1) x3 x6 x7 x8 = (w31TL3 (bodyOf 0 Try.f31) N n x3 x6 x7 x8).run := by kernel_rfl
theorem w31oL3 {N : Nat} {r : Int} : ∀ (n : Nat) (x3 : Int) (x6 : List VLabel) (x7 : Int) (x8 : Int), labels_RawSum_L3 N n x3 x6 x7 x8 = some r → Ends (Y := TT) EE (w31G N) w31lv w31rs (fun u => u = w31enc r) (w31kL3 (bodyOf 0 Try.f31)) (w31sL3 x3 x6 x7 x8)
  | 0, _, _, _, _, h => by cases h
  | n + 1, x3, x6, x7, x8, h => tree_use (w31vL3 N n x3 x6 x7 x8) (w31nL3 N n x3 x6 x7 x8) h (show (w31TL3 (bodyOf 0 Try.f31) N n x3 x6 x7 x8).all _ from ⟨fun _ => fun _ => fun _ => fun h => (w31oL3 n) _ _ _ _ h, retp (enc := w31enc) rfl⟩)
def w31TE0 (c : Code) (N : Nat) (x0 : List VLabel) : Tree (Lf EE.T × Option Int) :=
  .leaf (.go (w31kL3 c) (w31sL3 14695981039346656037 x0 (x0.length : Int) 0), labels_RawSum_L3 N N 14695981039346656037 x0 (x0.length : Int) 0)
theorem w31vE0 (N : Nat) (x0 : List VLabel) : evM TT EE (w31G N) w31lv w31rs 4000 true (w31kE0 (bodyOf 0 Try.f31)) (w31sE0 x0) = (w31TE0 (bodyOf 0 Try.f31) N x0).map1 := by kernel_rfl
theorem w31nE0 (N : Nat) (x0 : List VLabel) : labels_RawSum N x0 = (w31TE0 (bodyOf 0 Try.f31) N x0).run := by kernel_rfl
theorem w31oE0 {N : Nat} {r : Int} (x0 : List VLabel) (h : labels_RawSum N x0 = some r) : Ends (Y := TT) EE (w31G N) w31lv w31rs (fun u => u = w31enc r) (w31kE0 (bodyOf 0 Try.f31)) (w31sE0 x0) :=
  tree_use (w31vE0 N x0) (w31nE0 N x0) h (show (w31TE0 (bodyOf 0 Try.f31) N x0).all _ from fun h => w31oL3 N _ _ _ _ h)
theorem labels_RawSum_ok {N : Nat} (x0 : List VLabel) {r : Int} (h : labels_RawSum N x0 = some r) (ρ : Nat → Nat) : ACalls Try.prog 31 (([.a (.d (.sl (.nam 2)) x0)] : List (TV EE.T)).map (TV.to EE.toEnc ρ)) [] (fun out H => out = .ret ((labels_RawSum_u r).to EE.toEnc ρ) ∧ H = []) :=
  (fn_ok (bodyOf 0 Try.f31) 21 mixed (w31Gok N) Try.func31 (by kernel_rfl) rfl rfl rfl rfl (w31oE0 x0 h) ρ).mono fun out H h => KPost.ret rfl h
def labels_RawSum_h (N : Nat) : List (TV EE.T) → PV EE.T
  | [u0] => match argD (.sl (.nam 2)) u0 with
    | some x0 => .opt (labels_RawSum N x0) labels_RawSum_u
    | _ => .bad
  | _ => .bad
theorem labels_RawSum_hok (N : Nat) (us : List (TV EE.T)) : (labels_RawSum_h N us).ok fun u => ∀ ρ, ACalls Try.prog 31 (us.map (TV.to EE.toEnc ρ)) [] (fun out H => out = .ret (u.to EE.toEnc ρ) ∧ H = []) := by
  unfold labels_RawSum_h
  split
  · split
    · rename_i h0
      intro z hz ρ; refine acalls_le ?_ (labels_RawSum_ok _ hz ρ); exact ⟨argD_le h0 ρ, trivial⟩
    · trivial
  · trivial
/-! ### gleaner/labels.Sum -/
def labels_Sum_u (r : Int × Int) : TV EE.T := .tu [.a (.d (.int .u64) r.1), .a (.d (.int .i64) r.2)]
def w20enc (r : Int × Int) : RL EE.T := .ret (labels_Sum_u r) []
def w20lv : Lvs := ⟨[], [], [], [], false, [], []⟩
def w20rs : List ResultVar := [.tmp 2, .tmp 3]
def w20G (N : Nat) : Gam EE := ⟨[⟨31, labels_RawSum_h N⟩, ⟨14, labels_check_h N⟩], EQT, [], []⟩
theorem w20Gok (N : Nat) : GOk Try.prog TT EE (w20G N) := GOk.cons (labels_RawSum_hok N) (GOk.cons (labels_check_hok N) (GOk.nil EQT_ok))
def w20kE0 (c : Code) : List It2 := [.c c]
def w20sE0 (x0 : List VLabel) : TS EE.T := ⟨13, [(0, .a (.d (.sl (.nam 2)) x0))], [], []⟩
def w20TE0 (c : Code) (N : Nat) (x0 : List VLabel) : Tree (Lf EE.T × Option (Int × Int)) :=
  .bnd (labels_check N ([x0] : List (List VLabel))) fun z1 =>
  .cond (z1 != 0)
  (
    .leaf (.done (w20enc (0, z1)), some (0, z1)))
  (
    .bnd (labels_RawSum N x0) fun z2 =>
    .leaf (.done (w20enc (z2, 0)), some (z2, 0)))
theorem w20vE0 (N : Nat) (x0 : List VLabel) : evM TT EE (w20G N) w20lv w20rs 4000 true (w20kE0 (bodyOf 0 Try.f20)) (w20sE0 x0) = (w20TE0 (bodyOf 0 Try.f20) N x0).map1 := by kernel_rfl
theorem w20nE0 (N : Nat) (x0 : List VLabel) : labels_Sum N x0 = (w20TE0 (bodyOf 0 Try.f20) N x0).run := by kernel_rfl
theorem w20oE0 {N : Nat} {r : Int × Int} (x0 : List VLabel) (h : labels_Sum N x0 = some r) : Ends (Y := TT) EE (w20G N) w20lv w20rs (fun u => u = w20enc r) (w20kE0 (bodyOf 0 Try.f20)) (w20sE0 x0) :=
  tree_use (w20vE0 N x0) (w20nE0 N x0) h (show (w20TE0 (bodyOf 0 Try.f20) N x0).all _ from fun _ => ⟨retp (enc := w20enc) rfl, fun _ => retp (enc := w20enc) rfl⟩)
theorem labels_Sum_ok {N : Nat} (x0 : List VLabel) {r : Int × Int} (h : labels_Sum N x0 = some r) (ρ : Nat → Nat) : ACalls Try.prog 20 (([.a (.d (.sl (.nam 2)) x0)] : List (TV EE.T)).map (TV.to EE.toEnc ρ)) [] (fun out H => out = .ret ((labels_Sum_u r).to EE.toEnc ρ) ∧ H = []) :=
  (fn_ok (bodyOf 0 Try.f20) 13 mixed (w20Gok N) Try.func20 (by kernel_rfl) rfl rfl rfl rfl (w20oE0 x0 h) ρ).mono fun out H h => KPost.ret rfl h
def labels_Sum_h (N : Nat) : List (TV EE.T) → PV EE.T
  | [u0] => match argD (.sl (.nam 2)) u0 with
    | some x0 => .opt (labels_Sum N x0) labels_Sum_u
    | _ => .bad
  | _ => .bad
theorem labels_Sum_hok (N : Nat) (us : List (TV EE.T)) : (labels_Sum_h N us).ok fun u => ∀ ρ, ACalls Try.prog 20 (us.map (TV.to EE.toEnc ρ)) [] (fun out H => out = .ret (u.to EE.toEnc ρ) ∧ H = []) := by
  unfold labels_Sum_h
  split
  · split
    · rename_i h0
      intro z hz ρ; refine acalls_le ?_ (labels_Sum_ok _ hz ρ); exact ⟨argD_le h0 ρ, trivial⟩
    · trivial
  · trivial
/-! ### gleaner/gleanerlaw.labelsBegun -/
def law_labelsBegun_u (r : Bool) : TV EE.T := .a (.d .bool r)
def w8enc (r : Bool) : RL EE.T := .ret (law_labelsBegun_u r) []
def w8lv : Lvs := ⟨[], [], [], [], false, [], []⟩
def w8rs : List ResultVar := [.tmp 0]
def w8G (N : Nat) : Gam EE := ⟨[⟨20, labels_Sum_h N⟩, ⟨5, labels_Text_h N⟩], EQT, [], []⟩
theorem w8Gok (N : Nat) : GOk Try.prog TT EE (w8G N) := GOk.cons (labels_Sum_hok N) (GOk.cons (labels_Text_hok N) (GOk.nil EQT_ok))
def w8kE0 (c : Code) : List It2 := [.c c]
def w8sE0 : TS EE.T := ⟨30, [], [], []⟩
def w8TE0 (c : Code) (N : Nat) : Tree (Lf EE.T × Option Bool) :=
  .bnd (labels_Text N ([({ Name := ([95, 95, 110, 97, 109, 101, 95, 95] : List UInt8), Value := ([117, 112] : List UInt8) } : VLabel), ({ Name := ([106, 111, 98] : List UInt8), Value := ([120] : List UInt8) } : VLabel)] : List VLabel)) fun z1 =>
  .bnd (labels_Sum N ([] : List VLabel)) fun z2 =>
  .cond (z1.2 == 0)
  (
    .cond (decide (z1.1 = ([117, 112, 123, 106, 111, 98, 61, 34, 120, 34, 125] : List UInt8)))
    (
      .cond (z2.2 == 0)
      (
        .leaf (.done (w8enc (z2.1 == 14695981039346656037)), some (z2.1 == 14695981039346656037)))
      (
        .leaf (.done (w8enc false), some false)))
    (
      .leaf (.done (w8enc false), some false)))
  (
    .leaf (.done (w8enc false), some false))
theorem w8vE0 (N : Nat) : evM TT EE (w8G N) w8lv w8rs 4000 true (w8kE0 (bodyOf 0 Try.f8)) (w8sE0) = (w8TE0 (bodyOf 0 Try.f8) N).map1 := by kernel_rfl
theorem w8nE0 (N : Nat) : law_labelsBegun N = (w8TE0 (bodyOf 0 Try.f8) N).run := by kernel_rfl
theorem w8oE0 {N : Nat} {r : Bool} (h : law_labelsBegun N = some r) : Ends (Y := TT) EE (w8G N) w8lv w8rs (fun u => u = w8enc r) (w8kE0 (bodyOf 0 Try.f8)) (w8sE0) :=
  tree_use (w8vE0 N) (w8nE0 N) h (show (w8TE0 (bodyOf 0 Try.f8) N).all _ from fun _ => fun _ => ⟨⟨⟨retp (enc := w8enc) rfl, retp (enc := w8enc) rfl⟩, retp (enc := w8enc) rfl⟩, retp (enc := w8enc) rfl⟩)
theorem law_labelsBegun_ok {N : Nat} {r : Bool} (h : law_labelsBegun N = some r) (ρ : Nat → Nat) : ACalls Try.prog 8 (([] : List (TV EE.T)).map (TV.to EE.toEnc ρ)) [] (fun out H => out = .ret ((law_labelsBegun_u r).to EE.toEnc ρ) ∧ H = []) :=
  (fn_ok (bodyOf 0 Try.f8) 30 mixed (w8Gok N) Try.func8 (by kernel_rfl) rfl rfl rfl rfl (w8oE0 h) ρ).mono fun out H h => KPost.ret rfl h
def law_labelsBegun_h (N : Nat) : List (TV EE.T) → PV EE.T
  | [] => .opt (law_labelsBegun N) law_labelsBegun_u
  | _ => .bad
theorem law_labelsBegun_hok (N : Nat) (us : List (TV EE.T)) : (law_labelsBegun_h N us).ok fun u => ∀ ρ, ACalls Try.prog 8 (us.map (TV.to EE.toEnc ρ)) [] (fun out H => out = .ret (u.to EE.toEnc ρ) ∧ H = []) := by
  unfold law_labelsBegun_h
  split
  · intro z hz ρ; exact law_labelsBegun_ok hz ρ
  · trivial
/-! ### gleaner/gleanerlaw.textIs -/
/-! ### gleaner/gleanerlaw.LabelsTexts -/
/-! ### cmp.Or[int] -/
def cmp_Or_int__u (r : Int) : TV EE.T := .a (.d (.int .i64) r)
def w34enc (r : Int) : RL EE.T := .ret (cmp_Or_int__u r) []
def w34lv : Lvs := ⟨[], [(3, ⟨[(3, false), (6, false), (7, false), (8, false)], [], []⟩)], [], [], false, [], []⟩
def w34rs : List ResultVar := [.tmp 2]
def w34G (N : Nat) : Gam EE := ⟨[], EQT, [], []⟩
theorem w34Gok (N : Nat) : GOk Try.prog TT EE (w34G N) := GOk.nil EQT_ok
def w34kL3 (c : Code) : List It2 := atL 3 c
def w34sL3 (x3 : Int) (x6 : List Int) (x7 : Int) (x8 : Int) : TS EE.T := ⟨18, [(3, .a (.d (.int .i64) x3)), (6, .a (.d (.sl (.int .i64)) x6)), (7, .a (.d (.int .i64) x7)), (8, .a (.d (.int .i64) x8))], [], []⟩
def w34kE0 (c : Code) : List It2 := [.c c]
def w34sE0 (x0 : List Int) : TS EE.T := ⟨18, [(0, .a (.d (.sl (.int .i64)) x0))], [], []⟩
def w34TL3 (c : Code) (N : Nat) (n : Nat) (x3 : Int) (x6 : List Int) (x7 : Int) (x8 : Int) : Tree (Lf EE.T × Option Int) :=
  .cond (decide (x8 < x7))
  (
    .bnd (idxC x6 x8) fun z1 =>
    .cond (z1 != x3)
    (
      .leaf (.done (w34enc z1), some z1))
    (
      .leaf (.go (w34kL3 c) (w34sL3 x3 x6 x7 (w64 (x8 + 1))), cmp_Or_int__L3 N n x3 x6 x7 (w64 (x8 + 1)))))
  (
    .leaf (.done (w34enc x3), some x3))
theorem w34vL3 (N : Nat) (n : Nat) (x3 : Int) (x6 : List Int) (x7 : Int) (x8 : Int) : evM TT EE (w34G N) w34lv w34rs 4000 true (w34kL3 (bodyOf 0 Try.f34)) (w34sL3 x3 x6 x7 x8) = (w34TL3 (bodyOf 0 Try.f34) N n x3 x6 x7 x8).map1 := by kernel_rfl
theorem w34nL3 (N : Nat) (n : Nat) (x3 : Int) (x6 : List Int) (x7 : Int) (x8 : Int) : cmp_Or_int__L3 N (n + 1) x3 x6 x7 x8 = (w34TL3 (bodyOf 0 Try.f34) N n x3 x6 x7 x8).run := by kernel_rfl
theorem w34oL3 {N : Nat} {r : Int} : ∀ (n : Nat) (x3 : Int) (x6 : List Int) (x7 : Int) (x8 : Int), cmp_Or_int__L3 N n x3 x6 x7 x8 = some r → Ends (Y := TT) EE (w34G N) w34lv w34rs (fun u => u = w34enc r) (w34kL3 (bodyOf 0 Try.f34)) (w34sL3 x3 x6 x7 x8)
  | 0, _, _, _, _, h => by cases h
  | n + 1, x3, x6, x7, x8, h => tree_use (w34vL3 N n x3 x6 x7 x8) (w34nL3 N n x3 x6 x7 x8) h (show (w34TL3 (bodyOf 0 Try.f34) N n x3 x6 x7 x8).all _ from ⟨fun _ => ⟨retp (enc := w34enc) rfl, fun h => (w34oL3 n) _ _ _ _ h⟩, retp (enc := w34enc) rfl⟩)
def w34TE0 (c : Code) (N : Nat) (x0 : List Int) : Tree (Lf EE.T × Option Int) :=
  .leaf (.go (w34kL3 c) (w34sL3 0 x0 (x0.length : Int) 0), cmp_Or_int__L3 N N 0 x0 (x0.length : Int) 0)
theorem w34vE0 (N : Nat) (x0 : List Int) : evM TT EE (w34G N) w34lv w34rs 4000 true (w34kE0 (bodyOf 0 Try.f34)) (w34sE0 x0) = (w34TE0 (bodyOf 0 Try.f34) N x0).map1 := by kernel_rfl
theorem w34nE0 (N : Nat) (x0 : List Int) : cmp_Or_int_ N x0 = (w34TE0 (bodyOf 0 Try.f34) N x0).run := by kernel_rfl
theorem w34oE0 {N : Nat} {r : Int} (x0 : List Int) (h : cmp_Or_int_ N x0 = some r) : Ends (Y := TT) EE (w34G N) w34lv w34rs (fun u => u = w34enc r) (w34kE0 (bodyOf 0 Try.f34)) (w34sE0 x0) :=
  tree_use (w34vE0 N x0) (w34nE0 N x0) h (show (w34TE0 (bodyOf 0 Try.f34) N x0).all _ from fun h => w34oL3 N _ _ _ _ h)
theorem cmp_Or_int__ok {N : Nat} (x0 : List Int) {r : Int} (h : cmp_Or_int_ N x0 = some r) (ρ : Nat → Nat) : ACalls Try.prog 34 (([.a (.d (.sl (.int .i64)) x0)] : List (TV EE.T)).map (TV.to EE.toEnc ρ)) [] (fun out H => out = .ret ((cmp_Or_int__u r).to EE.toEnc ρ) ∧ H = []) :=
  (fn_ok (bodyOf 0 Try.f34) 18 mixed (w34Gok N) Try.func34 (by kernel_rfl) rfl rfl rfl rfl (w34oE0 x0 h) ρ).mono fun out H h => KPost.ret rfl h
def cmp_Or_int__h (N : Nat) : List (TV EE.T) → PV EE.T
  | [u0] => match argD (.sl (.int .i64)) u0 with
    | some x0 => .opt (cmp_Or_int_ N x0) cmp_Or_int__u
    | _ => .bad
  | _ => .bad
theorem cmp_Or_int__hok (N : Nat) (us : List (TV EE.T)) : (cmp_Or_int__h N us).ok fun u => ∀ ρ, ACalls Try.prog 34 (us.map (TV.to EE.toEnc ρ)) [] (fun out H => out = .ret (u.to EE.toEnc ρ) ∧ H = []) := by
  unfold cmp_Or_int__h
  split
  · split
    · rename_i h0
      intro z hz ρ; refine acalls_le ?_ (cmp_Or_int__ok _ hz ρ); exact ⟨argD_le h0 ρ, trivial⟩
    · trivial
  · trivial
/-! ### gleaner/labels.Order$1 -/
def labels_Order_1_u (r : Int) : TV EE.T := .a (.d (.int .i64) r)
def w33enc (r : Int) : RL EE.T := .ret (labels_Order_1_u r) []
def w33lv : Lvs := ⟨[(1, ⟨[(2, false), (3, false)], [], [(2, (some 2, [])), (3, (some 2, []))]⟩)], [], [], [], false, [], []⟩
def w33rs : List ResultVar := [.tmp 4]
def w33G (N : Nat) : Gam EE := ⟨[⟨35, cmp_Compare_string__h N⟩, ⟨34, cmp_Or_int__h N⟩], EQT, [], []⟩
theorem w33Gok (N : Nat) : GOk Try.prog TT EE (w33G N) := GOk.cons (cmp_Compare_string__hok N) (GOk.cons (cmp_Or_int__hok N) (GOk.nil EQT_ok))
def w33kE0 (c : Code) : List It2 := [.c c]
def w33sE0 (x0 : VLabel) (x1 : VLabel) : TS EE.T := ⟨17, [(0, .ag (unpT EE (.nam 2) x0)), (1, .ag (unpT EE (.nam 2) x1))], [], []⟩
def w33TE0 (c : Code) (N : Nat) (x0 : VLabel) (x1 : VLabel) : Tree (Lf EE.T × Option Int) :=
  .bnd (cmp_Compare_string_ N x0.Name x1.Name) fun z1 =>
  .bnd (cmp_Compare_string_ N x0.Value x1.Value) fun z2 =>
  .bnd (cmp_Or_int_ N ([z1, z2] : List Int)) fun z3 =>
  .leaf (.done (w33enc z3), some z3)
theorem w33vE0 (N : Nat) (x0 : VLabel) (x1 : VLabel) : evM TT EE (w33G N) w33lv w33rs 4000 true (w33kE0 (bodyOf 0 Try.f33)) (w33sE0 x0 x1) = (w33TE0 (bodyOf 0 Try.f33) N x0 x1).map1 := by kernel_rfl
theorem w33nE0 (N : Nat) (x0 : VLabel) (x1 : VLabel) : labels_Order_1 N x0 x1 = (w33TE0 (bodyOf 0 Try.f33) N x0 x1).run := by kernel_rfl
theorem w33oE0 {N : Nat} {r : Int} (x0 : VLabel) (x1 : VLabel) (h : labels_Order_1 N x0 x1 = some r) : Ends (Y := TT) EE (w33G N) w33lv w33rs (fun u => u = w33enc r) (w33kE0 (bodyOf 0 Try.f33)) (w33sE0 x0 x1) :=
  tree_use (w33vE0 N x0 x1) (w33nE0 N x0 x1) h (show (w33TE0 (bodyOf 0 Try.f33) N x0 x1).all _ from fun _ => fun _ => fun _ => retp (enc := w33enc) rfl)
theorem labels_Order_1_ok {N : Nat} (x0 : VLabel) (x1 : VLabel) {r : Int} (h : labels_Order_1 N x0 x1 = some r) (ρ : Nat → Nat) : ACalls Try.prog 33 (([.ag (unpT EE (.nam 2) x0), .ag (unpT EE (.nam 2) x1)] : List (TV EE.T)).map (TV.to EE.toEnc ρ)) [] (fun out H => out = .ret ((labels_Order_1_u r).to EE.toEnc ρ) ∧ H = []) :=
  (fn_ok (bodyOf 0 Try.f33) 17 mixed (w33Gok N) Try.func33 (by kernel_rfl) rfl rfl rfl rfl (w33oE0 x0 x1 h) ρ).mono fun out H h => KPost.ret rfl h
def labels_Order_1_h (N : Nat) : List (TV EE.T) → PV EE.T
  | [u0, u1] => match argS EE 2 u0, argS EE 2 u1 with
    | some x0, some x1 => .opt (labels_Order_1 N x0 x1) labels_Order_1_u
    | _, _ => .bad
  | _ => .bad
theorem labels_Order_1_hok (N : Nat) (us : List (TV EE.T)) : (labels_Order_1_h N us).ok fun u => ∀ ρ, ACalls Try.prog 33 (us.map (TV.to EE.toEnc ρ)) [] (fun out H => out = .ret (u.to EE.toEnc ρ) ∧ H = []) := by
  unfold labels_Order_1_h
  split
  · split
    · rename_i h0 h1
      intro z hz ρ; refine acalls_le ?_ (labels_Order_1_ok _ _ hz ρ); exact ⟨argS_le h0 ρ, argS_le h1 ρ, trivial⟩
    · trivial
  · trivial
/-! ### slices.CompareFunc[[]gleaner/api.Label,[]gleaner/api.Label,gleaner/api.Label,gleaner/api.Label] -/
def slices_CompareFunc_api_Label_api_Label_api_Label_api_Label__i0_u (r : Int) : TV EE.T := .a (.d (.int .i64) r)
def w32i0hh (r : Int) : List (Nat × TB EE.T) := []
def w32i0enc (r : Int) : RL EE.T := .ret (slices_CompareFunc_api_Label_api_Label_api_Label_api_Label__i0_u r) (w32i0hh r)
def w32i0lv : Lvs := ⟨[], [(2, ⟨[(0, false), (1, false), (2, false), (11, false), (12, false), (13, false)], [], []⟩)], [], [], false, [], []⟩
def w32i0rs : List ResultVar := [.tmp 6]
def w32i0G (N : Nat) : Gam EE := ⟨[], EQT, [⟨33, xOf (labels_Order_1_h N)⟩], []⟩
theorem w32i0Gok (N : Nat) : GOk Try.prog TT EE (w32i0G N) := GOk.consx (xOf_ok (labels_Order_1_hok N)) (GOk.nil EQT_ok)
def w32i0kL2 (c : Code) : List It2 := atL 2 c
def w32i0sL2 (x0 : List VLabel) (x1 : List VLabel) (x11 : List VLabel) (x12 : Int) (x13 : Int) : TS EE.T := ⟨39, [(0, .a (.d (.sl (.nam 2)) x0)), (1, .a (.d (.sl (.nam 2)) x1)), (2, .fn 33 []), (11, .a (.d (.sl (.nam 2)) x11)), (12, .a (.d (.int .i64) x12)), (13, .a (.d (.int .i64) x13))], [], []⟩
def w32i0kE0 (c : Code) : List It2 := [.c c]
def w32i0sE0 (x0 : List VLabel) (x1 : List VLabel) : TS EE.T := ⟨39, [(0, .a (.d (.sl (.nam 2)) x0)), (1, .a (.d (.sl (.nam 2)) x1)), (2, .fn 33 [])], [], []⟩
def w32i0TL2 (c : Code) (N : Nat) (n : Nat) (x0 : List VLabel) (x1 : List VLabel) (x11 : List VLabel) (x12 : Int) (x13 : Int) : Tree (Lf EE.T × Option Int) :=
  .cond (decide (x13 < x12))
  (
    .bnd (idxC x11 x13) fun z1 =>
    .cond (decide (x13 ≥ (x1.length : Int)))
    (
      .leaf (.done (w32i0enc 1), some 1))
    (
      .bnd (idxC x1 x13) fun z2 =>
      .bnd (labels_Order_1 N z1 z2) fun z3 =>
      .cond (z3 != 0)
      (
        .leaf (.done (w32i0enc z3), some z3))
      (
        .leaf (.go (w32i0kL2 c) (w32i0sL2 x0 x1 x11 x12 (w64 (x13 + 1))), slices_CompareFunc_api_Label_api_Label_api_Label_api_Label__i0_L2 N n x0 x1 x11 x12 (w64 (x13 + 1))))))
  (
    .cond (decide ((x0.length : Int) < (x1.length : Int)))
    (
      .leaf (.done (w32i0enc (-1)), some (-1)))
    (
      .leaf (.done (w32i0enc 0), some 0)))
theorem w32i0vL2 (N : Nat) (n : Nat) (x0 : List VLabel) (x1 : List VLabel) (x11 : List VLabel) (x12 : Int) (x13 : Int) : evM TT EE (w32i0G N) w32i0lv w32i0rs 4000 true (w32i0kL2 (bodyOf 0 Try.f32)) (w32i0sL2 x0 x1 x11 x12 x13) = (w32i0TL2 (bodyOf 0 Try.f32) N n x0 x1 x11 x12 x13).map1 := by kernel_rfl
theorem w32i0nL2 (N : Nat) (n : Nat) (x0 : List VLabel) (x1 : List VLabel) (x11 : List VLabel) (x12 : Int) (x13 : Int) : slices_CompareFunc_api_Label_api_Label_api_Label_api_Label__i0_L2 N (n + 1) x0 x1 x11 x12 x13 = (w32i0TL2 (bodyOf 0 Try.f32) N n x0 x1 x11 x12 x13).run := by kernel_rfl
theorem w32i0oL2 {N : Nat} {r : Int} : ∀ (n : Nat) (x0 : List VLabel) (x1 : List VLabel) (x11 : List VLabel) (x12 : Int) (x13 : Int), slices_CompareFunc_api_Label_api_Label_api_Label_api_Label__i0_L2 N n x0 x1 x11 x12 x13 = some r → Ends (Y := TT) EE (w32i0G N) w32i0lv w32i0rs (fun u => u = w32i0enc r) (w32i0kL2 (bodyOf 0 Try.f32)) (w32i0sL2 x0 x1 x11 x12 x13)
  | 0, _, _, _, _, _, h => by cases h
  | n + 1, x0, x1, x11, x12, x13, h => tree_use (w32i0vL2 N n x0 x1 x11 x12 x13) (w32i0nL2 N n x0 x1 x11 x12 x13) h (show (w32i0TL2 (bodyOf 0 Try.f32) N n x0 x1 x11 x12 x13).all _ from ⟨fun _ => ⟨retp (enc := w32i0enc) rfl, fun _ => fun _ => ⟨retp (enc := w32i0enc) rfl, fun h => (w32i0oL2 n) _ _ _ _ _ h⟩⟩, ⟨retp (enc := w32i0enc) rfl, retp (enc := w32i0enc) rfl⟩⟩)
def w32i0TE0 (c : Code) (N : Nat) (x0 : List VLabel) (x1 : List VLabel) : Tree (Lf EE.T × Option Int) :=
  .leaf (.go (w32i0kL2 c) (w32i0sL2 x0 x1 x0 (x0.length : Int) 0), slices_CompareFunc_api_Label_api_Label_api_Label_api_Label__i0_L2 N N x0 x1 x0 (x0.length : Int) 0)
theorem w32i0vE0 (N : Nat) (x0 : List VLabel) (x1 : List VLabel) : evM TT EE (w32i0G N) w32i0lv w32i0rs 4000 true (w32i0kE0 (bodyOf 0 Try.f32)) (w32i0sE0 x0 x1) = (w32i0TE0 (bodyOf 0 Try.f32) N x0 x1).map1 := by kernel_rfl
theorem w32i0nE0 (N : Nat) (x0 : List VLabel) (x1 : List VLabel) : slices_CompareFunc_api_Label_api_Label_api_Label_api_Label__i0 N x0 x1 = (w32i0TE0 (bodyOf 0 Try.f32) N x0 x1).run := by kernel_rfl
theorem w32i0oE0 {N : Nat} {r : Int} (x0 : List VLabel) (x1 : List VLabel) (h : slices_CompareFunc_api_Label_api_Label_api_Label_api_Label__i0 N x0 x1 = some r) : Ends (Y := TT) EE (w32i0G N) w32i0lv w32i0rs (fun u => u = w32i0enc r) (w32i0kE0 (bodyOf 0 Try.f32)) (w32i0sE0 x0 x1) :=
  tree_use (w32i0vE0 N x0 x1) (w32i0nE0 N x0 x1) h (show (w32i0TE0 (bodyOf 0 Try.f32) N x0 x1).all _ from fun h => w32i0oL2 N _ _ _ _ _ h)
def w32i0us (x0 : List VLabel) (x1 : List VLabel) : List (TV EE.T) := [.a (.d (.sl (.nam 2)) x0), .a (.d (.sl (.nam 2)) x1), .fn 33 []]
def w32i0h0 (x0 : List VLabel) (x1 : List VLabel) : List (Nat × TB EE.T) := []
theorem slices_CompareFunc_api_Label_api_Label_api_Label_api_Label__i0_ok {N : Nat} (x0 : List VLabel) (x1 : List VLabel) {r : Int} (h : slices_CompareFunc_api_Label_api_Label_api_Label_api_Label__i0 N x0 x1 = some r) (ρ : Nat → Nat) (hi : Inj ρ (w32i0h0 x0 x1)) : ACalls Try.prog 32 ((w32i0us x0 x1).map (TV.to EE.toEnc ρ)) (hTo EE.toEnc ρ (w32i0h0 x0 x1)) (fun out H => out = .ret ((slices_CompareFunc_api_Label_api_Label_api_Label_api_Label__i0_u r).to EE.toEnc ρ) ∧ H = hTo EE.toEnc ρ (w32i0hh r)) :=
  (fn_okH (bodyOf 0 Try.f32) 39 mixed (w32i0Gok N) Try.func32 (by kernel_rfl) rfl rfl rfl rfl (w32i0oE0 x0 x1 h) ρ hi).mono fun out H h => KPost.retH rfl rfl h
def slices_CompareFunc_api_Label_api_Label_api_Label_api_Label__i0_h (N : Nat) (us : List (TV EE.T)) (hs : List (Nat × TB EE.T)) : XR EE.T :=
  gdX (lenX us 3) <|
  bnX (aD (.sl (.nam 2)) us 0) fun x0 =>
  bnX (aD (.sl (.nam 2)) us 1) fun x1 =>
  bnX (aF 33 us 2) fun c2 =>
  bnX (cbs c2) fun s2 =>
  gdX (lenX s2 0) <|
  gdX (goodIds hs []) <|
  .ret (slices_CompareFunc_api_Label_api_Label_api_Label_api_Label__i0 N x0 x1) [] slices_CompareFunc_api_Label_api_Label_api_Label_api_Label__i0_u (w32i0hh)
theorem slices_CompareFunc_api_Label_api_Label_api_Label_api_Label__i0_hok (N : Nat) : XOk Try.prog EE 32 (slices_CompareFunc_api_Label_api_Label_api_Label_api_Label__i0_h N) := fun us hs =>
  gdX_ok fun h1 => bnX_ok fun x0 h2 => bnX_ok fun x1 h3 => bnX_ok fun c2 h4 => bnX_ok fun s2 h5 => gdX_ok fun h6 => gdX_ok fun h7 => fun z hz => ⟨rfl, fun ρ hi => xcall (us' := w32i0us x0 x1) (h0 := w32i0h0 x0 x1) (ρ' := rhoS ρ []) ⟨aD_le h2, aD_le h3, aF_le (js := []) h4 h5 (by rw [lis0 (lenX_ok h6)];  kernel_rfl), lenX_ok h1⟩ trivial (slices_CompareFunc_api_Label_api_Label_api_Label_api_Label__i0_ok x0 x1 hz _ (rhoS_inj hi h7 _ (by kernel_rfl))) (fun out H h => ⟨h.1.trans (by kernel_rfl), h.2.trans (by kernel_rfl)⟩)⟩
/-! ### gleaner/labels.Order -/
def labels_Order_u (r : Int) : TV EE.T := .a (.d (.int .i64) r)
def w21enc (r : Int) : RL EE.T := .ret (labels_Order_u r) []
def w21lv : Lvs := ⟨[], [], [], [], false, [], []⟩
def w21rs : List ResultVar := [.tmp 4]
def w21G (N : Nat) : Gam EE := ⟨[], EQT, [⟨32, slices_CompareFunc_api_Label_api_Label_api_Label_api_Label__i0_h N⟩], []⟩
theorem w21Gok (N : Nat) : GOk Try.prog TT EE (w21G N) := GOk.consx (slices_CompareFunc_api_Label_api_Label_api_Label_api_Label__i0_hok N) (GOk.nil EQT_ok)
def w21kE0 (c : Code) : List It2 := [.c c]
def w21sE0 (x0 : List VLabel) (x1 : List VLabel) : TS EE.T := ⟨8, [(0, .a (.d (.sl (.nam 2)) x0)), (1, .a (.d (.sl (.nam 2)) x1))], [], []⟩
def w21TE0 (c : Code) (N : Nat) (x0 : List VLabel) (x1 : List VLabel) : Tree (Lf EE.T × Option Int) :=
  .bnd (slices_CompareFunc_api_Label_api_Label_api_Label_api_Label__i0 N x0 x1) fun z1 =>
  .leaf (.done (w21enc z1), some z1)
theorem w21vE0 (N : Nat) (x0 : List VLabel) (x1 : List VLabel) : evM TT EE (w21G N) w21lv w21rs 4000 true (w21kE0 (bodyOf 0 Try.f21)) (w21sE0 x0 x1) = (w21TE0 (bodyOf 0 Try.f21) N x0 x1).map1 := by kernel_rfl
theorem w21nE0 (N : Nat) (x0 : List VLabel) (x1 : List VLabel) : labels_Order N x0 x1 = (w21TE0 (bodyOf 0 Try.f21) N x0 x1).run := by kernel_rfl
theorem w21oE0 {N : Nat} {r : Int} (x0 : List VLabel) (x1 : List VLabel) (h : labels_Order N x0 x1 = some r) : Ends (Y := TT) EE (w21G N) w21lv w21rs (fun u => u = w21enc r) (w21kE0 (bodyOf 0 Try.f21)) (w21sE0 x0 x1) :=
  tree_use (w21vE0 N x0 x1) (w21nE0 N x0 x1) h (show (w21TE0 (bodyOf 0 Try.f21) N x0 x1).all _ from fun _ => retp (enc := w21enc) rfl)
theorem labels_Order_ok {N : Nat} (x0 : List VLabel) (x1 : List VLabel) {r : Int} (h : labels_Order N x0 x1 = some r) (ρ : Nat → Nat) : ACalls Try.prog 21 (([.a (.d (.sl (.nam 2)) x0), .a (.d (.sl (.nam 2)) x1)] : List (TV EE.T)).map (TV.to EE.toEnc ρ)) [] (fun out H => out = .ret ((labels_Order_u r).to EE.toEnc ρ) ∧ H = []) :=
  (fn_ok (bodyOf 0 Try.f21) 8 mixed (w21Gok N) Try.func21 (by kernel_rfl) rfl rfl rfl rfl (w21oE0 x0 x1 h) ρ).mono fun out H h => KPost.ret rfl h
def labels_Order_h (N : Nat) : List (TV EE.T) → PV EE.T
  | [u0, u1] => match argD (.sl (.nam 2)) u0, argD (.sl (.nam 2)) u1 with
    | some x0, some x1 => .opt (labels_Order N x0 x1) labels_Order_u
    | _, _ => .bad
  | _ => .bad
theorem labels_Order_hok (N : Nat) (us : List (TV EE.T)) : (labels_Order_h N us).ok fun u => ∀ ρ, ACalls Try.prog 21 (us.map (TV.to EE.toEnc ρ)) [] (fun out H => out = .ret (u.to EE.toEnc ρ) ∧ H = []) := by
  unfold labels_Order_h
  split
  · split
    · rename_i h0 h1
      intro z hz ρ; refine acalls_le ?_ (labels_Order_ok _ _ hz ρ); exact ⟨argD_le h0 ρ, argD_le h1 ρ, trivial⟩
    · trivial
  · trivial
/-! ### gleaner/labels.Compare -/
def labels_Compare_u (r : Int × Int) : TV EE.T := .tu [.a (.d (.int .i64) r.1), .a (.d (.int .i64) r.2)]
def w10enc (r : Int × Int) : RL EE.T := .ret (labels_Compare_u r) []
def w10lv : Lvs := ⟨[], [], [], [], false, [], []⟩
def w10rs : List ResultVar := [.tmp 4, .tmp 5]
def w10G (N : Nat) : Gam EE := ⟨[⟨21, labels_Order_h N⟩, ⟨14, labels_check_h N⟩], EQT, [], []⟩
theorem w10Gok (N : Nat) : GOk Try.prog TT EE (w10G N) := GOk.cons (labels_Order_hok N) (GOk.cons (labels_check_hok N) (GOk.nil EQT_ok))
def w10kE0 (c : Code) : List It2 := [.c c]
def w10sE0 (x0 : List VLabel) (x1 : List VLabel) : TS EE.T := ⟨17, [(0, .a (.d (.sl (.nam 2)) x0)), (1, .a (.d (.sl (.nam 2)) x1))], [], []⟩
def w10TE0 (c : Code) (N : Nat) (x0 : List VLabel) (x1 : List VLabel) : Tree (Lf EE.T × Option (Int × Int)) :=
  .bnd (labels_check N ([x0, x1] : List (List VLabel))) fun z1 =>
  .cond (z1 != 0)
  (
    .leaf (.done (w10enc (0, z1)), some (0, z1)))
  (
    .bnd (labels_Order N x0 x1) fun z2 =>
    .leaf (.done (w10enc (z2, 0)), some (z2, 0)))
theorem w10vE0 (N : Nat) (x0 : List VLabel) (x1 : List VLabel) : evM TT EE (w10G N) w10lv w10rs 4000 true (w10kE0 (bodyOf 0 Try.f10)) (w10sE0 x0 x1) = (w10TE0 (bodyOf 0 Try.f10) N x0 x1).map1 := by kernel_rfl
theorem w10nE0 (N : Nat) (x0 : List VLabel) (x1 : List VLabel) : labels_Compare N x0 x1 = (w10TE0 (bodyOf 0 Try.f10) N x0 x1).run := by kernel_rfl
theorem w10oE0 {N : Nat} {r : Int × Int} (x0 : List VLabel) (x1 : List VLabel) (h : labels_Compare N x0 x1 = some r) : Ends (Y := TT) EE (w10G N) w10lv w10rs (fun u => u = w10enc r) (w10kE0 (bodyOf 0 Try.f10)) (w10sE0 x0 x1) :=
  tree_use (w10vE0 N x0 x1) (w10nE0 N x0 x1) h (show (w10TE0 (bodyOf 0 Try.f10) N x0 x1).all _ from fun _ => ⟨retp (enc := w10enc) rfl, fun _ => retp (enc := w10enc) rfl⟩)
theorem labels_Compare_ok {N : Nat} (x0 : List VLabel) (x1 : List VLabel) {r : Int × Int} (h : labels_Compare N x0 x1 = some r) (ρ : Nat → Nat) : ACalls Try.prog 10 (([.a (.d (.sl (.nam 2)) x0), .a (.d (.sl (.nam 2)) x1)] : List (TV EE.T)).map (TV.to EE.toEnc ρ)) [] (fun out H => out = .ret ((labels_Compare_u r).to EE.toEnc ρ) ∧ H = []) :=
  (fn_ok (bodyOf 0 Try.f10) 17 mixed (w10Gok N) Try.func10 (by kernel_rfl) rfl rfl rfl rfl (w10oE0 x0 x1 h) ρ).mono fun out H h => KPost.ret rfl h
def labels_Compare_h (N : Nat) : List (TV EE.T) → PV EE.T
  | [u0, u1] => match argD (.sl (.nam 2)) u0, argD (.sl (.nam 2)) u1 with
    | some x0, some x1 => .opt (labels_Compare N x0 x1) labels_Compare_u
    | _, _ => .bad
  | _ => .bad
theorem labels_Compare_hok (N : Nat) (us : List (TV EE.T)) : (labels_Compare_h N us).ok fun u => ∀ ρ, ACalls Try.prog 10 (us.map (TV.to EE.toEnc ρ)) [] (fun out H => out = .ret (u.to EE.toEnc ρ) ∧ H = []) := by
  unfold labels_Compare_h
  split
  · split
    · rename_i h0 h1
      intro z hz ρ; refine acalls_le ?_ (labels_Compare_ok _ _ hz ρ); exact ⟨argD_le h0 ρ, argD_le h1 ρ, trivial⟩
    · trivial
  · trivial
/-! ### gleaner/gleanerref.SameLabels -/
def ref_SameLabels_u (r : Bool) : TV EE.T := .a (.d .bool r)
def w13enc (r : Bool) : RL EE.T := .ret (ref_SameLabels_u r) []
def w13lv : Lvs := ⟨[(6, ⟨[(0, false), (1, false), (5, false)], [], []⟩)], [(4, ⟨[(0, false), (1, false), (5, false)], [], []⟩)], [], [], false, [], []⟩
def w13rs : List ResultVar := [.tmp 4]
def w13G (N : Nat) : Gam EE := ⟨[], EQT, [], []⟩
theorem w13Gok (N : Nat) : GOk Try.prog TT EE (w13G N) := GOk.nil EQT_ok
def w13kL4 (c : Code) : List It2 := atL 4 c
def w13sL4 (x0 : List VLabel) (x1 : List VLabel) (x5 : Int) : TS EE.T := ⟨26, [(0, .a (.d (.sl (.nam 2)) x0)), (1, .a (.d (.sl (.nam 2)) x1)), (5, .a (.d (.int .i64) x5))], [], []⟩
def w13kE0 (c : Code) : List It2 := [.c c]
def w13sE0 (x0 : List VLabel) (x1 : List VLabel) : TS EE.T := ⟨26, [(0, .a (.d (.sl (.nam 2)) x0)), (1, .a (.d (.sl (.nam 2)) x1))], [], []⟩
def w13TL4 (c : Code) (N : Nat) (n : Nat) (x0 : List VLabel) (x1 : List VLabel) (x5 : Int) : Tree (Lf EE.T × Option Bool) :=
  .cond (decide (x5 < (x0.length : Int)))
  (
    .bnd (idxC x0 x5) fun z1 =>
    .bnd (idxC x1 x5) fun z2 =>
    .cond (!(beqS z1.Name z2.Name && (beqS z1.Value z2.Value && true)))
    (
      .leaf (.done (w13enc false), some false))
    (
      .leaf (.go (w13kL4 c) (w13sL4 x0 x1 (w64 (x5 + 1))), ref_SameLabels_L4 N n x0 x1 (w64 (x5 + 1)))))
  (
    .leaf (.done (w13enc true), some true))
theorem w13vL4 (N : Nat) (n : Nat) (x0 : List VLabel) (x1 : List VLabel) (x5 : Int) : evM TT EE (w13G N) w13lv w13rs 4000 true (w13kL4 (bodyOf 0 Try.f13)) (w13sL4 x0 x1 x5) = (w13TL4 (bodyOf 0 Try.f13) N n x0 x1 x5).map1 := by kernel_rfl
theorem w13nL4 (N : Nat) (n : Nat) (x0 : List VLabel) (x1 : List VLabel) (x5 : Int) : ref_SameLabels_L4 N (n + 1) x0 x1 x5 = (w13TL4 (bodyOf 0 Try.f13) N n x0 x1 x5).run := by kernel_rfl
theorem w13oL4 {N : Nat} {r : Bool} : ∀ (n : Nat) (x0 : List VLabel) (x1 : List VLabel) (x5 : Int), ref_SameLabels_L4 N n x0 x1 x5 = some r → Ends (Y := TT) EE (w13G N) w13lv w13rs (fun u => u = w13enc r) (w13kL4 (bodyOf 0 Try.f13)) (w13sL4 x0 x1 x5)
  | 0, _, _, _, h => by cases h
  | n + 1, x0, x1, x5, h => tree_use (w13vL4 N n x0 x1 x5) (w13nL4 N n x0 x1 x5) h (show (w13TL4 (bodyOf 0 Try.f13) N n x0 x1 x5).all _ from ⟨fun _ => fun _ => ⟨retp (enc := w13enc) rfl, fun h => (w13oL4 n) _ _ _ h⟩, retp (enc := w13enc) rfl⟩)
def w13TE0 (c : Code) (N : Nat) (x0 : List VLabel) (x1 : List VLabel) : Tree (Lf EE.T × Option Bool) :=
  .cond ((x0.length : Int) != (x1.length : Int))
  (
    .leaf (.done (w13enc false), some false))
  (
    .leaf (.go (w13kL4 c) (w13sL4 x0 x1 0), ref_SameLabels_L4 N N x0 x1 0))
theorem w13vE0 (N : Nat) (x0 : List VLabel) (x1 : List VLabel) : evM TT EE (w13G N) w13lv w13rs 4000 true (w13kE0 (bodyOf 0 Try.f13)) (w13sE0 x0 x1) = (w13TE0 (bodyOf 0 Try.f13) N x0 x1).map1 := by kernel_rfl
theorem w13nE0 (N : Nat) (x0 : List VLabel) (x1 : List VLabel) : ref_SameLabels N x0 x1 = (w13TE0 (bodyOf 0 Try.f13) N x0 x1).run := by kernel_rfl
theorem w13oE0 {N : Nat} {r : Bool} (x0 : List VLabel) (x1 : List VLabel) (h : ref_SameLabels N x0 x1 = some r) : Ends (Y := TT) EE (w13G N) w13lv w13rs (fun u => u = w13enc r) (w13kE0 (bodyOf 0 Try.f13)) (w13sE0 x0 x1) :=
  tree_use (w13vE0 N x0 x1) (w13nE0 N x0 x1) h (show (w13TE0 (bodyOf 0 Try.f13) N x0 x1).all _ from ⟨retp (enc := w13enc) rfl, fun h => w13oL4 N _ _ _ h⟩)
theorem ref_SameLabels_ok {N : Nat} (x0 : List VLabel) (x1 : List VLabel) {r : Bool} (h : ref_SameLabels N x0 x1 = some r) (ρ : Nat → Nat) : ACalls Try.prog 13 (([.a (.d (.sl (.nam 2)) x0), .a (.d (.sl (.nam 2)) x1)] : List (TV EE.T)).map (TV.to EE.toEnc ρ)) [] (fun out H => out = .ret ((ref_SameLabels_u r).to EE.toEnc ρ) ∧ H = []) :=
  (fn_ok (bodyOf 0 Try.f13) 26 mixed (w13Gok N) Try.func13 (by kernel_rfl) rfl rfl rfl rfl (w13oE0 x0 x1 h) ρ).mono fun out H h => KPost.ret rfl h
def ref_SameLabels_h (N : Nat) : List (TV EE.T) → PV EE.T
  | [u0, u1] => match argD (.sl (.nam 2)) u0, argD (.sl (.nam 2)) u1 with
    | some x0, some x1 => .opt (ref_SameLabels N x0 x1) ref_SameLabels_u
    | _, _ => .bad
  | _ => .bad
theorem ref_SameLabels_hok (N : Nat) (us : List (TV EE.T)) : (ref_SameLabels_h N us).ok fun u => ∀ ρ, ACalls Try.prog 13 (us.map (TV.to EE.toEnc ρ)) [] (fun out H => out = .ret (u.to EE.toEnc ρ) ∧ H = []) := by
  unfold ref_SameLabels_h
  split
  · split
    · rename_i h0 h1
      intro z hz ρ; refine acalls_le ?_ (ref_SameLabels_ok _ _ hz ρ); exact ⟨argD_le h0 ρ, argD_le h1 ρ, trivial⟩
    · trivial
  · trivial
/-! ### gleaner/gleanerlaw.LabelsApart -/
def law_LabelsApart_u (r : Bool) : TV EE.T := .a (.d .bool r)
def w4enc (r : Bool) : RL EE.T := .ret (law_LabelsApart_u r) []
def w4lv : Lvs := ⟨[(12, ⟨[(0, false), (1, false), (5, false), (6, false), (7, false), (8, false), (9, false), (10, false), (11, false), (12, false)], [], []⟩)], [(11, ⟨[(0, false), (1, false), (5, false), (6, false), (7, false), (8, false), (9, false), (10, false), (11, false), (12, false)], [], []⟩)], [12], [], false, [], []⟩
def w4rs : List ResultVar := [.tmp 4]
def w4G (N : Nat) : Gam EE := ⟨[⟨8, law_labelsBegun_h N⟩, ⟨12, ref_IsName_h N⟩, ⟨13, ref_SameLabels_h N⟩, ⟨11, ref_ValueOf_h N⟩, ⟨10, labels_Compare_h N⟩, ⟨5, labels_Text_h N⟩], EQT, [], []⟩
theorem w4Gok (N : Nat) : GOk Try.prog TT EE (w4G N) := GOk.cons (law_labelsBegun_hok N) (GOk.cons (ref_IsName_hok N) (GOk.cons (ref_SameLabels_hok N) (GOk.cons (ref_ValueOf_hok N) (GOk.cons (labels_Compare_hok N) (GOk.cons (labels_Text_hok N) (GOk.nil EQT_ok))))))
def w4kR12 (c : Code) : List It2 := atR 12 c
def w4sR12 (x0 : List VLabel) (x1 : List VLabel) (x5 : List UInt8) (x6 : Int) (x7 : List UInt8) (x8 : Int) (x9 : Int) (x10 : Int) (x11 : Bool) (x12 : Int) : TS EE.T := ⟨96, [(0, .a (.d (.sl (.nam 2)) x0)), (1, .a (.d (.sl (.nam 2)) x1)), (5, .a (.d .str x5)), (6, .a (.d (.int .i64) x6)), (7, .a (.d .str x7)), (8, .a (.d (.int .i64) x8)), (9, .a (.d (.int .i64) x9)), (10, .a (.d (.int .i64) x10)), (11, .a (.d .bool x11)), (12, .a (.d (.int .i64) x12))], [], []⟩
def w4kL11 (c : Code) : List It2 := atL 11 c
def w4sL11 (x0 : List VLabel) (x1 : List VLabel) (x5 : List UInt8) (x6 : Int) (x7 : List UInt8) (x8 : Int) (x9 : Int) (x10 : Int) (x11 : Bool) (x12 : Int) : TS EE.T := ⟨96, [(0, .a (.d (.sl (.nam 2)) x0)), (1, .a (.d (.sl (.nam 2)) x1)), (5, .a (.d .str x5)), (6, .a (.d (.int .i64) x6)), (7, .a (.d .str x7)), (8, .a (.d (.int .i64) x8)), (9, .a (.d (.int .i64) x9)), (10, .a (.d (.int .i64) x10)), (11, .a (.d .bool x11)), (12, .a (.d (.int .i64) x12))], [], []⟩
def w4kE0 (c : Code) : List It2 := [.c c]
def w4sE0 (x0 : List VLabel) (x1 : List VLabel) : TS EE.T := ⟨96, [(0, .a (.d (.sl (.nam 2)) x0)), (1, .a (.d (.sl (.nam 2)) x1))], [], []⟩
def w4TR12 (c : Code) (N : Nat) (k11 : (List VLabel) → (List VLabel) → (List UInt8) → Int → (List UInt8) → Int → Int → Int → Bool → Int → Option Bool) (n : Nat) (x0 : List VLabel) (x1 : List VLabel) (x5 : List UInt8) (x6 : Int) (x7 : List UInt8) (x8 : Int) (x9 : Int) (x10 : Int) (x11 : Bool) (x12 : Int) : Tree (Lf EE.T × Option Bool) :=
  .leaf (.go (w4kL11 c) (w4sL11 x0 x1 x5 x6 x7 x8 x9 x10 x11 (w64 (x12 + 1))), k11 x0 x1 x5 x6 x7 x8 x9 x10 x11 (w64 (x12 + 1)))
theorem w4vR12 (N : Nat) (k11 : (List VLabel) → (List VLabel) → (List UInt8) → Int → (List UInt8) → Int → Int → Int → Bool → Int → Option Bool) (n : Nat) (x0 : List VLabel) (x1 : List VLabel) (x5 : List UInt8) (x6 : Int) (x7 : List UInt8) (x8 : Int) (x9 : Int) (x10 : Int) (x11 : Bool) (x12 : Int) : evM TT EE (w4G N) w4lv w4rs 4000 true (w4kR12 (bodyOf 0 Try.f4)) (w4sR12 x0 x1 x5 x6 x7 x8 x9 x10 x11 x12) = (w4TR12 (bodyOf 0 Try.f4) N k11 n x0 x1 x5 x6 x7 x8 x9 x10 x11 x12).map1 := by kernel_rfl
theorem w4nR12 (N : Nat) (k11 : (List VLabel) → (List VLabel) → (List UInt8) → Int → (List UInt8) → Int → Int → Int → Bool → Int → Option Bool) (n : Nat) (x0 : List VLabel) (x1 : List VLabel) (x5 : List UInt8) (x6 : Int) (x7 : List UInt8) (x8 : Int) (x9 : Int) (x10 : Int) (x11 : Bool) (x12 : Int) : law_LabelsApart_R12 N k11 n x0 x1 x5 x6 x7 x8 x9 x10 x11 x12 = (w4TR12 (bodyOf 0 Try.f4) N k11 n x0 x1 x5 x6 x7 x8 x9 x10 x11 x12).run := by kernel_rfl
theorem w4oR12 {N : Nat} {r : Bool} {k11 : (List VLabel) → (List VLabel) → (List UInt8) → Int → (List UInt8) → Int → Int → Int → Bool → Int → Option Bool} (hk11 : ∀ x0 x1 x5 x6 x7 x8 x9 x10 x11 x12, k11 x0 x1 x5 x6 x7 x8 x9 x10 x11 x12 = some r → Ends (Y := TT) EE (w4G N) w4lv w4rs (fun u => u = w4enc r) (w4kL11 (bodyOf 0 Try.f4)) (w4sL11 x0 x1 x5 x6 x7 x8 x9 x10 x11 x12)) (n : Nat) (x0 : List VLabel) (x1 : List VLabel) (x5 : List UInt8) (x6 : Int) (x7 : List UInt8) (x8 : Int) (x9 : Int) (x10 : Int) (x11 : Bool) (x12 : Int) (h : law_LabelsApart_R12 N k11 n x0 x1 x5 x6 x7 x8 x9 x10 x11 x12 = some r) : Ends (Y := TT) EE (w4G N) w4lv w4rs (fun u => u = w4enc r) (w4kR12 (bodyOf 0 Try.f4)) (w4sR12 x0 x1 x5 x6 x7 x8 x9 x10 x11 x12) :=
  tree_use (w4vR12 N k11 n x0 x1 x5 x6 x7 x8 x9 x10 x11 x12) (w4nR12 N k11 n x0 x1 x5 x6 x7 x8 x9 x10 x11 x12) h (show (w4TR12 (bodyOf 0 Try.f4) N k11 n x0 x1 x5 x6 x7 x8 x9 x10 x11 x12).all _ from fun h => hk11 _ _ _ _ _ _ _ _ _ _ h)
def w4TL11 (c : Code) (N : Nat) (n : Nat) (x0 : List VLabel) (x1 : List VLabel) (x5 : List UInt8) (x6 : Int) (x7 : List UInt8) (x8 : Int) (x9 : Int) (x10 : Int) (x11 : Bool) (x12 : Int) : Tree (Lf EE.T × Option Bool) :=
  .cond (decide (x12 < 2))
  (
    .bnd (idxC ([x0, x1] : List (List VLabel)) x12) fun z6 =>
    .bnd (ref_ValueOf N z6 ([95, 95, 110, 97, 109, 101, 95, 95] : List UInt8)) fun z7 =>
    .cond (x11)
    (
      .cond (decide (z7 = ([] : List UInt8)))
      (
        .leaf (.go (w4kR12 c) (w4sR12 x0 x1 x5 x6 x7 x8 x9 x10 true x12), law_LabelsApart_R12 N (law_LabelsApart_L11 N n) n x0 x1 x5 x6 x7 x8 x9 x10 true x12))
      (
        .bnd (ref_IsName N z7) fun z8 =>
        .leaf (.go (w4kR12 c) (w4sR12 x0 x1 x5 x6 x7 x8 x9 x10 z8 x12), law_LabelsApart_R12 N (law_LabelsApart_L11 N n) n x0 x1 x5 x6 x7 x8 x9 x10 z8 x12)))
    (
      .leaf (.go (w4kR12 c) (w4sR12 x0 x1 x5 x6 x7 x8 x9 x10 false x12), law_LabelsApart_R12 N (law_LabelsApart_L11 N n) n x0 x1 x5 x6 x7 x8 x9 x10 false x12)))
  (
    .cond (x6 == 0)
    (
      .cond (x8 == 0)
      (
        .cond (x9 == (w64 (0 - x10)))
        (
          .bnd (ref_SameLabels N x0 x1) fun z9 =>
          .cond ((x9 == 0) == z9)
          (
            .cond (!x11)
            (
              .leaf (.done (w4enc true), some true))
            (
              .leaf (.done (w4enc ((decide (x5 = x7)) == (x9 == 0))), some ((decide (x5 = x7)) == (x9 == 0)))))
          (
            .leaf (.done (w4enc false), some false)))
        (
          .leaf (.done (w4enc false), some false)))
      (
        .leaf (.done (w4enc false), some false)))
    (
      .leaf (.done (w4enc false), some false)))
theorem w4vL11 (N : Nat) (n : Nat) (x0 : List VLabel) (x1 : List VLabel) (x5 : List UInt8) (x6 : Int) (x7 : List UInt8) (x8 : Int) (x9 : Int) (x10 : Int) (x11 : Bool) (x12 : Int) : evM TT EE (w4G N) w4lv w4rs 4000 true (w4kL11 (bodyOf 0 Try.f4)) (w4sL11 x0 x1 x5 x6 x7 x8 x9 x10 x11 x12) = (w4TL11 (bodyOf 0 Try.f4) N n x0 x1 x5 x6 x7 x8 x9 x10 x11 x12).map1 := by kernel_rfl
theorem w4nL11 (N : Nat) (n : Nat) (x0 : List VLabel) (x1 : List VLabel) (x5 : List UInt8) (x6 : Int) (x7 : List UInt8) (x8 : Int) (x9 : Int) (x10 : Int) (x11 : Bool) (x12 : Int) : law_LabelsApart_L11 N (n + 1) x0 x1 x5 x6 x7 x8 x9 x10 x11 x12 = (w4TL11 (bodyOf 0 Try.f4) N n x0 x1 x5 x6 x7 x8 x9 x10 x11 x12).run := by kernel_rfl
theorem w4oL11 {N : Nat} {r : Bool} : ∀ (n : Nat) (x0 : List VLabel) (x1 : List VLabel) (x5 : List UInt8) (x6 : Int) (x7 : List UInt8) (x8 : Int) (x9 : Int) (x10 : Int) (x11 : Bool) (x12 : Int), law_LabelsApart_L11 N n x0 x1 x5 x6 x7 x8 x9 x10 x11 x12 = some r → Ends (Y := TT) EE (w4G N) w4lv w4rs (fun u => u = w4enc r) (w4kL11 (bodyOf 0 Try.f4)) (w4sL11 x0 x1 x5 x6 x7 x8 x9 x10 x11 x12)
  | 0, _, _, _, _, _, _, _, _, _, _, h => by cases h
  | n + 1, x0, x1, x5, x6, x7, x8, x9, x10, x11, x12, h => tree_use (w4vL11 N n x0 x1 x5 x6 x7 x8 x9 x10 x11 x12) (w4nL11 N n x0 x1 x5 x6 x7 x8 x9 x10 x11 x12) h (show (w4TL11 (bodyOf 0 Try.f4) N n x0 x1 x5 x6 x7 x8 x9 x10 x11 x12).all _ from ⟨fun _ => fun _ => ⟨⟨fun h => w4oR12 (w4oL11 n) n _ _ _ _ _ _ _ _ _ _ h, fun _ => fun h => w4oR12 (w4oL11 n) n _ _ _ _ _ _ _ _ _ _ h⟩, fun h => w4oR12 (w4oL11 n) n _ _ _ _ _ _ _ _ _ _ h⟩, ⟨⟨⟨fun _ => ⟨⟨retp (enc := w4enc) rfl, retp (enc := w4enc) rfl⟩, retp (enc := w4enc) rfl⟩, retp (enc := w4enc) rfl⟩, retp (enc := w4enc) rfl⟩, retp (enc := w4enc) rfl⟩⟩)
def w4TE0 (c : Code) (N : Nat) (x0 : List VLabel) (x1 : List VLabel) : Tree (Lf EE.T × Option Bool) :=
  .bnd (law_labelsBegun N) fun z1 =>
  .cond (!z1)
  (
    .leaf (.done (w4enc false), some false))
  (
    .bnd (labels_Text N x0) fun z2 =>
    .bnd (labels_Text N x1) fun z3 =>
    .cond (z2.2 != 0)
    (
      .leaf (.done (w4enc true), some true))
    (
      .cond (z3.2 != 0)
      (
        .leaf (.done (w4enc true), some true))
      (
        .bnd (labels_Compare N x0 x1) fun z4 =>
        .bnd (labels_Compare N x1 x0) fun z5 =>
        .leaf (.go (w4kL11 c) (w4sL11 x0 x1 z2.1 z4.2 z3.1 z5.2 z4.1 z5.1 true 0), law_LabelsApart_L11 N N x0 x1 z2.1 z4.2 z3.1 z5.2 z4.1 z5.1 true 0))))
theorem w4vE0 (N : Nat) (x0 : List VLabel) (x1 : List VLabel) : evM TT EE (w4G N) w4lv w4rs 4000 true (w4kE0 (bodyOf 0 Try.f4)) (w4sE0 x0 x1) = (w4TE0 (bodyOf 0 Try.f4) N x0 x1).map1 := by kernel_rfl
theorem w4nE0 (N : Nat) (x0 : List VLabel) (x1 : List VLabel) : law_LabelsApart N x0 x1 = (w4TE0 (bodyOf 0 Try.f4) N x0 x1).run := by kernel_rfl
theorem w4oE0 {N : Nat} {r : Bool} (x0 : List VLabel) (x1 : List VLabel) (h : law_LabelsApart N x0 x1 = some r) : Ends (Y := TT) EE (w4G N) w4lv w4rs (fun u => u = w4enc r) (w4kE0 (bodyOf 0 Try.f4)) (w4sE0 x0 x1) :=
  tree_use (w4vE0 N x0 x1) (w4nE0 N x0 x1) h (show (w4TE0 (bodyOf 0 Try.f4) N x0 x1).all _ from fun _ => ⟨retp (enc := w4enc) rfl, fun _ => fun _ => ⟨retp (enc := w4enc) rfl, ⟨retp (enc := w4enc) rfl, fun _ => fun _ => fun h => w4oL11 N _ _ _ _ _ _ _ _ _ _ h⟩⟩⟩)
theorem law_LabelsApart_ok {N : Nat} (x0 : List VLabel) (x1 : List VLabel) {r : Bool} (h : law_LabelsApart N x0 x1 = some r) (ρ : Nat → Nat) : ACalls Try.prog 4 (([.a (.d (.sl (.nam 2)) x0), .a (.d (.sl (.nam 2)) x1)] : List (TV EE.T)).map (TV.to EE.toEnc ρ)) [] (fun out H => out = .ret ((law_LabelsApart_u r).to EE.toEnc ρ) ∧ H = []) :=
  (fn_ok (bodyOf 0 Try.f4) 96 mixed (w4Gok N) Try.func4 (by kernel_rfl) rfl rfl rfl rfl (w4oE0 x0 x1 h) ρ).mono fun out H h => KPost.ret rfl h
end Go.Proofs.Ytgmlkhfjhogdbaa
