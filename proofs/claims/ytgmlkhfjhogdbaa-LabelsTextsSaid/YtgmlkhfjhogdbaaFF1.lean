-- slim: written by gen/slim.py from XFF1.f.lean.tpl
/- The walks that prove plain functions right, written by gen/tgl.py. -/
import Derived.Test.YtgmlkhfjhogdbaaFF1p
import Derived.Test.YtgmlkhfjhogdbaaTX
namespace Go.Proofs.Ytgmlkhfjhogdbaa
open Go.RowKit P
set_option linter.unusedVariables false
set_option linter.unusedSimpArgs false
set_option maxRecDepth 100000
/-! ### gleaner/labels.sum -/
def labels_sum_u (r : Int) : TV EE.T := .a (.d (.int .u64) r)
def w46enc (r : Int) : RL EE.T := .ret (labels_sum_u r) []
def w46lv : Lvs := ⟨[], [(2, ⟨[(0, false), (10, false), (11, false), (12, false)], [], []⟩)], [], [], false, [], []⟩
def w46rs : List ResultVar := [.tmp 4]
def w46G (N : Nat) : Gam EE := ⟨[], EQT, [], []⟩
theorem w46Gok (N : Nat) : GOk Try.prog TT EE (w46G N) := GOk.nil EQT_ok
def w46kL2 (c : Code) : List It2 := atL 2 c
def w46sL2 (x0 : Int) (x10 : List UInt8) (x11 : Int) (x12 : Int) : TS EE.T := ⟨23, [(0, .a (.d (.int .u64) x0)), (10, .a (.own .byte x10)), (11, .a (.d (.int .i64) x11)), (12, .a (.d (.int .i64) x12))], [], []⟩
def w46kE0 (c : Code) : List It2 := [.c c]
def w46sE0 (x0 : Int) (x1 : List UInt8) : TS EE.T := ⟨23, [(0, .a (.d (.int .u64) x0)), (1, .a (.d .str x1))], [], []⟩
def w46TL2 (c : Code) (N : Nat) (n : Nat) (x0 : Int) (x10 : List UInt8) (x11 : Int) (x12 : Int) : Tree (Lf EE.T × Option Int) :=
  .cond (decide (x12 < x11))
  (
    .bnd (idxC x10 x12) fun z2 =>
    .leaf (.go (w46kL2 c) (w46sL2 (IntKind.wrap .u64 ((bits .xor .u64 x0 (IntKind.wrap .u64 (b2i z2))) * 1099511628211)) x10 x11 (w64 (x12 + 1))), labels_sum_L2 N n (IntKind.wrap .u64 ((bits .xor .u64 x0 (IntKind.wrap .u64 (b2i z2))) * 1099511628211)) x10 x11 (w64 (x12 + 1))))
  (
    .leaf (.done (w46enc x0), some x0))
theorem w46vL2 (N : Nat) (n : Nat) (x0 : Int) (x10 : List UInt8) (x11 : Int) (x12 : Int) : evM TT EE (w46G N) w46lv w46rs 4000 true (w46kL2 (bodyOf 0 Try.f46)) (w46sL2 x0 x10 x11 x12) = (w46TL2 (bodyOf 0 Try.f46) N n x0 x10 x11 x12).map1 := by kernel_rfl
theorem w46nL2 (N : Nat) (n : Nat) (x0 : Int) (x10 : List UInt8) (x11 : Int) (x12 : Int) : labels_sum_L2 N (n + 1) x0 x10 x11 x12 = (w46TL2 (bodyOf 0 Try.f46) N n x0 x10 x11 x12).run := by kernel_rfl
theorem w46oL2 {N : Nat} {r : Int} : ∀ (n : Nat) (x0 : Int) (x10 : List UInt8) (x11 : Int) (x12 : Int), labels_sum_L2 N n x0 x10 x11 x12 = some r → Ends (Y := TT) EE (w46G N) w46lv w46rs (fun u => u = w46enc r) (w46kL2 (bodyOf 0 Try.f46)) (w46sL2 x0 x10 x11 x12)
  | 0, _, _, _, _, h => by cases h
  | n + 1, x0, x10, x11, x12, h => tree_use (w46vL2 N n x0 x10 x11 x12) (w46nL2 N n x0 x10 x11 x12) h (show (w46TL2 (bodyOf 0 Try.f46) N n x0 x10 x11 x12).all _ from ⟨fun _ => fun h => (w46oL2 n) _ _ _ _ h, retp (enc := w46enc) rfl⟩)
def w46TE0 (c : Code) (N : Nat) (x0 : Int) (x1 : List UInt8) : Tree (Lf EE.T × Option Int) :=
  .bnd (appC 1 x1 ([255] : List UInt8)) fun z1 =>
  .leaf (.go (w46kL2 c) (w46sL2 x0 z1 (z1.length : Int) 0), labels_sum_L2 N N x0 z1 (z1.length : Int) 0)
theorem w46vE0 (N : Nat) (x0 : Int) (x1 : List UInt8) : evM TT EE (w46G N) w46lv w46rs 4000 true (w46kE0 (bodyOf 0 Try.f46)) (w46sE0 x0 x1) = (w46TE0 (bodyOf 0 Try.f46) N x0 x1).map1 := by kernel_rfl
theorem w46nE0 (N : Nat) (x0 : Int) (x1 : List UInt8) : labels_sum N x0 x1 = (w46TE0 (bodyOf 0 Try.f46) N x0 x1).run := by kernel_rfl
theorem w46oE0 {N : Nat} {r : Int} (x0 : Int) (x1 : List UInt8) (h : labels_sum N x0 x1 = some r) : Ends (Y := TT) EE (w46G N) w46lv w46rs (fun u => u = w46enc r) (w46kE0 (bodyOf 0 Try.f46)) (w46sE0 x0 x1) :=
  tree_use (w46vE0 N x0 x1) (w46nE0 N x0 x1) h (show (w46TE0 (bodyOf 0 Try.f46) N x0 x1).all _ from fun _ => fun h => w46oL2 N _ _ _ _ h)
theorem labels_sum_ok {N : Nat} (x0 : Int) (x1 : List UInt8) {r : Int} (h : labels_sum N x0 x1 = some r) (ρ : Nat → Nat) : ACalls Try.prog 46 (([.a (.d (.int .u64) x0), .a (.d .str x1)] : List (TV EE.T)).map (TV.to EE.toEnc ρ)) [] (fun out H => out = .ret ((labels_sum_u r).to EE.toEnc ρ) ∧ H = []) :=
  (fn_ok (bodyOf 0 Try.f46) 23 mixed (w46Gok N) Try.func46 (by kernel_rfl) rfl rfl rfl rfl (w46oE0 x0 x1 h) ρ).mono fun out H h => KPost.ret rfl h
def labels_sum_h (N : Nat) : List (TV EE.T) → PV EE.T
  | [u0, u1] => match argD (.int .u64) u0, argD .str u1 with
    | some x0, some x1 => .opt (labels_sum N x0 x1) labels_sum_u
    | _, _ => .bad
  | _ => .bad
theorem labels_sum_hok (N : Nat) (us : List (TV EE.T)) : (labels_sum_h N us).ok fun u => ∀ ρ, ACalls Try.prog 46 (us.map (TV.to EE.toEnc ρ)) [] (fun out H => out = .ret (u.to EE.toEnc ρ) ∧ H = []) := by
  unfold labels_sum_h
  split
  · split
    · rename_i h0 h1
      intro z hz ρ; refine acalls_le ?_ (labels_sum_ok _ _ hz ρ); exact ⟨argD_le h0 ρ, argD_le h1 ρ, trivial⟩
    · trivial
  · trivial
/-! ### gleaner/labels.RawSum -/
def labels_RawSum_u (r : Int) : TV EE.T := .a (.d (.int .u64) r)
def w31enc (r : Int) : RL EE.T := .ret (labels_RawSum_u r) []
def w31lv : Lvs := ⟨[(5, ⟨[(3, false), (5, false), (6, false), (7, false), (8, false)], [], [(5, (some 2, []))]⟩)], [(3, ⟨[(3, false), (6, false), (7, false), (8, false)], [], []⟩)], [], [], false, [], []⟩
def w31rs : List ResultVar := [.tmp 2]
def w31G (N : Nat) : Gam EE := ⟨[⟨46, labels_sum_h N⟩], EQT, [], []⟩
theorem w31Gok (N : Nat) : GOk Try.prog TT EE (w31G N) := GOk.cons (labels_sum_hok N) (GOk.nil EQT_ok)
def w31kL3 (c : Code) : List It2 := atL 3 c
def w31sL3 (x3 : Int) (x6 : List VLabel) (x7 : Int) (x8 : Int) : TS EE.T := ⟨21, [(3, .a (.d (.int .u64) x3)), (6, .a (.d (.sl (.nam 2)) x6)), (7, .a (.d (.int .i64) x7)), (8, .a (.d (.int .i64) x8))], [], []⟩
def w31kE0 (c : Code) : List It2 := [.c c]
def w31sE0 (x0 : List VLabel) : TS EE.T := ⟨21, [(0, .a (.d (.sl (.nam 2)) x0))], [], []⟩
def w31TL3 (c : Code) (N : Nat) (n : Nat) (x3 : Int) (x6 : List VLabel) (x7 : Int) (x8 : Int) : Tree (Lf EE.T × Option Int) :=
  .cond (decide (x8 < x7))
  (
    .bnd (idxC x6 x8) fun z1 =>
    .bnd (labels_sum N x3 z1.Name) fun z2 =>
    .bnd (labels_sum N z2 z1.Value) fun z3 =>
    .leaf (.go (w31kL3 c) (w31sL3 z3 x6 x7 (w64 (x8 + 1))), labels_RawSum_L3 N n z3 x6 x7 (w64 (x8 + 1))))
  (
    .leaf (.done (w31enc x3), some x3))
theorem w31vL3 (N : Nat) (n : Nat) (x3 : Int) (x6 : List VLabel) (x7 : Int) (x8 : Int) : evM TT EE (w31G N) w31lv w31rs 4000 true (w31kL3 (bodyOf 0 Try.f31)) (w31sL3 x3 x6 x7 x8) = (w31TL3 (bodyOf 0 Try.f31) N n x3 x6 x7 x8).map1 := by kernel_rfl
theorem w31nL3 (N : Nat) (n : Nat) (x3 : Int) (x6 : List VLabel) (x7 : Int) (x8 : Int) : labels_RawSum_L3 N (n + 1) x3 x6 x7 x8 = (w31TL3 (bodyOf 0 Try.f31) N n x3 x6 x7 x8).run := by kernel_rfl
theorem w31oL3 {N : Nat} {r : Int} : ∀ (n : Nat) (x3 : Int) (x6 : List VLabel) (x7 : Int) (x8 : Int), labels_RawSum_L3 N n x3 x6 x7 x8 = some r → Ends (Y := TT) EE (w31G N) w31lv w31rs (fun u => u = w31enc r) (w31kL3 (bodyOf 0 Try.f31)) (w31sL3 x3 x6 x7 x8)
  | 0, _, _, _, _, h => by cases h
  | n + 1, x3, x6, x7, x8, h => tree_use (w31vL3 N n x3 x6 x7 x8) (w31nL3 N n x3 x6 x7 x8) h (show (w31TL3 (bodyOf 0 Try.f31) N n x3 x6 x7 x8).all _ from ⟨fun _ => fun _ => fun _ => fun h => (w31oL3 n) _ _ _ _ h, retp (enc := w31enc) rfl⟩)
def w31TE0 (c : Code) (N : Nat) (x0 : List VLabel) : Tree (Lf EE.T × Option Int) :=
  .leaf (.go (w31kL3 c) (w31sL3 14695981039346656037 x0 (x0.length : Int) 0), labels_RawSum_L3 N N 14695981039346656037 x0 (x0.length : Int) 0)
theorem w31vE0 (N : Nat) (x0 : List VLabel) : evM TT EE (w31G N) w31lv w31rs 4000 true (w31kE0 (bodyOf 0 Try.f31)) (w31sE0 x0) = (w31TE0 (bodyOf 0 Try.f31) N x0).map1 := by kernel_rfl
theorem w31nE0 (N : Nat) (x0 : List VLabel) : labels_RawSum N x0 = (w31TE0 (bodyOf 0 Try.f31) N x0).run := by kernel_rfl
theorem w31oE0 {N : Nat} {r : Int} (x0 : List VLabel) (h : labels_RawSum N x0 = some r) : Ends (Y := TT) EE (w31G N) w31lv w31rs (fun u => u = w31enc r) (w31kE0 (bodyOf 0 Try.f31)) (w31sE0 x0) :=
  tree_use (w31vE0 N x0) (w31nE0 N x0) h (show (w31TE0 (bodyOf 0 Try.f31) N x0).all _ from fun h => w31oL3 N _ _ _ _ h)
theorem labels_RawSum_ok {N : Nat} (x0 : List VLabel) {r : Int} (h : labels_RawSum N x0 = some r) (ρ : Nat → Nat) : ACalls Try.prog 31 (([.a (.d (.sl (.nam 2)) x0)] : List (TV EE.T)).map (TV.to EE.toEnc ρ)) [] (fun out H => out = .ret ((labels_RawSum_u r).to EE.toEnc ρ) ∧ H = []) :=
  (fn_ok (bodyOf 0 Try.f31) 21 mixed (w31Gok N) Try.func31 (by kernel_rfl) rfl rfl rfl rfl (w31oE0 x0 h) ρ).mono fun out H h => KPost.ret rfl h
def labels_RawSum_h (N : Nat) : List (TV EE.T) → PV EE.T
  | [u0] => match argD (.sl (.nam 2)) u0 with
    | some x0 => .opt (labels_RawSum N x0) labels_RawSum_u
    | _ => .bad
  | _ => .bad
theorem labels_RawSum_hok (N : Nat) (us : List (TV EE.T)) : (labels_RawSum_h N us).ok fun u => ∀ ρ, ACalls Try.prog 31 (us.map (TV.to EE.toEnc ρ)) [] (fun out H => out = .ret (u.to EE.toEnc ρ) ∧ H = []) := by
  unfold labels_RawSum_h
  split
  · split
    · rename_i h0
      intro z hz ρ; refine acalls_le ?_ (labels_RawSum_ok _ hz ρ); exact ⟨argD_le h0 ρ, trivial⟩
    · trivial
  · trivial
/-! ### gleaner/labels.Sum -/
def labels_Sum_u (r : Int × Int) : TV EE.T := .tu [.a (.d (.int .u64) r.1), .a (.d (.int .i64) r.2)]
def w20enc (r : Int × Int) : RL EE.T := .ret (labels_Sum_u r) []
def w20lv : Lvs := ⟨[], [], [], [], false, [], []⟩
def w20rs : List ResultVar := [.tmp 2, .tmp 3]
def w20G (N : Nat) : Gam EE := ⟨[⟨31, labels_RawSum_h N⟩, ⟨14, labels_check_h N⟩], EQT, [], []⟩
theorem w20Gok (N : Nat) : GOk Try.prog TT EE (w20G N) := GOk.cons (labels_RawSum_hok N) (GOk.cons (labels_check_hok N) (GOk.nil EQT_ok))
def w20kE0 (c : Code) : List It2 := [.c c]
def w20sE0 (x0 : List VLabel) : TS EE.T := ⟨13, [(0, .a (.d (.sl (.nam 2)) x0))], [], []⟩
def w20TE0 (c : Code) (N : Nat) (x0 : List VLabel) : Tree (Lf EE.T × Option (Int × Int)) :=
  .bnd (labels_check N ([x0] : List (List VLabel))) fun z1 =>
  .cond (z1 != 0)
  (
    .leaf (.done (w20enc (0, z1)), some (0, z1)))
  (
    .bnd (labels_RawSum N x0) fun z2 =>
    .leaf (.done (w20enc (z2, 0)), some (z2, 0)))
theorem w20vE0 (N : Nat) (x0 : List VLabel) : evM TT EE (w20G N) w20lv w20rs 4000 true (w20kE0 (bodyOf 0 Try.f20)) (w20sE0 x0) = (w20TE0 (bodyOf 0 Try.f20) N x0).map1 := by kernel_rfl
theorem w20nE0 (N : Nat) (x0 : List VLabel) : labels_Sum N x0 = (w20TE0 (bodyOf 0 Try.f20) N x0).run := by kernel_rfl
theorem w20oE0 {N : Nat} {r : Int × Int} (x0 : List VLabel) (h : labels_Sum N x0 = some r) : Ends (Y := TT) EE (w20G N) w20lv w20rs (fun u => u = w20enc r) (w20kE0 (bodyOf 0 Try.f20)) (w20sE0 x0) :=
  tree_use (w20vE0 N x0) (w20nE0 N x0) h (show (w20TE0 (bodyOf 0 Try.f20) N x0).all _ from fun _ => ⟨retp (enc := w20enc) rfl, fun _ => retp (enc := w20enc) rfl⟩)
theorem labels_Sum_ok {N : Nat} (x0 : List VLabel) {r : Int × Int} (h : labels_Sum N x0 = some r) (ρ : Nat → Nat) : ACalls Try.prog 20 (([.a (.d (.sl (.nam 2)) x0)] : List (TV EE.T)).map (TV.to EE.toEnc ρ)) [] (fun out H => out = .ret ((labels_Sum_u r).to EE.toEnc ρ) ∧ H = []) :=
  (fn_ok (bodyOf 0 Try.f20) 13 mixed (w20Gok N) Try.func20 (by kernel_rfl) rfl rfl rfl rfl (w20oE0 x0 h) ρ).mono fun out H h => KPost.ret rfl h
def labels_Sum_h (N : Nat) : List (TV EE.T) → PV EE.T
  | [u0] => match argD (.sl (.nam 2)) u0 with
    | some x0 => .opt (labels_Sum N x0) labels_Sum_u
    | _ => .bad
  | _ => .bad
theorem labels_Sum_hok (N : Nat) (us : List (TV EE.T)) : (labels_Sum_h N us).ok fun u => ∀ ρ, ACalls Try.prog 20 (us.map (TV.to EE.toEnc ρ)) [] (fun out H => out = .ret (u.to EE.toEnc ρ) ∧ H = []) := by
  unfold labels_Sum_h
  split
  · split
    · rename_i h0
      intro z hz ρ; refine acalls_le ?_ (labels_Sum_ok _ hz ρ); exact ⟨argD_le h0 ρ, trivial⟩
    · trivial
  · trivial
/-! ### gleaner/gleanerlaw.labelsBegun -/
def law_labelsBegun_u (r : Bool) : TV EE.T := .a (.d .bool r)
def w8enc (r : Bool) : RL EE.T := .ret (law_labelsBegun_u r) []
def w8lv : Lvs := ⟨[], [], [], [], false, [], []⟩
def w8rs : List ResultVar := [.tmp 0]
def w8G (N : Nat) : Gam EE := ⟨[⟨20, labels_Sum_h N⟩, ⟨5, labels_Text_h N⟩], EQT, [], []⟩
theorem w8Gok (N : Nat) : GOk Try.prog TT EE (w8G N) := GOk.cons (labels_Sum_hok N) (GOk.cons (labels_Text_hok N) (GOk.nil EQT_ok))
def w8kE0 (c : Code) : List It2 := [.c c]
def w8sE0 : TS EE.T := ⟨30, [], [], []⟩
def w8TE0 (c : Code) (N : Nat) : Tree (Lf EE.T × Option Bool) :=
  .bnd (labels_Text N ([({ Name := ([95, 95, 110, 97, 109, 101, 95, 95] : List UInt8), Value := ([117, 112] : List UInt8) } : VLabel), ({ Name := ([106, 111, 98] : List UInt8), Value := ([120] : List UInt8) } : VLabel)] : List VLabel)) fun z1 =>
  .bnd (labels_Sum N ([] : List VLabel)) fun z2 =>
  .cond (z1.2 == 0)
  (
    .cond (decide (z1.1 = ([117, 112, 123, 106, 111, 98, 61, 34, 120, 34, 125] : List UInt8)))
    (
      .cond (z2.2 == 0)
      (
        .leaf (.done (w8enc (z2.1 == 14695981039346656037)), some (z2.1 == 14695981039346656037)))
      (
        .leaf (.done (w8enc false), some false)))
    (
      .leaf (.done (w8enc false), some false)))
  (
    .leaf (.done (w8enc false), some false))
theorem w8vE0 (N : Nat) : evM TT EE (w8G N) w8lv w8rs 4000 true (w8kE0 (bodyOf 0 Try.f8)) (w8sE0) = (w8TE0 (bodyOf 0 Try.f8) N).map1 := by kernel_rfl
theorem w8nE0 (N : Nat) : law_labelsBegun N = (w8TE0 (bodyOf 0 Try.f8) N).run := by kernel_rfl
theorem w8oE0 {N : Nat} {r : Bool} (h : law_labelsBegun N = some r) : Ends (Y := TT) EE (w8G N) w8lv w8rs (fun u => u = w8enc r) (w8kE0 (bodyOf 0 Try.f8)) (w8sE0) :=
  tree_use (w8vE0 N) (w8nE0 N) h (show (w8TE0 (bodyOf 0 Try.f8) N).all _ from fun _ => fun _ => ⟨⟨⟨retp (enc := w8enc) rfl, retp (enc := w8enc) rfl⟩, retp (enc := w8enc) rfl⟩, retp (enc := w8enc) rfl⟩)
theorem law_labelsBegun_ok {N : Nat} {r : Bool} (h : law_labelsBegun N = some r) (ρ : Nat → Nat) : ACalls Try.prog 8 (([] : List (TV EE.T)).map (TV.to EE.toEnc ρ)) [] (fun out H => out = .ret ((law_labelsBegun_u r).to EE.toEnc ρ) ∧ H = []) :=
  (fn_ok (bodyOf 0 Try.f8) 30 mixed (w8Gok N) Try.func8 (by kernel_rfl) rfl rfl rfl rfl (w8oE0 h) ρ).mono fun out H h => KPost.ret rfl h
def law_labelsBegun_h (N : Nat) : List (TV EE.T) → PV EE.T
  | [] => .opt (law_labelsBegun N) law_labelsBegun_u
  | _ => .bad
theorem law_labelsBegun_hok (N : Nat) (us : List (TV EE.T)) : (law_labelsBegun_h N us).ok fun u => ∀ ρ, ACalls Try.prog 8 (us.map (TV.to EE.toEnc ρ)) [] (fun out H => out = .ret (u.to EE.toEnc ρ) ∧ H = []) := by
  unfold law_labelsBegun_h
  split
  · intro z hz ρ; exact law_labelsBegun_ok hz ρ
  · trivial
/-! ### gleaner/gleanerlaw.textIs -/
def law_textIs_u (r : Bool) : TV EE.T := .a (.d .bool r)
def w9enc (r : Bool) : RL EE.T := .ret (law_textIs_u r) []
def w9lv : Lvs := ⟨[(3, ⟨[(0, false), (1, false), (2, false), (3, false)], [], []⟩)], [], [3], [], false, [], []⟩
def w9rs : List ResultVar := [.tmp 8]
def w9G (N : Nat) : Gam EE := ⟨[], EQT, [], []⟩
theorem w9Gok (N : Nat) : GOk Try.prog TT EE (w9G N) := GOk.nil EQT_ok
def w9kR3 (c : Code) : List It2 := atR 3 c
def w9sR3 (x0 : List UInt8) (x1 : Int) (x2 : Int) (x3 : List UInt8) : TS EE.T := ⟨19, [(0, .a (.d .str x0)), (1, .a (.d (.int .i64) x1)), (2, .a (.d (.int .i64) x2)), (3, .a (.d .str x3))], [], []⟩
def w9kE0 (c : Code) : List It2 := [.c c]
def w9sE0 (x0 : List UInt8) (x1 : Int) (x2 : Int) (x3 : List UInt8) : TS EE.T := ⟨19, [(0, .a (.d .str x0)), (1, .a (.d (.int .i64) x1)), (2, .a (.d (.int .i64) x2)), (3, .a (.d .str x3))], [], []⟩
def w9TR3 (c : Code) (N : Nat) (n : Nat) (x0 : List UInt8) (x1 : Int) (x2 : Int) (x3 : List UInt8) : Tree (Lf EE.T × Option Bool) :=
  .cond (x1 == x2)
  (
    .leaf (.done (w9enc (decide (x0 = x3))), some (decide (x0 = x3))))
  (
    .leaf (.done (w9enc false), some false))
theorem w9vR3 (N : Nat) (n : Nat) (x0 : List UInt8) (x1 : Int) (x2 : Int) (x3 : List UInt8) : evM TT EE (w9G N) w9lv w9rs 4000 true (w9kR3 (bodyOf 0 Try.f9)) (w9sR3 x0 x1 x2 x3) = (w9TR3 (bodyOf 0 Try.f9) N n x0 x1 x2 x3).map1 := by kernel_rfl
theorem w9nR3 (N : Nat) (n : Nat) (x0 : List UInt8) (x1 : Int) (x2 : Int) (x3 : List UInt8) : law_textIs_R3 N n x0 x1 x2 x3 = (w9TR3 (bodyOf 0 Try.f9) N n x0 x1 x2 x3).run := by kernel_rfl
theorem w9oR3 {N : Nat} {r : Bool} (n : Nat) (x0 : List UInt8) (x1 : Int) (x2 : Int) (x3 : List UInt8) (h : law_textIs_R3 N n x0 x1 x2 x3 = some r) : Ends (Y := TT) EE (w9G N) w9lv w9rs (fun u => u = w9enc r) (w9kR3 (bodyOf 0 Try.f9)) (w9sR3 x0 x1 x2 x3) :=
  tree_use (w9vR3 N n x0 x1 x2 x3) (w9nR3 N n x0 x1 x2 x3) h (show (w9TR3 (bodyOf 0 Try.f9) N n x0 x1 x2 x3).all _ from ⟨retp (enc := w9enc) rfl, retp (enc := w9enc) rfl⟩)
def w9TE0 (c : Code) (N : Nat) (x0 : List UInt8) (x1 : Int) (x2 : Int) (x3 : List UInt8) : Tree (Lf EE.T × Option Bool) :=
  .cond (x2 != 0)
  (
    .leaf (.go (w9kR3 c) (w9sR3 x0 x1 x2 ([] : List UInt8)), law_textIs_R3 N N x0 x1 x2 ([] : List UInt8)))
  (
    .leaf (.go (w9kR3 c) (w9sR3 x0 x1 x2 x3), law_textIs_R3 N N x0 x1 x2 x3))
theorem w9vE0 (N : Nat) (x0 : List UInt8) (x1 : Int) (x2 : Int) (x3 : List UInt8) : evM TT EE (w9G N) w9lv w9rs 4000 true (w9kE0 (bodyOf 0 Try.f9)) (w9sE0 x0 x1 x2 x3) = (w9TE0 (bodyOf 0 Try.f9) N x0 x1 x2 x3).map1 := by kernel_rfl
theorem w9nE0 (N : Nat) (x0 : List UInt8) (x1 : Int) (x2 : Int) (x3 : List UInt8) : law_textIs N x0 x1 x2 x3 = (w9TE0 (bodyOf 0 Try.f9) N x0 x1 x2 x3).run := by kernel_rfl
theorem w9oE0 {N : Nat} {r : Bool} (x0 : List UInt8) (x1 : Int) (x2 : Int) (x3 : List UInt8) (h : law_textIs N x0 x1 x2 x3 = some r) : Ends (Y := TT) EE (w9G N) w9lv w9rs (fun u => u = w9enc r) (w9kE0 (bodyOf 0 Try.f9)) (w9sE0 x0 x1 x2 x3) :=
  tree_use (w9vE0 N x0 x1 x2 x3) (w9nE0 N x0 x1 x2 x3) h (show (w9TE0 (bodyOf 0 Try.f9) N x0 x1 x2 x3).all _ from ⟨fun h => w9oR3 N _ _ _ _ h, fun h => w9oR3 N _ _ _ _ h⟩)
theorem law_textIs_ok {N : Nat} (x0 : List UInt8) (x1 : Int) (x2 : Int) (x3 : List UInt8) {r : Bool} (h : law_textIs N x0 x1 x2 x3 = some r) (ρ : Nat → Nat) : ACalls Try.prog 9 (([.a (.d .str x0), .a (.d (.int .i64) x1), .a (.d (.int .i64) x2), .a (.d .str x3)] : List (TV EE.T)).map (TV.to EE.toEnc ρ)) [] (fun out H => out = .ret ((law_textIs_u r).to EE.toEnc ρ) ∧ H = []) :=
  (fn_ok (bodyOf 0 Try.f9) 19 mixed (w9Gok N) Try.func9 (by kernel_rfl) rfl rfl rfl rfl (w9oE0 x0 x1 x2 x3 h) ρ).mono fun out H h => KPost.ret rfl h
def law_textIs_h (N : Nat) : List (TV EE.T) → PV EE.T
  | [u0, u1, u2, u3] => match argD .str u0, argD (.int .i64) u1, argD (.int .i64) u2, argD .str u3 with
    | some x0, some x1, some x2, some x3 => .opt (law_textIs N x0 x1 x2 x3) law_textIs_u
    | _, _, _, _ => .bad
  | _ => .bad
theorem law_textIs_hok (N : Nat) (us : List (TV EE.T)) : (law_textIs_h N us).ok fun u => ∀ ρ, ACalls Try.prog 9 (us.map (TV.to EE.toEnc ρ)) [] (fun out H => out = .ret (u.to EE.toEnc ρ) ∧ H = []) := by
  unfold law_textIs_h
  split
  · split
    · rename_i h0 h1 h2 h3
      intro z hz ρ; refine acalls_le ?_ (law_textIs_ok _ _ _ _ hz ρ); exact ⟨argD_le h0 ρ, argD_le h1 ρ, argD_le h2 ρ, argD_le h3 ρ, trivial⟩
    · trivial
  · trivial
/-! ### gleaner/gleanerlaw.LabelsTexts -/
def law_LabelsTexts_u (r : Bool) : TV EE.T := .a (.d .bool r)
def w3enc (r : Bool) : RL EE.T := .ret (law_LabelsTexts_u r) []
def w3lv : Lvs := ⟨[(5, ⟨[(3, false), (4, false), (5, false), (6, false)], [], []⟩)], [], [5], [], false, [], []⟩
def w3rs : List ResultVar := [.tmp 2]
def w3G (N : Nat) : Gam EE := ⟨[⟨8, law_labelsBegun_h N⟩, ⟨9, law_textIs_h N⟩, ⟨6, ref_CheckLabels_h N⟩, ⟨7, ref_TextOf_h N⟩, ⟨5, labels_Text_h N⟩], EQT, [], []⟩
theorem w3Gok (N : Nat) : GOk Try.prog TT EE (w3G N) := GOk.cons (law_labelsBegun_hok N) (GOk.cons (law_textIs_hok N) (GOk.cons (ref_CheckLabels_hok N) (GOk.cons (ref_TextOf_hok N) (GOk.cons (labels_Text_hok N) (GOk.nil EQT_ok)))))
def w3kR5 (c : Code) : List It2 := atR 5 c
def w3sR5 (x3 : List UInt8) (x4 : Int) (x5 : Int) (x6 : List UInt8) : TS EE.T := ⟨26, [(3, .a (.d .str x3)), (4, .a (.d (.int .i64) x4)), (5, .a (.d (.int .i64) x5)), (6, .a (.d .str x6))], [], []⟩
def w3kE0 (c : Code) : List It2 := [.c c]
def w3sE0 (x0 : List VLabel) : TS EE.T := ⟨26, [(0, .a (.d (.sl (.nam 2)) x0))], [], []⟩
def w3TR5 (c : Code) (N : Nat) (n : Nat) (x3 : List UInt8) (x4 : Int) (x5 : Int) (x6 : List UInt8) : Tree (Lf EE.T × Option Bool) :=
  .bnd (law_labelsBegun N) fun z4 =>
  .cond (z4)
  (
    .bnd (law_textIs N x3 x4 x5 x6) fun z5 =>
    .leaf (.done (w3enc z5), some z5))
  (
    .leaf (.done (w3enc false), some false))
theorem w3vR5 (N : Nat) (n : Nat) (x3 : List UInt8) (x4 : Int) (x5 : Int) (x6 : List UInt8) : evM TT EE (w3G N) w3lv w3rs 4000 true (w3kR5 (bodyOf 0 Try.f3)) (w3sR5 x3 x4 x5 x6) = (w3TR5 (bodyOf 0 Try.f3) N n x3 x4 x5 x6).map1 := by kernel_rfl
theorem w3nR5 (N : Nat) (n : Nat) (x3 : List UInt8) (x4 : Int) (x5 : Int) (x6 : List UInt8) : law_LabelsTexts_R5 N n x3 x4 x5 x6 = (w3TR5 (bodyOf 0 Try.f3) N n x3 x4 x5 x6).run := by kernel_rfl
theorem w3oR5 {N : Nat} {r : Bool} (n : Nat) (x3 : List UInt8) (x4 : Int) (x5 : Int) (x6 : List UInt8) (h : law_LabelsTexts_R5 N n x3 x4 x5 x6 = some r) : Ends (Y := TT) EE (w3G N) w3lv w3rs (fun u => u = w3enc r) (w3kR5 (bodyOf 0 Try.f3)) (w3sR5 x3 x4 x5 x6) :=
  tree_use (w3vR5 N n x3 x4 x5 x6) (w3nR5 N n x3 x4 x5 x6) h (show (w3TR5 (bodyOf 0 Try.f3) N n x3 x4 x5 x6).all _ from fun _ => ⟨fun _ => retp (enc := w3enc) rfl, retp (enc := w3enc) rfl⟩)
def w3TE0 (c : Code) (N : Nat) (x0 : List VLabel) : Tree (Lf EE.T × Option Bool) :=
  .bnd (labels_Text N x0) fun z1 =>
  .bnd (ref_CheckLabels N x0) fun z2 =>
  .cond (z2 == 0)
  (
    .bnd (ref_TextOf N x0) fun z3 =>
    .leaf (.go (w3kR5 c) (w3sR5 z1.1 z1.2 z2 z3), law_LabelsTexts_R5 N N z1.1 z1.2 z2 z3))
  (
    .leaf (.go (w3kR5 c) (w3sR5 z1.1 z1.2 z2 ([] : List UInt8)), law_LabelsTexts_R5 N N z1.1 z1.2 z2 ([] : List UInt8)))
theorem w3vE0 (N : Nat) (x0 : List VLabel) : evM TT EE (w3G N) w3lv w3rs 4000 true (w3kE0 (bodyOf 0 Try.f3)) (w3sE0 x0) = (w3TE0 (bodyOf 0 Try.f3) N x0).map1 := by kernel_rfl
theorem w3nE0 (N : Nat) (x0 : List VLabel) : law_LabelsTexts N x0 = (w3TE0 (bodyOf 0 Try.f3) N x0).run := by kernel_rfl
theorem w3oE0 {N : Nat} {r : Bool} (x0 : List VLabel) (h : law_LabelsTexts N x0 = some r) : Ends (Y := TT) EE (w3G N) w3lv w3rs (fun u => u = w3enc r) (w3kE0 (bodyOf 0 Try.f3)) (w3sE0 x0) :=
  tree_use (w3vE0 N x0) (w3nE0 N x0) h (show (w3TE0 (bodyOf 0 Try.f3) N x0).all _ from fun _ => fun _ => ⟨fun _ => fun h => w3oR5 N _ _ _ _ h, fun h => w3oR5 N _ _ _ _ h⟩)
theorem law_LabelsTexts_ok {N : Nat} (x0 : List VLabel) {r : Bool} (h : law_LabelsTexts N x0 = some r) (ρ : Nat → Nat) : ACalls Try.prog 3 (([.a (.d (.sl (.nam 2)) x0)] : List (TV EE.T)).map (TV.to EE.toEnc ρ)) [] (fun out H => out = .ret ((law_LabelsTexts_u r).to EE.toEnc ρ) ∧ H = []) :=
  (fn_ok (bodyOf 0 Try.f3) 26 mixed (w3Gok N) Try.func3 (by kernel_rfl) rfl rfl rfl rfl (w3oE0 x0 h) ρ).mono fun out H h => KPost.ret rfl h
/-! ### cmp.Or[int] -/
/-! ### gleaner/labels.Order$1 -/
/-! ### slices.CompareFunc[[]gleaner/api.Label,[]gleaner/api.Label,gleaner/api.Label,gleaner/api.Label] -/
/-! ### gleaner/labels.Order -/
/-! ### gleaner/labels.Compare -/
/-! ### gleaner/gleanerref.SameLabels -/
/-! ### gleaner/gleanerlaw.LabelsApart -/
end Go.Proofs.Ytgmlkhfjhogdbaa
