/- The walks that prove plain functions right, written by gen/tgl.py. -/
import Derived.Test.YtbpgpfigndlohaaFE1p
import Derived.Test.YtbpgpfigndlohaaTX
namespace Go.Proofs.Ytbpgpfigndlohaa
open Go.RowKit P
set_option linter.unusedVariables false
set_option linter.unusedSimpArgs false
set_option maxRecDepth 100000
/-! ### gleaner/labels.sum -/
def labels_sum_u (r : Int) : TV EE.T := .a (.d (.int .u64) r)
def w47enc (r : Int) : RL EE.T := .ret (labels_sum_u r) []
def w47lv : Lvs := ⟨[], [(2, ⟨[(0, false), (10, false), (11, false), (12, false)], [], []⟩)], [], [], false, [], []⟩
def w47rs : List ResultVar := [.tmp 4]
def w47G (N : Nat) : Gam EE := ⟨[], EQT, [], []⟩
theorem w47Gok (N : Nat) : GOk Try.prog TT EE (w47G N) := GOk.nil EQT_ok
def w47kL2 (c : Code) : List It2 := atL 2 c
def w47sL2 (x0 : Int) (x10 : List UInt8) (x11 : Int) (x12 : Int) : TS EE.T := ⟨23, [(0, .a (.d (.int .u64) x0)), (10, .a (.own .byte x10)), (11, .a (.d (.int .i64) x11)), (12, .a (.d (.int .i64) x12))], [], []⟩
def w47kE0 (c : Code) : List It2 := [.c c]
def w47sE0 (x0 : Int) (x1 : List UInt8) : TS EE.T := ⟨23, [(0, .a (.d (.int .u64) x0)), (1, .a (.d .str x1))], [], []⟩
def w47TL2 (c : Code) (N : Nat) (n : Nat) (x0 : Int) (x10 : List UInt8) (x11 : Int) (x12 : Int) : Tree (Lf EE.T × Option Int) :=
  .cond (decide (x12 < x11))
  (
    .bnd (idxC x10 x12) fun z2 =>
    .leaf (.go (w47kL2 c) (w47sL2 (IntKind.wrap .u64 ((bits .xor .u64 x0 (IntKind.wrap .u64 (b2i z2))) * 1099511628211)) x10 x11 (w64 (x12 + 1))), labels_sum_L2 N n (IntKind.wrap .u64 ((bits .xor .u64 x0 (IntKind.wrap .u64 (b2i z2))) * 1099511628211)) x10 x11 (w64 (x12 + 1))))
  (
    .leaf (.done (w47enc x0), some x0))
theorem w47vL2 (N : Nat) (n : Nat) (x0 : Int) (x10 : List UInt8) (x11 : Int) (x12 : Int) : evM TT EE (w47G N) w47lv w47rs 4000 true (w47kL2 (bodyOf 0 Try.f47)) (w47sL2 x0 x10 x11 x12) = (w47TL2 (bodyOf 0 Try.f47) N n x0 x10 x11 x12).map1 := by kernel_rfl
theorem w47nL2 (N : Nat) (n : Nat) (x0 : Int) (x10 : List UInt8) (x11 : Int) (x12 : Int) : labels_sum_L2 N (n + 1) x0 x10 x11 x12 = (w47TL2 (bodyOf 0 Try.f47) N n x0 x10 x11 x12).run := by kernel_rfl
theorem w47oL2 {N : Nat} {r : Int} : ∀ (n : Nat) (x0 : Int) (x10 : List UInt8) (x11 : Int) (x12 : Int), labels_sum_L2 N n x0 x10 x11 x12 = some r → Ends (Y := TT) EE (w47G N) w47lv w47rs (fun u => u = w47enc r) (w47kL2 (bodyOf 0 Try.f47)) (w47sL2 x0 x10 x11 x12)
  | 0, _, _, _, _, h => by cases h
  | n + 1, x0, x10, x11, x12, h => tree_use (w47vL2 N n x0 x10 x11 x12) (w47nL2 N n x0 x10 x11 x12) h (show (w47TL2 (bodyOf 0 Try.f47) N n x0 x10 x11 x12).all _ from ⟨fun _ => fun h => (w47oL2 n) _ _ _ _ h, retp (enc := w47enc) rfl⟩)
def w47TE0 (c : Code) (N : Nat) (x0 : Int) (x1 : List UInt8) : Tree (Lf EE.T × Option Int) :=
  .bnd (appC 1 x1 ([255] : List UInt8)) fun z1 =>
  .leaf (.go (w47kL2 c) (w47sL2 x0 z1 (z1.length : Int) 0), labels_sum_L2 N N x0 z1 (z1.length : Int) 0)
theorem w47vE0 (N : Nat) (x0 : Int) (x1 : List UInt8) : evM TT EE (w47G N) w47lv w47rs 4000 true (w47kE0 (bodyOf 0 Try.f47)) (w47sE0 x0 x1) = (w47TE0 (bodyOf 0 Try.f47) N x0 x1).map1 := by kernel_rfl
theorem w47nE0 (N : Nat) (x0 : Int) (x1 : List UInt8) : labels_sum N x0 x1 = (w47TE0 (bodyOf 0 Try.f47) N x0 x1).run := by kernel_rfl
theorem w47oE0 {N : Nat} {r : Int} (x0 : Int) (x1 : List UInt8) (h : labels_sum N x0 x1 = some r) : Ends (Y := TT) EE (w47G N) w47lv w47rs (fun u => u = w47enc r) (w47kE0 (bodyOf 0 Try.f47)) (w47sE0 x0 x1) :=
  tree_use (w47vE0 N x0 x1) (w47nE0 N x0 x1) h (show (w47TE0 (bodyOf 0 Try.f47) N x0 x1).all _ from fun _ => fun h => w47oL2 N _ _ _ _ h)
theorem labels_sum_ok {N : Nat} (x0 : Int) (x1 : List UInt8) {r : Int} (h : labels_sum N x0 x1 = some r) (ρ : Nat → Nat) : ACalls Try.prog 47 (([.a (.d (.int .u64) x0), .a (.d .str x1)] : List (TV EE.T)).map (TV.to EE.toEnc ρ)) [] (fun out H => out = .ret ((labels_sum_u r).to EE.toEnc ρ) ∧ H = []) :=
  (fn_ok (bodyOf 0 Try.f47) 23 mixed (w47Gok N) Try.func47 (by kernel_rfl) rfl rfl rfl rfl (w47oE0 x0 x1 h) ρ).mono fun out H h => KPost.ret rfl h
def labels_sum_h (N : Nat) : List (TV EE.T) → PV EE.T
  | [u0, u1] => match argD (.int .u64) u0, argD .str u1 with
    | some x0, some x1 => .opt (labels_sum N x0 x1) labels_sum_u
    | _, _ => .bad
  | _ => .bad
theorem labels_sum_hok (N : Nat) (us : List (TV EE.T)) : (labels_sum_h N us).ok fun u => ∀ ρ, ACalls Try.prog 47 (us.map (TV.to EE.toEnc ρ)) [] (fun out H => out = .ret (u.to EE.toEnc ρ) ∧ H = []) := by
  unfold labels_sum_h
  split
  · split
    · rename_i h0 h1
      intro z hz ρ; refine acalls_le ?_ (labels_sum_ok _ _ hz ρ); exact ⟨argD_le h0 ρ, argD_le h1 ρ, trivial⟩
    · trivial
  · trivial
/-! ### gleaner/labels.RawSum -/
def labels_RawSum_u (r : Int) : TV EE.T := .a (.d (.int .u64) r)
def w35enc (r : Int) : RL EE.T := .ret (labels_RawSum_u r) []
def w35lv : Lvs := ⟨[(5, ⟨[(3, false), (5, false), (6, false), (7, false), (8, false)], [], [(5, (some 2, []))]⟩)], [(3, ⟨[(3, false), (6, false), (7, false), (8, false)], [], []⟩)], [], [], false, [], []⟩
def w35rs : List ResultVar := [.tmp 2]
def w35G (N : Nat) : Gam EE := ⟨[⟨47, labels_sum_h N⟩], EQT, [], []⟩
theorem w35Gok (N : Nat) : GOk Try.prog TT EE (w35G N) := GOk.cons (labels_sum_hok N) (GOk.nil EQT_ok)
def w35kL3 (c : Code) : List It2 := atL 3 c
def w35sL3 (x3 : Int) (x6 : List VLabel) (x7 : Int) (x8 : Int) : TS EE.T := ⟨21, [(3, .a (.d (.int .u64) x3)), (6, .a (.d (.sl (.nam 2)) x6)), (7, .a (.d (.int .i64) x7)), (8, .a (.d (.int .i64) x8))], [], []⟩
def w35kE0 (c : Code) : List It2 := [.c c]
def w35sE0 (x0 : List VLabel) : TS EE.T := ⟨21, [(0, .a (.d (.sl (.nam 2)) x0))], [], []⟩
def w35TL3 (c : Code) (N : Nat) (n : Nat) (x3 : Int) (x6 : List VLabel) (x7 : Int) (x8 : Int) : Tree (Lf EE.T × Option Int) :=
  .cond (decide (x8 < x7))
  (
    .bnd (idxC x6 x8) fun z1 =>
    .bnd (labels_sum N x3 z1.Name) fun z2 =>
    .bnd (labels_sum N z2 z1.Value) fun z3 =>
    .leaf (.go (w35kL3 c) (w35sL3 z3 x6 x7 (w64 (x8 + 1))), labels_RawSum_L3 N n z3 x6 x7 (w64 (x8 + 1))))
  (
    .leaf (.done (w35enc x3), some x3))
theorem w35vL3 (N : Nat) (n : Nat) (x3 : Int) (x6 : List VLabel) (x7 : Int) (x8 : Int) : evM TT EE (w35G N) w35lv w35rs 4000 true (w35kL3 (bodyOf 0 Try.f35)) (w35sL3 x3 x6 x7 x8) = (w35TL3 (bodyOf 0 Try.f35) N n x3 x6 x7 x8).map1 := by kernel_rfl
theorem w35nL3 (N : Nat) (n : Nat) (x3 : Int) (x6 : List VLabel) (x7 : Int) (x8 : Int) : labels_RawSum_L3 N (n + 1) x3 x6 x7 x8 = (w35TL3 (bodyOf 0 Try.f35) N n x3 x6 x7 x8).run := by kernel_rfl
theorem w35oL3 {N : Nat} {r : Int} : ∀ (n : Nat) (x3 : Int) (x6 : List VLabel) (x7 : Int) (x8 : Int), labels_RawSum_L3 N n x3 x6 x7 x8 = some r → Ends (Y := TT) EE (w35G N) w35lv w35rs (fun u => u = w35enc r) (w35kL3 (bodyOf 0 Try.f35)) (w35sL3 x3 x6 x7 x8)
  | 0, _, _, _, _, h => by cases h
  | n + 1, x3, x6, x7, x8, h => tree_use (w35vL3 N n x3 x6 x7 x8) (w35nL3 N n x3 x6 x7 x8) h (show (w35TL3 (bodyOf 0 Try.f35) N n x3 x6 x7 x8).all _ from ⟨fun _ => fun _ => fun _ => fun h => (w35oL3 n) _ _ _ _ h, retp (enc := w35enc) rfl⟩)
def w35TE0 (c : Code) (N : Nat) (x0 : List VLabel) : Tree (Lf EE.T × Option Int) :=
  .leaf (.go (w35kL3 c) (w35sL3 14695981039346656037 x0 (x0.length : Int) 0), labels_RawSum_L3 N N 14695981039346656037 x0 (x0.length : Int) 0)
theorem w35vE0 (N : Nat) (x0 : List VLabel) : evM TT EE (w35G N) w35lv w35rs 4000 true (w35kE0 (bodyOf 0 Try.f35)) (w35sE0 x0) = (w35TE0 (bodyOf 0 Try.f35) N x0).map1 := by kernel_rfl
theorem w35nE0 (N : Nat) (x0 : List VLabel) : labels_RawSum N x0 = (w35TE0 (bodyOf 0 Try.f35) N x0).run := by kernel_rfl
theorem w35oE0 {N : Nat} {r : Int} (x0 : List VLabel) (h : labels_RawSum N x0 = some r) : Ends (Y := TT) EE (w35G N) w35lv w35rs (fun u => u = w35enc r) (w35kE0 (bodyOf 0 Try.f35)) (w35sE0 x0) :=
  tree_use (w35vE0 N x0) (w35nE0 N x0) h (show (w35TE0 (bodyOf 0 Try.f35) N x0).all _ from fun h => w35oL3 N _ _ _ _ h)
theorem labels_RawSum_ok {N : Nat} (x0 : List VLabel) {r : Int} (h : labels_RawSum N x0 = some r) (ρ : Nat → Nat) : ACalls Try.prog 35 (([.a (.d (.sl (.nam 2)) x0)] : List (TV EE.T)).map (TV.to EE.toEnc ρ)) [] (fun out H => out = .ret ((labels_RawSum_u r).to EE.toEnc ρ) ∧ H = []) :=
  (fn_ok (bodyOf 0 Try.f35) 21 mixed (w35Gok N) Try.func35 (by kernel_rfl) rfl rfl rfl rfl (w35oE0 x0 h) ρ).mono fun out H h => KPost.ret rfl h
def labels_RawSum_h (N : Nat) : List (TV EE.T) → PV EE.T
  | [u0] => match argD (.sl (.nam 2)) u0 with
    | some x0 => .opt (labels_RawSum N x0) labels_RawSum_u
    | _ => .bad
  | _ => .bad
theorem labels_RawSum_hok (N : Nat) (us : List (TV EE.T)) : (labels_RawSum_h N us).ok fun u => ∀ ρ, ACalls Try.prog 35 (us.map (TV.to EE.toEnc ρ)) [] (fun out H => out = .ret (u.to EE.toEnc ρ) ∧ H = []) := by
  unfold labels_RawSum_h
  split
  · split
    · rename_i h0
      intro z hz ρ; refine acalls_le ?_ (labels_RawSum_ok _ hz ρ); exact ⟨argD_le h0 ρ, trivial⟩
    · trivial
  · trivial
/-! ### gleaner/labels.Sum -/
def labels_Sum_u (r : Int × Int) : TV EE.T := .tu [.a (.d (.int .u64) r.1), .a (.d (.int .i64) r.2)]
def w18enc (r : Int × Int) : RL EE.T := .ret (labels_Sum_u r) []
def w18lv : Lvs := ⟨[], [], [], [], false, [], []⟩
def w18rs : List ResultVar := [.tmp 2, .tmp 3]
def w18G (N : Nat) : Gam EE := ⟨[⟨35, labels_RawSum_h N⟩, ⟨30, labels_check_h N⟩], EQT, [], []⟩
theorem w18Gok (N : Nat) : GOk Try.prog TT EE (w18G N) := GOk.cons (labels_RawSum_hok N) (GOk.cons (labels_check_hok N) (GOk.nil EQT_ok))
def w18kE0 (c : Code) : List It2 := [.c c]
def w18sE0 (x0 : List VLabel) : TS EE.T := ⟨13, [(0, .a (.d (.sl (.nam 2)) x0))], [], []⟩
def w18TE0 (c : Code) (N : Nat) (x0 : List VLabel) : Tree (Lf EE.T × Option (Int × Int)) :=
  .bnd (labels_check N ([x0] : List (List VLabel))) fun z1 =>
  .cond (z1 != 0)
  (
    .leaf (.done (w18enc (0, z1)), some (0, z1)))
  (
    .bnd (labels_RawSum N x0) fun z2 =>
    .leaf (.done (w18enc (z2, 0)), some (z2, 0)))
theorem w18vE0 (N : Nat) (x0 : List VLabel) : evM TT EE (w18G N) w18lv w18rs 4000 true (w18kE0 (bodyOf 0 Try.f18)) (w18sE0 x0) = (w18TE0 (bodyOf 0 Try.f18) N x0).map1 := by kernel_rfl
theorem w18nE0 (N : Nat) (x0 : List VLabel) : labels_Sum N x0 = (w18TE0 (bodyOf 0 Try.f18) N x0).run := by kernel_rfl
theorem w18oE0 {N : Nat} {r : Int × Int} (x0 : List VLabel) (h : labels_Sum N x0 = some r) : Ends (Y := TT) EE (w18G N) w18lv w18rs (fun u => u = w18enc r) (w18kE0 (bodyOf 0 Try.f18)) (w18sE0 x0) :=
  tree_use (w18vE0 N x0) (w18nE0 N x0) h (show (w18TE0 (bodyOf 0 Try.f18) N x0).all _ from fun _ => ⟨retp (enc := w18enc) rfl, fun _ => retp (enc := w18enc) rfl⟩)
theorem labels_Sum_ok {N : Nat} (x0 : List VLabel) {r : Int × Int} (h : labels_Sum N x0 = some r) (ρ : Nat → Nat) : ACalls Try.prog 18 (([.a (.d (.sl (.nam 2)) x0)] : List (TV EE.T)).map (TV.to EE.toEnc ρ)) [] (fun out H => out = .ret ((labels_Sum_u r).to EE.toEnc ρ) ∧ H = []) :=
  (fn_ok (bodyOf 0 Try.f18) 13 mixed (w18Gok N) Try.func18 (by kernel_rfl) rfl rfl rfl rfl (w18oE0 x0 h) ρ).mono fun out H h => KPost.ret rfl h
def labels_Sum_h (N : Nat) : List (TV EE.T) → PV EE.T
  | [u0] => match argD (.sl (.nam 2)) u0 with
    | some x0 => .opt (labels_Sum N x0) labels_Sum_u
    | _ => .bad
  | _ => .bad
theorem labels_Sum_hok (N : Nat) (us : List (TV EE.T)) : (labels_Sum_h N us).ok fun u => ∀ ρ, ACalls Try.prog 18 (us.map (TV.to EE.toEnc ρ)) [] (fun out H => out = .ret (u.to EE.toEnc ρ) ∧ H = []) := by
  unfold labels_Sum_h
  split
  · split
    · rename_i h0
      intro z hz ρ; refine acalls_le ?_ (labels_Sum_ok _ hz ρ); exact ⟨argD_le h0 ρ, trivial⟩
    · trivial
  · trivial
/-! ### gleaner/gleanerlaw.labelsBegun -/
def law_labelsBegun_u (r : Bool) : TV EE.T := .a (.d .bool r)
def w10enc (r : Bool) : RL EE.T := .ret (law_labelsBegun_u r) []
def w10lv : Lvs := ⟨[], [], [], [], false, [], []⟩
def w10rs : List ResultVar := [.tmp 0]
def w10G (N : Nat) : Gam EE := ⟨[⟨18, labels_Sum_h N⟩, ⟨15, labels_Text_h N⟩], EQT, [], []⟩
theorem w10Gok (N : Nat) : GOk Try.prog TT EE (w10G N) := GOk.cons (labels_Sum_hok N) (GOk.cons (labels_Text_hok N) (GOk.nil EQT_ok))
def w10kE0 (c : Code) : List It2 := [.c c]
def w10sE0 : TS EE.T := ⟨30, [], [], []⟩
def w10TE0 (c : Code) (N : Nat) : Tree (Lf EE.T × Option Bool) :=
  .bnd (labels_Text N ([({ Name := ([95, 95, 110, 97, 109, 101, 95, 95] : List UInt8), Value := ([117, 112] : List UInt8) } : VLabel), ({ Name := ([106, 111, 98] : List UInt8), Value := ([120] : List UInt8) } : VLabel)] : List VLabel)) fun z1 =>
  .bnd (labels_Sum N ([] : List VLabel)) fun z2 =>
  .cond (z1.2 == 0)
  (
    .cond (decide (z1.1 = ([117, 112, 123, 106, 111, 98, 61, 34, 120, 34, 125] : List UInt8)))
    (
      .cond (z2.2 == 0)
      (
        .leaf (.done (w10enc (z2.1 == 14695981039346656037)), some (z2.1 == 14695981039346656037)))
      (
        .leaf (.done (w10enc false), some false)))
    (
      .leaf (.done (w10enc false), some false)))
  (
    .leaf (.done (w10enc false), some false))
theorem w10vE0 (N : Nat) : evM TT EE (w10G N) w10lv w10rs 4000 true (w10kE0 (bodyOf 0 Try.f10)) (w10sE0) = (w10TE0 (bodyOf 0 Try.f10) N).map1 := by kernel_rfl
theorem w10nE0 (N : Nat) : law_labelsBegun N = (w10TE0 (bodyOf 0 Try.f10) N).run := by kernel_rfl
theorem w10oE0 {N : Nat} {r : Bool} (h : law_labelsBegun N = some r) : Ends (Y := TT) EE (w10G N) w10lv w10rs (fun u => u = w10enc r) (w10kE0 (bodyOf 0 Try.f10)) (w10sE0) :=
  tree_use (w10vE0 N) (w10nE0 N) h (show (w10TE0 (bodyOf 0 Try.f10) N).all _ from fun _ => fun _ => ⟨⟨⟨retp (enc := w10enc) rfl, retp (enc := w10enc) rfl⟩, retp (enc := w10enc) rfl⟩, retp (enc := w10enc) rfl⟩)
theorem law_labelsBegun_ok {N : Nat} {r : Bool} (h : law_labelsBegun N = some r) (ρ : Nat → Nat) : ACalls Try.prog 10 (([] : List (TV EE.T)).map (TV.to EE.toEnc ρ)) [] (fun out H => out = .ret ((law_labelsBegun_u r).to EE.toEnc ρ) ∧ H = []) :=
  (fn_ok (bodyOf 0 Try.f10) 30 mixed (w10Gok N) Try.func10 (by kernel_rfl) rfl rfl rfl rfl (w10oE0 h) ρ).mono fun out H h => KPost.ret rfl h
def law_labelsBegun_h (N : Nat) : List (TV EE.T) → PV EE.T
  | [] => .opt (law_labelsBegun N) law_labelsBegun_u
  | _ => .bad
theorem law_labelsBegun_hok (N : Nat) (us : List (TV EE.T)) : (law_labelsBegun_h N us).ok fun u => ∀ ρ, ACalls Try.prog 10 (us.map (TV.to EE.toEnc ρ)) [] (fun out H => out = .ret (u.to EE.toEnc ρ) ∧ H = []) := by
  unfold law_labelsBegun_h
  split
  · intro z hz ρ; exact law_labelsBegun_ok hz ρ
  · trivial
/-! ### gleaner/gleanerref.IsLetter -/
def ref_IsLetter_u (r : Bool) : TV EE.T := .a (.d .bool r)
def w24enc (r : Bool) : RL EE.T := .ret (ref_IsLetter_u r) []
def w24lv : Lvs := ⟨[], [], [], [], false, [], []⟩
def w24rs : List ResultVar := [.tmp 2]
def w24G (N : Nat) : Gam EE := ⟨[], EQT, [], []⟩
theorem w24Gok (N : Nat) : GOk Try.prog TT EE (w24G N) := GOk.nil EQT_ok
def w24kE0 (c : Code) : List It2 := [.c c]
def w24sE0 (x0 : UInt8) : TS EE.T := ⟨21, [(0, .a (.d .byte x0))], [], []⟩
def w24TE0 (c : Code) (N : Nat) (x0 : UInt8) : Tree (Lf EE.T × Option Bool) :=
  .cond (decide ((b2i x0) ≥ (b2i 97)))
  (
    .cond (decide ((b2i x0) ≤ (b2i 122)))
    (
      .leaf (.done (w24enc true), some true))
    (
      .cond (decide ((b2i x0) ≥ (b2i 65)))
      (
        .cond (decide ((b2i x0) ≤ (b2i 90)))
        (
          .leaf (.done (w24enc true), some true))
        (
          .leaf (.done (w24enc ((b2i x0) == (b2i 95))), some ((b2i x0) == (b2i 95)))))
      (
        .leaf (.done (w24enc ((b2i x0) == (b2i 95))), some ((b2i x0) == (b2i 95))))))
  (
    .cond (decide ((b2i x0) ≥ (b2i 65)))
    (
      .cond (decide ((b2i x0) ≤ (b2i 90)))
      (
        .leaf (.done (w24enc true), some true))
      (
        .leaf (.done (w24enc ((b2i x0) == (b2i 95))), some ((b2i x0) == (b2i 95)))))
    (
      .leaf (.done (w24enc ((b2i x0) == (b2i 95))), some ((b2i x0) == (b2i 95)))))
theorem w24vE0 (N : Nat) (x0 : UInt8) : evM TT EE (w24G N) w24lv w24rs 4000 true (w24kE0 (bodyOf 0 Try.f24)) (w24sE0 x0) = (w24TE0 (bodyOf 0 Try.f24) N x0).map1 := by kernel_rfl
theorem w24nE0 (N : Nat) (x0 : UInt8) : ref_IsLetter N x0 = (w24TE0 (bodyOf 0 Try.f24) N x0).run := by kernel_rfl
theorem w24oE0 {N : Nat} {r : Bool} (x0 : UInt8) (h : ref_IsLetter N x0 = some r) : Ends (Y := TT) EE (w24G N) w24lv w24rs (fun u => u = w24enc r) (w24kE0 (bodyOf 0 Try.f24)) (w24sE0 x0) :=
  tree_use (w24vE0 N x0) (w24nE0 N x0) h (show (w24TE0 (bodyOf 0 Try.f24) N x0).all _ from ⟨⟨retp (enc := w24enc) rfl, ⟨⟨retp (enc := w24enc) rfl, retp (enc := w24enc) rfl⟩, retp (enc := w24enc) rfl⟩⟩, ⟨⟨retp (enc := w24enc) rfl, retp (enc := w24enc) rfl⟩, retp (enc := w24enc) rfl⟩⟩)
theorem ref_IsLetter_ok {N : Nat} (x0 : UInt8) {r : Bool} (h : ref_IsLetter N x0 = some r) (ρ : Nat → Nat) : ACalls Try.prog 24 (([.a (.d .byte x0)] : List (TV EE.T)).map (TV.to EE.toEnc ρ)) [] (fun out H => out = .ret ((ref_IsLetter_u r).to EE.toEnc ρ) ∧ H = []) :=
  (fn_ok (bodyOf 0 Try.f24) 21 mixed (w24Gok N) Try.func24 (by kernel_rfl) rfl rfl rfl rfl (w24oE0 x0 h) ρ).mono fun out H h => KPost.ret rfl h
def ref_IsLetter_h (N : Nat) : List (TV EE.T) → PV EE.T
  | [u0] => match argD .byte u0 with
    | some x0 => .opt (ref_IsLetter N x0) ref_IsLetter_u
    | _ => .bad
  | _ => .bad
theorem ref_IsLetter_hok (N : Nat) (us : List (TV EE.T)) : (ref_IsLetter_h N us).ok fun u => ∀ ρ, ACalls Try.prog 24 (us.map (TV.to EE.toEnc ρ)) [] (fun out H => out = .ret (u.to EE.toEnc ρ) ∧ H = []) := by
  unfold ref_IsLetter_h
  split
  · split
    · rename_i h0
      intro z hz ρ; refine acalls_le ?_ (ref_IsLetter_ok _ hz ρ); exact ⟨argD_le h0 ρ, trivial⟩
    · trivial
  · trivial
/-! ### gleaner/gleanerref.IsNumeral -/
def ref_IsNumeral_u (r : Bool) : TV EE.T := .a (.d .bool r)
def w25enc (r : Bool) : RL EE.T := .ret (ref_IsNumeral_u r) []
def w25lv : Lvs := ⟨[], [], [], [], false, [], []⟩
def w25rs : List ResultVar := [.tmp 2]
def w25G (N : Nat) : Gam EE := ⟨[], EQT, [], []⟩
theorem w25Gok (N : Nat) : GOk Try.prog TT EE (w25G N) := GOk.nil EQT_ok
def w25kE0 (c : Code) : List It2 := [.c c]
def w25sE0 (x0 : UInt8) : TS EE.T := ⟨9, [(0, .a (.d .byte x0))], [], []⟩
def w25TE0 (c : Code) (N : Nat) (x0 : UInt8) : Tree (Lf EE.T × Option Bool) :=
  .cond (decide ((b2i x0) ≥ (b2i 48)))
  (
    .leaf (.done (w25enc (decide ((b2i x0) ≤ (b2i 57)))), some (decide ((b2i x0) ≤ (b2i 57)))))
  (
    .leaf (.done (w25enc false), some false))
theorem w25vE0 (N : Nat) (x0 : UInt8) : evM TT EE (w25G N) w25lv w25rs 4000 true (w25kE0 (bodyOf 0 Try.f25)) (w25sE0 x0) = (w25TE0 (bodyOf 0 Try.f25) N x0).map1 := by kernel_rfl
theorem w25nE0 (N : Nat) (x0 : UInt8) : ref_IsNumeral N x0 = (w25TE0 (bodyOf 0 Try.f25) N x0).run := by kernel_rfl
theorem w25oE0 {N : Nat} {r : Bool} (x0 : UInt8) (h : ref_IsNumeral N x0 = some r) : Ends (Y := TT) EE (w25G N) w25lv w25rs (fun u => u = w25enc r) (w25kE0 (bodyOf 0 Try.f25)) (w25sE0 x0) :=
  tree_use (w25vE0 N x0) (w25nE0 N x0) h (show (w25TE0 (bodyOf 0 Try.f25) N x0).all _ from ⟨retp (enc := w25enc) rfl, retp (enc := w25enc) rfl⟩)
theorem ref_IsNumeral_ok {N : Nat} (x0 : UInt8) {r : Bool} (h : ref_IsNumeral N x0 = some r) (ρ : Nat → Nat) : ACalls Try.prog 25 (([.a (.d .byte x0)] : List (TV EE.T)).map (TV.to EE.toEnc ρ)) [] (fun out H => out = .ret ((ref_IsNumeral_u r).to EE.toEnc ρ) ∧ H = []) :=
  (fn_ok (bodyOf 0 Try.f25) 9 mixed (w25Gok N) Try.func25 (by kernel_rfl) rfl rfl rfl rfl (w25oE0 x0 h) ρ).mono fun out H h => KPost.ret rfl h
def ref_IsNumeral_h (N : Nat) : List (TV EE.T) → PV EE.T
  | [u0] => match argD .byte u0 with
    | some x0 => .opt (ref_IsNumeral N x0) ref_IsNumeral_u
    | _ => .bad
  | _ => .bad
theorem ref_IsNumeral_hok (N : Nat) (us : List (TV EE.T)) : (ref_IsNumeral_h N us).ok fun u => ∀ ρ, ACalls Try.prog 25 (us.map (TV.to EE.toEnc ρ)) [] (fun out H => out = .ret (u.to EE.toEnc ρ) ∧ H = []) := by
  unfold ref_IsNumeral_h
  split
  · split
    · rename_i h0
      intro z hz ρ; refine acalls_le ?_ (ref_IsNumeral_ok _ hz ρ); exact ⟨argD_le h0 ρ, trivial⟩
    · trivial
  · trivial
/-! ### gleaner/gleanerref.IsName -/
def ref_IsName_u (r : Bool) : TV EE.T := .a (.d .bool r)
def w12enc (r : Bool) : RL EE.T := .ret (ref_IsName_u r) []
def w12lv : Lvs := ⟨[(3, ⟨[(0, false), (3, false)], [], []⟩)], [(2, ⟨[(0, false), (3, false)], [], []⟩)], [3], [], false, [], []⟩
def w12rs : List ResultVar := [.tmp 2]
def w12G (N : Nat) : Gam EE := ⟨[⟨24, ref_IsLetter_h N⟩, ⟨25, ref_IsNumeral_h N⟩], EQT, [], []⟩
theorem w12Gok (N : Nat) : GOk Try.prog TT EE (w12G N) := GOk.cons (ref_IsLetter_hok N) (GOk.cons (ref_IsNumeral_hok N) (GOk.nil EQT_ok))
def w12kR3 (c : Code) : List It2 := atR 3 c
def w12sR3 (x0 : List UInt8) (x3 : Int) : TS EE.T := ⟨34, [(0, .a (.d .str x0)), (3, .a (.d (.int .i64) x3))], [], []⟩
def w12kL2 (c : Code) : List It2 := atL 2 c
def w12sL2 (x0 : List UInt8) (x3 : Int) : TS EE.T := ⟨34, [(0, .a (.d .str x0)), (3, .a (.d (.int .i64) x3))], [], []⟩
def w12kE0 (c : Code) : List It2 := [.c c]
def w12sE0 (x0 : List UInt8) : TS EE.T := ⟨34, [(0, .a (.d .str x0))], [], []⟩
def w12TR3 (c : Code) (N : Nat) (k2 : (List UInt8) → Int → Option Bool) (n : Nat) (x0 : List UInt8) (x3 : Int) : Tree (Lf EE.T × Option Bool) :=
  .leaf (.go (w12kL2 c) (w12sL2 x0 (w64 (x3 + 1))), k2 x0 (w64 (x3 + 1)))
theorem w12vR3 (N : Nat) (k2 : (List UInt8) → Int → Option Bool) (n : Nat) (x0 : List UInt8) (x3 : Int) : evM TT EE (w12G N) w12lv w12rs 4000 true (w12kR3 (bodyOf 0 Try.f12)) (w12sR3 x0 x3) = (w12TR3 (bodyOf 0 Try.f12) N k2 n x0 x3).map1 := by kernel_rfl
theorem w12nR3 (N : Nat) (k2 : (List UInt8) → Int → Option Bool) (n : Nat) (x0 : List UInt8) (x3 : Int) : ref_IsName_R3 N k2 n x0 x3 = (w12TR3 (bodyOf 0 Try.f12) N k2 n x0 x3).run := by kernel_rfl
theorem w12oR3 {N : Nat} {r : Bool} {k2 : (List UInt8) → Int → Option Bool} (hk2 : ∀ x0 x3, k2 x0 x3 = some r → Ends (Y := TT) EE (w12G N) w12lv w12rs (fun u => u = w12enc r) (w12kL2 (bodyOf 0 Try.f12)) (w12sL2 x0 x3)) (n : Nat) (x0 : List UInt8) (x3 : Int) (h : ref_IsName_R3 N k2 n x0 x3 = some r) : Ends (Y := TT) EE (w12G N) w12lv w12rs (fun u => u = w12enc r) (w12kR3 (bodyOf 0 Try.f12)) (w12sR3 x0 x3) :=
  tree_use (w12vR3 N k2 n x0 x3) (w12nR3 N k2 n x0 x3) h (show (w12TR3 (bodyOf 0 Try.f12) N k2 n x0 x3).all _ from fun h => hk2 _ _ h)
def w12TL2 (c : Code) (N : Nat) (n : Nat) (x0 : List UInt8) (x3 : Int) : Tree (Lf EE.T × Option Bool) :=
  .cond (decide (x3 < (x0.length : Int)))
  (
    .bnd (idxC x0 x3) fun z1 =>
    .bnd (ref_IsLetter N z1) fun z2 =>
    .cond (!z2)
    (
      .cond (x3 == 0)
      (
        .leaf (.done (w12enc false), some false))
      (
        .bnd (idxC x0 x3) fun z3 =>
        .bnd (ref_IsNumeral N z3) fun z4 =>
        .cond (!z4)
        (
          .leaf (.done (w12enc false), some false))
        (
          .leaf (.go (w12kR3 c) (w12sR3 x0 x3), ref_IsName_R3 N (ref_IsName_L2 N n) n x0 x3))))
    (
      .leaf (.go (w12kR3 c) (w12sR3 x0 x3), ref_IsName_R3 N (ref_IsName_L2 N n) n x0 x3)))
  (
    .cond (decide ((x0.length : Int) ≥ 1))
    (
      .leaf (.done (w12enc (decide ((x0.length : Int) ≤ 40))), some (decide ((x0.length : Int) ≤ 40))))
    (
      .leaf (.done (w12enc false), some false)))
theorem w12vL2 (N : Nat) (n : Nat) (x0 : List UInt8) (x3 : Int) : evM TT EE (w12G N) w12lv w12rs 4000 true (w12kL2 (bodyOf 0 Try.f12)) (w12sL2 x0 x3) = (w12TL2 (bodyOf 0 Try.f12) N n x0 x3).map1 := by kernel_rfl
theorem w12nL2 (N : Nat) (n : Nat) (x0 : List UInt8) (x3 : Int) : ref_IsName_L2 N (n + 1) x0 x3 = (w12TL2 (bodyOf 0 Try.f12) N n x0 x3).run := by kernel_rfl
theorem w12oL2 {N : Nat} {r : Bool} : ∀ (n : Nat) (x0 : List UInt8) (x3 : Int), ref_IsName_L2 N n x0 x3 = some r → Ends (Y := TT) EE (w12G N) w12lv w12rs (fun u => u = w12enc r) (w12kL2 (bodyOf 0 Try.f12)) (w12sL2 x0 x3)
  | 0, _, _, h => by cases h
  | n + 1, x0, x3, h => tree_use (w12vL2 N n x0 x3) (w12nL2 N n x0 x3) h (show (w12TL2 (bodyOf 0 Try.f12) N n x0 x3).all _ from ⟨fun _ => fun _ => ⟨⟨retp (enc := w12enc) rfl, fun _ => fun _ => ⟨retp (enc := w12enc) rfl, fun h => w12oR3 (w12oL2 n) n _ _ h⟩⟩, fun h => w12oR3 (w12oL2 n) n _ _ h⟩, ⟨retp (enc := w12enc) rfl, retp (enc := w12enc) rfl⟩⟩)
def w12TE0 (c : Code) (N : Nat) (x0 : List UInt8) : Tree (Lf EE.T × Option Bool) :=
  .leaf (.go (w12kL2 c) (w12sL2 x0 0), ref_IsName_L2 N N x0 0)
theorem w12vE0 (N : Nat) (x0 : List UInt8) : evM TT EE (w12G N) w12lv w12rs 4000 true (w12kE0 (bodyOf 0 Try.f12)) (w12sE0 x0) = (w12TE0 (bodyOf 0 Try.f12) N x0).map1 := by kernel_rfl
theorem w12nE0 (N : Nat) (x0 : List UInt8) : ref_IsName N x0 = (w12TE0 (bodyOf 0 Try.f12) N x0).run := by kernel_rfl
theorem w12oE0 {N : Nat} {r : Bool} (x0 : List UInt8) (h : ref_IsName N x0 = some r) : Ends (Y := TT) EE (w12G N) w12lv w12rs (fun u => u = w12enc r) (w12kE0 (bodyOf 0 Try.f12)) (w12sE0 x0) :=
  tree_use (w12vE0 N x0) (w12nE0 N x0) h (show (w12TE0 (bodyOf 0 Try.f12) N x0).all _ from fun h => w12oL2 N _ _ h)
theorem ref_IsName_ok {N : Nat} (x0 : List UInt8) {r : Bool} (h : ref_IsName N x0 = some r) (ρ : Nat → Nat) : ACalls Try.prog 12 (([.a (.d .str x0)] : List (TV EE.T)).map (TV.to EE.toEnc ρ)) [] (fun out H => out = .ret ((ref_IsName_u r).to EE.toEnc ρ) ∧ H = []) :=
  (fn_ok (bodyOf 0 Try.f12) 34 mixed (w12Gok N) Try.func12 (by kernel_rfl) rfl rfl rfl rfl (w12oE0 x0 h) ρ).mono fun out H h => KPost.ret rfl h
def ref_IsName_h (N : Nat) : List (TV EE.T) → PV EE.T
  | [u0] => match argD .str u0 with
    | some x0 => .opt (ref_IsName N x0) ref_IsName_u
    | _ => .bad
  | _ => .bad
theorem ref_IsName_hok (N : Nat) (us : List (TV EE.T)) : (ref_IsName_h N us).ok fun u => ∀ ρ, ACalls Try.prog 12 (us.map (TV.to EE.toEnc ρ)) [] (fun out H => out = .ret (u.to EE.toEnc ρ) ∧ H = []) := by
  unfold ref_IsName_h
  split
  · split
    · rename_i h0
      intro z hz ρ; refine acalls_le ?_ (ref_IsName_ok _ hz ρ); exact ⟨argD_le h0 ρ, trivial⟩
    · trivial
  · trivial
/-! ### gleaner/gleanerlaw.LabelsNames -/
def law_LabelsNames_u (r : Bool) : TV EE.T := .a (.d .bool r)
def w3enc (r : Bool) : RL EE.T := .ret (law_LabelsNames_u r) []
def w3lv : Lvs := ⟨[], [], [], [], false, [], []⟩
def w3rs : List ResultVar := [.tmp 2]
def w3G (N : Nat) : Gam EE := ⟨[⟨10, law_labelsBegun_h N⟩, ⟨12, ref_IsName_h N⟩, ⟨11, labels_IsName_h N⟩], EQT, [], []⟩
theorem w3Gok (N : Nat) : GOk Try.prog TT EE (w3G N) := GOk.cons (law_labelsBegun_hok N) (GOk.cons (ref_IsName_hok N) (GOk.cons (labels_IsName_hok N) (GOk.nil EQT_ok)))
def w3kE0 (c : Code) : List It2 := [.c c]
def w3sE0 (x0 : List UInt8) : TS EE.T := ⟨14, [(0, .a (.d .str x0))], [], []⟩
def w3TE0 (c : Code) (N : Nat) (x0 : List UInt8) : Tree (Lf EE.T × Option Bool) :=
  .bnd (law_labelsBegun N) fun z1 =>
  .cond (z1)
  (
    .bnd (labels_IsName N ([97, 95, 49] : List UInt8)) fun z2 =>
    .cond (z2)
    (
      .bnd (labels_IsName N x0) fun z3 =>
      .bnd (ref_IsName N x0) fun z4 =>
      .leaf (.done (w3enc (z3 == z4)), some (z3 == z4)))
    (
      .leaf (.done (w3enc false), some false)))
  (
    .leaf (.done (w3enc false), some false))
theorem w3vE0 (N : Nat) (x0 : List UInt8) : evM TT EE (w3G N) w3lv w3rs 4000 true (w3kE0 (bodyOf 0 Try.f3)) (w3sE0 x0) = (w3TE0 (bodyOf 0 Try.f3) N x0).map1 := by kernel_rfl
theorem w3nE0 (N : Nat) (x0 : List UInt8) : law_LabelsNames N x0 = (w3TE0 (bodyOf 0 Try.f3) N x0).run := by kernel_rfl
theorem w3oE0 {N : Nat} {r : Bool} (x0 : List UInt8) (h : law_LabelsNames N x0 = some r) : Ends (Y := TT) EE (w3G N) w3lv w3rs (fun u => u = w3enc r) (w3kE0 (bodyOf 0 Try.f3)) (w3sE0 x0) :=
  tree_use (w3vE0 N x0) (w3nE0 N x0) h (show (w3TE0 (bodyOf 0 Try.f3) N x0).all _ from fun _ => ⟨fun _ => ⟨fun _ => fun _ => retp (enc := w3enc) rfl, retp (enc := w3enc) rfl⟩, retp (enc := w3enc) rfl⟩)
theorem law_LabelsNames_ok {N : Nat} (x0 : List UInt8) {r : Bool} (h : law_LabelsNames N x0 = some r) (ρ : Nat → Nat) : ACalls Try.prog 3 (([.a (.d .str x0)] : List (TV EE.T)).map (TV.to EE.toEnc ρ)) [] (fun out H => out = .ret ((law_LabelsNames_u r).to EE.toEnc ρ) ∧ H = []) :=
  (fn_ok (bodyOf 0 Try.f3) 14 mixed (w3Gok N) Try.func3 (by kernel_rfl) rfl rfl rfl rfl (w3oE0 x0 h) ρ).mono fun out H h => KPost.ret rfl h
def law_LabelsNames_h (N : Nat) : List (TV EE.T) → PV EE.T
  | [u0] => match argD .str u0 with
    | some x0 => .opt (law_LabelsNames N x0) law_LabelsNames_u
    | _ => .bad
  | _ => .bad
theorem law_LabelsNames_hok (N : Nat) (us : List (TV EE.T)) : (law_LabelsNames_h N us).ok fun u => ∀ ρ, ACalls Try.prog 3 (us.map (TV.to EE.toEnc ρ)) [] (fun out H => out = .ret (u.to EE.toEnc ρ) ∧ H = []) := by
  unfold law_LabelsNames_h
  split
  · split
    · rename_i h0
      intro z hz ρ; refine acalls_le ?_ (law_LabelsNames_ok _ hz ρ); exact ⟨argD_le h0 ρ, trivial⟩
    · trivial
  · trivial
/-! ### gleaner/gleanerref.EachLabel -/
def ref_EachLabel_u (r : Int) : TV EE.T := .a (.d (.int .i64) r)
def w29enc (r : Int) : RL EE.T := .ret (ref_EachLabel_u r) []
def w29lv : Lvs := ⟨[(8, ⟨[(0, false), (1, false), (5, false)], [], []⟩), (16, ⟨[(0, false), (6, false), (7, false)], [], []⟩)], [(4, ⟨[(0, false), (1, false), (5, false)], [], []⟩), (11, ⟨[(0, false), (6, false)], [], []⟩), (14, ⟨[(0, false), (6, false), (7, false)], [], []⟩)], [8], [], false, [], []⟩
def w29rs : List ResultVar := [.tmp 4]
def w29G (N : Nat) : Gam EE := ⟨[⟨12, ref_IsName_h N⟩], EQT, [], []⟩
theorem w29Gok (N : Nat) : GOk Try.prog TT EE (w29G N) := GOk.cons (ref_IsName_hok N) (GOk.nil EQT_ok)
def w29kR8 (c : Code) : List It2 := atR 8 c
def w29sR8 (x0 : List VLabel) (x1 : Bool) (x5 : Int) : TS EE.T := ⟨65, [(0, .a (.d (.sl (.nam 2)) x0)), (1, .a (.d .bool x1)), (5, .a (.d (.int .i64) x5))], [], []⟩
def w29kL14 (c : Code) : List It2 := atL 14 c
def w29sL14 (x0 : List VLabel) (x6 : Int) (x7 : Int) : TS EE.T := ⟨65, [(0, .a (.d (.sl (.nam 2)) x0)), (6, .a (.d (.int .i64) x6)), (7, .a (.d (.int .i64) x7))], [], []⟩
def w29kL11 (c : Code) : List It2 := atL 11 c
def w29sL11 (x0 : List VLabel) (x6 : Int) : TS EE.T := ⟨65, [(0, .a (.d (.sl (.nam 2)) x0)), (6, .a (.d (.int .i64) x6))], [], []⟩
def w29kL4 (c : Code) : List It2 := atL 4 c
def w29sL4 (x0 : List VLabel) (x1 : Bool) (x5 : Int) : TS EE.T := ⟨65, [(0, .a (.d (.sl (.nam 2)) x0)), (1, .a (.d .bool x1)), (5, .a (.d (.int .i64) x5))], [], []⟩
def w29kE0 (c : Code) : List It2 := [.c c]
def w29sE0 (x0 : List VLabel) (x1 : Bool) : TS EE.T := ⟨65, [(0, .a (.d (.sl (.nam 2)) x0)), (1, .a (.d .bool x1))], [], []⟩
def w29TR8 (c : Code) (N : Nat) (k4 : (List VLabel) → Bool → Int → Option Int) (n : Nat) (x0 : List VLabel) (x1 : Bool) (x5 : Int) : Tree (Lf EE.T × Option Int) :=
  .bnd (idxC x0 x5) fun z4 =>
  .cond (decide ((z4.Value.length : Int) > 100))
  (
    .leaf (.done (w29enc 2), some 2))
  (
    .leaf (.go (w29kL4 c) (w29sL4 x0 x1 (w64 (x5 + 1))), k4 x0 x1 (w64 (x5 + 1))))
theorem w29vR8 (N : Nat) (k4 : (List VLabel) → Bool → Int → Option Int) (n : Nat) (x0 : List VLabel) (x1 : Bool) (x5 : Int) : evM TT EE (w29G N) w29lv w29rs 4000 true (w29kR8 (bodyOf 0 Try.f29)) (w29sR8 x0 x1 x5) = (w29TR8 (bodyOf 0 Try.f29) N k4 n x0 x1 x5).map1 := by kernel_rfl
theorem w29nR8 (N : Nat) (k4 : (List VLabel) → Bool → Int → Option Int) (n : Nat) (x0 : List VLabel) (x1 : Bool) (x5 : Int) : ref_EachLabel_R8 N k4 n x0 x1 x5 = (w29TR8 (bodyOf 0 Try.f29) N k4 n x0 x1 x5).run := by kernel_rfl
theorem w29oR8 {N : Nat} {r : Int} {k4 : (List VLabel) → Bool → Int → Option Int} (hk4 : ∀ x0 x1 x5, k4 x0 x1 x5 = some r → Ends (Y := TT) EE (w29G N) w29lv w29rs (fun u => u = w29enc r) (w29kL4 (bodyOf 0 Try.f29)) (w29sL4 x0 x1 x5)) (n : Nat) (x0 : List VLabel) (x1 : Bool) (x5 : Int) (h : ref_EachLabel_R8 N k4 n x0 x1 x5 = some r) : Ends (Y := TT) EE (w29G N) w29lv w29rs (fun u => u = w29enc r) (w29kR8 (bodyOf 0 Try.f29)) (w29sR8 x0 x1 x5) :=
  tree_use (w29vR8 N k4 n x0 x1 x5) (w29nR8 N k4 n x0 x1 x5) h (show (w29TR8 (bodyOf 0 Try.f29) N k4 n x0 x1 x5).all _ from fun _ => ⟨retp (enc := w29enc) rfl, fun h => hk4 _ _ _ h⟩)
def w29TL14 (c : Code) (N : Nat) (k11 : (List VLabel) → Int → Option Int) (n : Nat) (x0 : List VLabel) (x6 : Int) (x7 : Int) : Tree (Lf EE.T × Option Int) :=
  .cond (decide (x7 < x6))
  (
    .bnd (idxC x0 x7) fun z5 =>
    .bnd (idxC x0 x6) fun z6 =>
    .cond (decide (z5.Name = z6.Name))
    (
      .leaf (.done (w29enc 6), some 6))
    (
      .leaf (.go (w29kL14 c) (w29sL14 x0 x6 (w64 (x7 + 1))), ref_EachLabel_L14 N k11 n x0 x6 (w64 (x7 + 1)))))
  (
    .leaf (.go (w29kL11 c) (w29sL11 x0 (w64 (x6 + 1))), k11 x0 (w64 (x6 + 1))))
theorem w29vL14 (N : Nat) (k11 : (List VLabel) → Int → Option Int) (n : Nat) (x0 : List VLabel) (x6 : Int) (x7 : Int) : evM TT EE (w29G N) w29lv w29rs 4000 true (w29kL14 (bodyOf 0 Try.f29)) (w29sL14 x0 x6 x7) = (w29TL14 (bodyOf 0 Try.f29) N k11 n x0 x6 x7).map1 := by kernel_rfl
theorem w29nL14 (N : Nat) (k11 : (List VLabel) → Int → Option Int) (n : Nat) (x0 : List VLabel) (x6 : Int) (x7 : Int) : ref_EachLabel_L14 N k11 (n + 1) x0 x6 x7 = (w29TL14 (bodyOf 0 Try.f29) N k11 n x0 x6 x7).run := by kernel_rfl
theorem w29oL14 {N : Nat} {r : Int} {k11 : (List VLabel) → Int → Option Int} (hk11 : ∀ x0 x6, k11 x0 x6 = some r → Ends (Y := TT) EE (w29G N) w29lv w29rs (fun u => u = w29enc r) (w29kL11 (bodyOf 0 Try.f29)) (w29sL11 x0 x6)) : ∀ (n : Nat) (x0 : List VLabel) (x6 : Int) (x7 : Int), ref_EachLabel_L14 N k11 n x0 x6 x7 = some r → Ends (Y := TT) EE (w29G N) w29lv w29rs (fun u => u = w29enc r) (w29kL14 (bodyOf 0 Try.f29)) (w29sL14 x0 x6 x7)
  | 0, _, _, _, h => by cases h
  | n + 1, x0, x6, x7, h => tree_use (w29vL14 N k11 n x0 x6 x7) (w29nL14 N k11 n x0 x6 x7) h (show (w29TL14 (bodyOf 0 Try.f29) N k11 n x0 x6 x7).all _ from ⟨fun _ => fun _ => ⟨retp (enc := w29enc) rfl, fun h => (w29oL14 hk11 n) _ _ _ h⟩, fun h => hk11 _ _ h⟩)
def w29TL11 (c : Code) (N : Nat) (n : Nat) (x0 : List VLabel) (x6 : Int) : Tree (Lf EE.T × Option Int) :=
  .cond (decide (x6 < (x0.length : Int)))
  (
    .leaf (.go (w29kL14 c) (w29sL14 x0 x6 0), ref_EachLabel_L14 N (ref_EachLabel_L11 N n) n x0 x6 0))
  (
    .leaf (.done (w29enc 0), some 0))
theorem w29vL11 (N : Nat) (n : Nat) (x0 : List VLabel) (x6 : Int) : evM TT EE (w29G N) w29lv w29rs 4000 true (w29kL11 (bodyOf 0 Try.f29)) (w29sL11 x0 x6) = (w29TL11 (bodyOf 0 Try.f29) N n x0 x6).map1 := by kernel_rfl
theorem w29nL11 (N : Nat) (n : Nat) (x0 : List VLabel) (x6 : Int) : ref_EachLabel_L11 N (n + 1) x0 x6 = (w29TL11 (bodyOf 0 Try.f29) N n x0 x6).run := by kernel_rfl
theorem w29oL11 {N : Nat} {r : Int} : ∀ (n : Nat) (x0 : List VLabel) (x6 : Int), ref_EachLabel_L11 N n x0 x6 = some r → Ends (Y := TT) EE (w29G N) w29lv w29rs (fun u => u = w29enc r) (w29kL11 (bodyOf 0 Try.f29)) (w29sL11 x0 x6)
  | 0, _, _, h => by cases h
  | n + 1, x0, x6, h => tree_use (w29vL11 N n x0 x6) (w29nL11 N n x0 x6) h (show (w29TL11 (bodyOf 0 Try.f29) N n x0 x6).all _ from ⟨fun h => w29oL14 (w29oL11 n) n _ _ _ h, retp (enc := w29enc) rfl⟩)
def w29TL4 (c : Code) (N : Nat) (n : Nat) (x0 : List VLabel) (x1 : Bool) (x5 : Int) : Tree (Lf EE.T × Option Int) :=
  .cond (decide (x5 < (x0.length : Int)))
  (
    .bnd (idxC x0 x5) fun z1 =>
    .bnd (ref_IsName N z1.Name) fun z2 =>
    .cond (!z2)
    (
      .leaf (.done (w29enc 1), some 1))
    (
      .bnd (idxC x0 x5) fun z3 =>
      .cond (decide (z3.Value = ([] : List UInt8)))
      (
        .cond (!x1)
        (
          .leaf (.done (w29enc 1), some 1))
        (
          .leaf (.go (w29kR8 c) (w29sR8 x0 x1 x5), ref_EachLabel_R8 N (ref_EachLabel_L4 N n) n x0 x1 x5)))
      (
        .leaf (.go (w29kR8 c) (w29sR8 x0 x1 x5), ref_EachLabel_R8 N (ref_EachLabel_L4 N n) n x0 x1 x5))))
  (
    .leaf (.go (w29kL11 c) (w29sL11 x0 0), ref_EachLabel_L11 N n x0 0))
theorem w29vL4 (N : Nat) (n : Nat) (x0 : List VLabel) (x1 : Bool) (x5 : Int) : evM TT EE (w29G N) w29lv w29rs 4000 true (w29kL4 (bodyOf 0 Try.f29)) (w29sL4 x0 x1 x5) = (w29TL4 (bodyOf 0 Try.f29) N n x0 x1 x5).map1 := by kernel_rfl
theorem w29nL4 (N : Nat) (n : Nat) (x0 : List VLabel) (x1 : Bool) (x5 : Int) : ref_EachLabel_L4 N (n + 1) x0 x1 x5 = (w29TL4 (bodyOf 0 Try.f29) N n x0 x1 x5).run := by kernel_rfl
theorem w29oL4 {N : Nat} {r : Int} : ∀ (n : Nat) (x0 : List VLabel) (x1 : Bool) (x5 : Int), ref_EachLabel_L4 N n x0 x1 x5 = some r → Ends (Y := TT) EE (w29G N) w29lv w29rs (fun u => u = w29enc r) (w29kL4 (bodyOf 0 Try.f29)) (w29sL4 x0 x1 x5)
  | 0, _, _, _, h => by cases h
  | n + 1, x0, x1, x5, h => tree_use (w29vL4 N n x0 x1 x5) (w29nL4 N n x0 x1 x5) h (show (w29TL4 (bodyOf 0 Try.f29) N n x0 x1 x5).all _ from ⟨fun _ => fun _ => ⟨retp (enc := w29enc) rfl, fun _ => ⟨⟨retp (enc := w29enc) rfl, fun h => w29oR8 (w29oL4 n) n _ _ _ h⟩, fun h => w29oR8 (w29oL4 n) n _ _ _ h⟩⟩, fun h => w29oL11 n _ _ h⟩)
def w29TE0 (c : Code) (N : Nat) (x0 : List VLabel) (x1 : Bool) : Tree (Lf EE.T × Option Int) :=
  .cond (decide ((x0.length : Int) > 20))
  (
    .leaf (.done (w29enc 2), some 2))
  (
    .leaf (.go (w29kL4 c) (w29sL4 x0 x1 0), ref_EachLabel_L4 N N x0 x1 0))
theorem w29vE0 (N : Nat) (x0 : List VLabel) (x1 : Bool) : evM TT EE (w29G N) w29lv w29rs 4000 true (w29kE0 (bodyOf 0 Try.f29)) (w29sE0 x0 x1) = (w29TE0 (bodyOf 0 Try.f29) N x0 x1).map1 := by kernel_rfl
theorem w29nE0 (N : Nat) (x0 : List VLabel) (x1 : Bool) : ref_EachLabel N x0 x1 = (w29TE0 (bodyOf 0 Try.f29) N x0 x1).run := by kernel_rfl
theorem w29oE0 {N : Nat} {r : Int} (x0 : List VLabel) (x1 : Bool) (h : ref_EachLabel N x0 x1 = some r) : Ends (Y := TT) EE (w29G N) w29lv w29rs (fun u => u = w29enc r) (w29kE0 (bodyOf 0 Try.f29)) (w29sE0 x0 x1) :=
  tree_use (w29vE0 N x0 x1) (w29nE0 N x0 x1) h (show (w29TE0 (bodyOf 0 Try.f29) N x0 x1).all _ from ⟨retp (enc := w29enc) rfl, fun h => w29oL4 N _ _ _ h⟩)
theorem ref_EachLabel_ok {N : Nat} (x0 : List VLabel) (x1 : Bool) {r : Int} (h : ref_EachLabel N x0 x1 = some r) (ρ : Nat → Nat) : ACalls Try.prog 29 (([.a (.d (.sl (.nam 2)) x0), .a (.d .bool x1)] : List (TV EE.T)).map (TV.to EE.toEnc ρ)) [] (fun out H => out = .ret ((ref_EachLabel_u r).to EE.toEnc ρ) ∧ H = []) :=
  (fn_ok (bodyOf 0 Try.f29) 65 mixed (w29Gok N) Try.func29 (by kernel_rfl) rfl rfl rfl rfl (w29oE0 x0 x1 h) ρ).mono fun out H h => KPost.ret rfl h
def ref_EachLabel_h (N : Nat) : List (TV EE.T) → PV EE.T
  | [u0, u1] => match argD (.sl (.nam 2)) u0, argD .bool u1 with
    | some x0, some x1 => .opt (ref_EachLabel N x0 x1) ref_EachLabel_u
    | _, _ => .bad
  | _ => .bad
theorem ref_EachLabel_hok (N : Nat) (us : List (TV EE.T)) : (ref_EachLabel_h N us).ok fun u => ∀ ρ, ACalls Try.prog 29 (us.map (TV.to EE.toEnc ρ)) [] (fun out H => out = .ret (u.to EE.toEnc ρ) ∧ H = []) := by
  unfold ref_EachLabel_h
  split
  · split
    · rename_i h0 h1
      intro z hz ρ; refine acalls_le ?_ (ref_EachLabel_ok _ _ hz ρ); exact ⟨argD_le h0 ρ, argD_le h1 ρ, trivial⟩
    · trivial
  · trivial
/-! ### gleaner/gleanerref.CheckLabels -/
def ref_CheckLabels_u (r : Int) : TV EE.T := .a (.d (.int .i64) r)
def w14enc (r : Int) : RL EE.T := .ret (ref_CheckLabels_u r) []
def w14lv : Lvs := ⟨[(4, ⟨[(0, false), (3, false), (4, false)], [], []⟩), (5, ⟨[(0, false), (3, false), (4, false)], [], []⟩)], [(3, ⟨[(0, false), (3, false), (4, false)], [], []⟩)], [4], [], false, [], []⟩
def w14rs : List ResultVar := [.tmp 2]
def w14G (N : Nat) : Gam EE := ⟨[⟨29, ref_EachLabel_h N⟩], EQT, [], []⟩
theorem w14Gok (N : Nat) : GOk Try.prog TT EE (w14G N) := GOk.cons (ref_EachLabel_hok N) (GOk.nil EQT_ok)
def w14kR4 (c : Code) : List It2 := atR 4 c
def w14sR4 (x0 : List VLabel) (x3 : Int) (x4 : Int) : TS EE.T := ⟨30, [(0, .a (.d (.sl (.nam 2)) x0)), (3, .a (.d (.int .i64) x3)), (4, .a (.d (.int .i64) x4))], [], []⟩
def w14kL3 (c : Code) : List It2 := atL 3 c
def w14sL3 (x0 : List VLabel) (x3 : Int) (x4 : Int) : TS EE.T := ⟨30, [(0, .a (.d (.sl (.nam 2)) x0)), (3, .a (.d (.int .i64) x3)), (4, .a (.d (.int .i64) x4))], [], []⟩
def w14kE0 (c : Code) : List It2 := [.c c]
def w14sE0 (x0 : List VLabel) : TS EE.T := ⟨30, [(0, .a (.d (.sl (.nam 2)) x0))], [], []⟩
def w14TR4 (c : Code) (N : Nat) (k3 : (List VLabel) → Int → Int → Option Int) (n : Nat) (x0 : List VLabel) (x3 : Int) (x4 : Int) : Tree (Lf EE.T × Option Int) :=
  .leaf (.go (w14kL3 c) (w14sL3 x0 x3 (w64 (x4 + 1))), k3 x0 x3 (w64 (x4 + 1)))
theorem w14vR4 (N : Nat) (k3 : (List VLabel) → Int → Int → Option Int) (n : Nat) (x0 : List VLabel) (x3 : Int) (x4 : Int) : evM TT EE (w14G N) w14lv w14rs 4000 true (w14kR4 (bodyOf 0 Try.f14)) (w14sR4 x0 x3 x4) = (w14TR4 (bodyOf 0 Try.f14) N k3 n x0 x3 x4).map1 := by kernel_rfl
theorem w14nR4 (N : Nat) (k3 : (List VLabel) → Int → Int → Option Int) (n : Nat) (x0 : List VLabel) (x3 : Int) (x4 : Int) : ref_CheckLabels_R4 N k3 n x0 x3 x4 = (w14TR4 (bodyOf 0 Try.f14) N k3 n x0 x3 x4).run := by kernel_rfl
theorem w14oR4 {N : Nat} {r : Int} {k3 : (List VLabel) → Int → Int → Option Int} (hk3 : ∀ x0 x3 x4, k3 x0 x3 x4 = some r → Ends (Y := TT) EE (w14G N) w14lv w14rs (fun u => u = w14enc r) (w14kL3 (bodyOf 0 Try.f14)) (w14sL3 x0 x3 x4)) (n : Nat) (x0 : List VLabel) (x3 : Int) (x4 : Int) (h : ref_CheckLabels_R4 N k3 n x0 x3 x4 = some r) : Ends (Y := TT) EE (w14G N) w14lv w14rs (fun u => u = w14enc r) (w14kR4 (bodyOf 0 Try.f14)) (w14sR4 x0 x3 x4) :=
  tree_use (w14vR4 N k3 n x0 x3 x4) (w14nR4 N k3 n x0 x3 x4) h (show (w14TR4 (bodyOf 0 Try.f14) N k3 n x0 x3 x4).all _ from fun h => hk3 _ _ _ h)
def w14TL3 (c : Code) (N : Nat) (n : Nat) (x0 : List VLabel) (x3 : Int) (x4 : Int) : Tree (Lf EE.T × Option Int) :=
  .cond (decide (x4 < (x0.length : Int)))
  (
    .cond (x3 == 0)
    (
      .bnd (idxC x0 x4) fun z2 =>
      .bnd (idxC x0 (w64 (x4 - 1))) fun z3 =>
      .cond (Op.bytesLess z2.Name z3.Name)
      (
        .leaf (.go (w14kR4 c) (w14sR4 x0 4 x4), ref_CheckLabels_R4 N (ref_CheckLabels_L3 N n) n x0 4 x4))
      (
        .leaf (.go (w14kR4 c) (w14sR4 x0 x3 x4), ref_CheckLabels_R4 N (ref_CheckLabels_L3 N n) n x0 x3 x4)))
    (
      .leaf (.done (w14enc x3), some x3)))
  (
    .leaf (.done (w14enc x3), some x3))
theorem w14vL3 (N : Nat) (n : Nat) (x0 : List VLabel) (x3 : Int) (x4 : Int) : evM TT EE (w14G N) w14lv w14rs 4000 true (w14kL3 (bodyOf 0 Try.f14)) (w14sL3 x0 x3 x4) = (w14TL3 (bodyOf 0 Try.f14) N n x0 x3 x4).map1 := by kernel_rfl
theorem w14nL3 (N : Nat) (n : Nat) (x0 : List VLabel) (x3 : Int) (x4 : Int) : ref_CheckLabels_L3 N (n + 1) x0 x3 x4 = (w14TL3 (bodyOf 0 Try.f14) N n x0 x3 x4).run := by kernel_rfl
theorem w14oL3 {N : Nat} {r : Int} : ∀ (n : Nat) (x0 : List VLabel) (x3 : Int) (x4 : Int), ref_CheckLabels_L3 N n x0 x3 x4 = some r → Ends (Y := TT) EE (w14G N) w14lv w14rs (fun u => u = w14enc r) (w14kL3 (bodyOf 0 Try.f14)) (w14sL3 x0 x3 x4)
  | 0, _, _, _, h => by cases h
  | n + 1, x0, x3, x4, h => tree_use (w14vL3 N n x0 x3 x4) (w14nL3 N n x0 x3 x4) h (show (w14TL3 (bodyOf 0 Try.f14) N n x0 x3 x4).all _ from ⟨⟨fun _ => fun _ => ⟨fun h => w14oR4 (w14oL3 n) n _ _ _ h, fun h => w14oR4 (w14oL3 n) n _ _ _ h⟩, retp (enc := w14enc) rfl⟩, retp (enc := w14enc) rfl⟩)
def w14TE0 (c : Code) (N : Nat) (x0 : List VLabel) : Tree (Lf EE.T × Option Int) :=
  .bnd (ref_EachLabel N x0 false) fun z1 =>
  .leaf (.go (w14kL3 c) (w14sL3 x0 z1 1), ref_CheckLabels_L3 N N x0 z1 1)
theorem w14vE0 (N : Nat) (x0 : List VLabel) : evM TT EE (w14G N) w14lv w14rs 4000 true (w14kE0 (bodyOf 0 Try.f14)) (w14sE0 x0) = (w14TE0 (bodyOf 0 Try.f14) N x0).map1 := by kernel_rfl
theorem w14nE0 (N : Nat) (x0 : List VLabel) : ref_CheckLabels N x0 = (w14TE0 (bodyOf 0 Try.f14) N x0).run := by kernel_rfl
theorem w14oE0 {N : Nat} {r : Int} (x0 : List VLabel) (h : ref_CheckLabels N x0 = some r) : Ends (Y := TT) EE (w14G N) w14lv w14rs (fun u => u = w14enc r) (w14kE0 (bodyOf 0 Try.f14)) (w14sE0 x0) :=
  tree_use (w14vE0 N x0) (w14nE0 N x0) h (show (w14TE0 (bodyOf 0 Try.f14) N x0).all _ from fun _ => fun h => w14oL3 N _ _ _ h)
theorem ref_CheckLabels_ok {N : Nat} (x0 : List VLabel) {r : Int} (h : ref_CheckLabels N x0 = some r) (ρ : Nat → Nat) : ACalls Try.prog 14 (([.a (.d (.sl (.nam 2)) x0)] : List (TV EE.T)).map (TV.to EE.toEnc ρ)) [] (fun out H => out = .ret ((ref_CheckLabels_u r).to EE.toEnc ρ) ∧ H = []) :=
  (fn_ok (bodyOf 0 Try.f14) 30 mixed (w14Gok N) Try.func14 (by kernel_rfl) rfl rfl rfl rfl (w14oE0 x0 h) ρ).mono fun out H h => KPost.ret rfl h
def ref_CheckLabels_h (N : Nat) : List (TV EE.T) → PV EE.T
  | [u0] => match argD (.sl (.nam 2)) u0 with
    | some x0 => .opt (ref_CheckLabels N x0) ref_CheckLabels_u
    | _ => .bad
  | _ => .bad
theorem ref_CheckLabels_hok (N : Nat) (us : List (TV EE.T)) : (ref_CheckLabels_h N us).ok fun u => ∀ ρ, ACalls Try.prog 14 (us.map (TV.to EE.toEnc ρ)) [] (fun out H => out = .ret (u.to EE.toEnc ρ) ∧ H = []) := by
  unfold ref_CheckLabels_h
  split
  · split
    · rename_i h0
      intro z hz ρ; refine acalls_le ?_ (ref_CheckLabels_ok _ hz ρ); exact ⟨argD_le h0 ρ, trivial⟩
    · trivial
  · trivial
/-! ### gleaner/gleanerlaw.LabelsChecks -/
def law_LabelsChecks_u (r : Bool) : TV EE.T := .a (.d .bool r)
def w4enc (r : Bool) : RL EE.T := .ret (law_LabelsChecks_u r) []
def w4lv : Lvs := ⟨[], [], [], [], false, [], []⟩
def w4rs : List ResultVar := [.tmp 2]
def w4G (N : Nat) : Gam EE := ⟨[⟨10, law_labelsBegun_h N⟩, ⟨14, ref_CheckLabels_h N⟩, ⟨13, labels_Check_h N⟩], EQT, [], []⟩
theorem w4Gok (N : Nat) : GOk Try.prog TT EE (w4G N) := GOk.cons (law_labelsBegun_hok N) (GOk.cons (ref_CheckLabels_hok N) (GOk.cons (labels_Check_hok N) (GOk.nil EQT_ok)))
def w4kE0 (c : Code) : List It2 := [.c c]
def w4sE0 (x0 : List VLabel) : TS EE.T := ⟨11, [(0, .a (.d (.sl (.nam 2)) x0))], [], []⟩
def w4TE0 (c : Code) (N : Nat) (x0 : List VLabel) : Tree (Lf EE.T × Option Bool) :=
  .bnd (law_labelsBegun N) fun z1 =>
  .cond (z1)
  (
    .bnd (labels_Check N x0) fun z2 =>
    .bnd (ref_CheckLabels N x0) fun z3 =>
    .leaf (.done (w4enc (z2 == z3)), some (z2 == z3)))
  (
    .leaf (.done (w4enc false), some false))
theorem w4vE0 (N : Nat) (x0 : List VLabel) : evM TT EE (w4G N) w4lv w4rs 4000 true (w4kE0 (bodyOf 0 Try.f4)) (w4sE0 x0) = (w4TE0 (bodyOf 0 Try.f4) N x0).map1 := by kernel_rfl
theorem w4nE0 (N : Nat) (x0 : List VLabel) : law_LabelsChecks N x0 = (w4TE0 (bodyOf 0 Try.f4) N x0).run := by kernel_rfl
theorem w4oE0 {N : Nat} {r : Bool} (x0 : List VLabel) (h : law_LabelsChecks N x0 = some r) : Ends (Y := TT) EE (w4G N) w4lv w4rs (fun u => u = w4enc r) (w4kE0 (bodyOf 0 Try.f4)) (w4sE0 x0) :=
  tree_use (w4vE0 N x0) (w4nE0 N x0) h (show (w4TE0 (bodyOf 0 Try.f4) N x0).all _ from fun _ => ⟨fun _ => fun _ => retp (enc := w4enc) rfl, retp (enc := w4enc) rfl⟩)
theorem law_LabelsChecks_ok {N : Nat} (x0 : List VLabel) {r : Bool} (h : law_LabelsChecks N x0 = some r) (ρ : Nat → Nat) : ACalls Try.prog 4 (([.a (.d (.sl (.nam 2)) x0)] : List (TV EE.T)).map (TV.to EE.toEnc ρ)) [] (fun out H => out = .ret ((law_LabelsChecks_u r).to EE.toEnc ρ) ∧ H = []) :=
  (fn_ok (bodyOf 0 Try.f4) 11 mixed (w4Gok N) Try.func4 (by kernel_rfl) rfl rfl rfl rfl (w4oE0 x0 h) ρ).mono fun out H h => KPost.ret rfl h
def law_LabelsChecks_h (N : Nat) : List (TV EE.T) → PV EE.T
  | [u0] => match argD (.sl (.nam 2)) u0 with
    | some x0 => .opt (law_LabelsChecks N x0) law_LabelsChecks_u
    | _ => .bad
  | _ => .bad
theorem law_LabelsChecks_hok (N : Nat) (us : List (TV EE.T)) : (law_LabelsChecks_h N us).ok fun u => ∀ ρ, ACalls Try.prog 4 (us.map (TV.to EE.toEnc ρ)) [] (fun out H => out = .ret (u.to EE.toEnc ρ) ∧ H = []) := by
  unfold law_LabelsChecks_h
  split
  · split
    · rename_i h0
      intro z hz ρ; refine acalls_le ?_ (law_LabelsChecks_ok _ hz ρ); exact ⟨argD_le h0 ρ, trivial⟩
    · trivial
  · trivial
/-! ### gleaner/gleanerref.Xor -/
def ref_Xor_u (r : Int) : TV EE.T := .a (.d (.int .i64) r)
def w37enc (r : Int) : RL EE.T := .ret (ref_Xor_u r) []
def w37lv : Lvs := ⟨[(3, ⟨[(0, false), (1, false), (5, false), (6, false)], [], []⟩), (5, ⟨[(0, false), (1, false), (5, false), (6, false)], [], []⟩)], [(2, ⟨[(0, false), (1, false), (5, false), (6, false)], [], []⟩)], [3, 5], [], false, [], []⟩
def w37rs : List ResultVar := [.tmp 4]
def w37G (N : Nat) : Gam EE := ⟨[], EQT, [], []⟩
theorem w37Gok (N : Nat) : GOk Try.prog TT EE (w37G N) := GOk.nil EQT_ok
def w37kR5 (c : Code) : List It2 := atR 5 c
def w37sR5 (x0 : Int) (x1 : Int) (x5 : Int) (x6 : Int) : TS EE.T := ⟨28, [(0, .a (.d (.int .i64) x0)), (1, .a (.d (.int .i64) x1)), (5, .a (.d (.int .i64) x5)), (6, .a (.d (.int .i64) x6))], [], []⟩
def w37kR3 (c : Code) : List It2 := atR 3 c
def w37sR3 (x0 : Int) (x1 : Int) (x5 : Int) (x6 : Int) : TS EE.T := ⟨28, [(0, .a (.d (.int .i64) x0)), (1, .a (.d (.int .i64) x1)), (5, .a (.d (.int .i64) x5)), (6, .a (.d (.int .i64) x6))], [], []⟩
def w37kL2 (c : Code) : List It2 := atL 2 c
def w37sL2 (x0 : Int) (x1 : Int) (x5 : Int) (x6 : Int) : TS EE.T := ⟨28, [(0, .a (.d (.int .i64) x0)), (1, .a (.d (.int .i64) x1)), (5, .a (.d (.int .i64) x5)), (6, .a (.d (.int .i64) x6))], [], []⟩
def w37kE0 (c : Code) : List It2 := [.c c]
def w37sE0 (x0 : Int) (x1 : Int) : TS EE.T := ⟨28, [(0, .a (.d (.int .i64) x0)), (1, .a (.d (.int .i64) x1))], [], []⟩
def w37TR5 (c : Code) (N : Nat) (k2 : Int → Int → Int → Int → Option Int) (n : Nat) (x0 : Int) (x1 : Int) (x5 : Int) (x6 : Int) : Tree (Lf EE.T × Option Int) :=
  .bnd (quoC .i64 x0 2) fun z3 =>
  .bnd (quoC .i64 x1 2) fun z4 =>
  .leaf (.go (w37kL2 c) (w37sL2 z3 z4 x5 (w64 (2 * x6))), k2 z3 z4 x5 (w64 (2 * x6)))
theorem w37vR5 (N : Nat) (k2 : Int → Int → Int → Int → Option Int) (n : Nat) (x0 : Int) (x1 : Int) (x5 : Int) (x6 : Int) : evM TT EE (w37G N) w37lv w37rs 4000 true (w37kR5 (bodyOf 0 Try.f37)) (w37sR5 x0 x1 x5 x6) = (w37TR5 (bodyOf 0 Try.f37) N k2 n x0 x1 x5 x6).map1 := by kernel_rfl
theorem w37nR5 (N : Nat) (k2 : Int → Int → Int → Int → Option Int) (n : Nat) (x0 : Int) (x1 : Int) (x5 : Int) (x6 : Int) : ref_Xor_R5 N k2 n x0 x1 x5 x6 = (w37TR5 (bodyOf 0 Try.f37) N k2 n x0 x1 x5 x6).run := by kernel_rfl
theorem w37oR5 {N : Nat} {r : Int} {k2 : Int → Int → Int → Int → Option Int} (hk2 : ∀ x0 x1 x5 x6, k2 x0 x1 x5 x6 = some r → Ends (Y := TT) EE (w37G N) w37lv w37rs (fun u => u = w37enc r) (w37kL2 (bodyOf 0 Try.f37)) (w37sL2 x0 x1 x5 x6)) (n : Nat) (x0 : Int) (x1 : Int) (x5 : Int) (x6 : Int) (h : ref_Xor_R5 N k2 n x0 x1 x5 x6 = some r) : Ends (Y := TT) EE (w37G N) w37lv w37rs (fun u => u = w37enc r) (w37kR5 (bodyOf 0 Try.f37)) (w37sR5 x0 x1 x5 x6) :=
  tree_use (w37vR5 N k2 n x0 x1 x5 x6) (w37nR5 N k2 n x0 x1 x5 x6) h (show (w37TR5 (bodyOf 0 Try.f37) N k2 n x0 x1 x5 x6).all _ from fun _ => fun _ => fun h => hk2 _ _ _ _ h)
def w37TR3 (c : Code) (N : Nat) (k2 : Int → Int → Int → Int → Option Int) (n : Nat) (x0 : Int) (x1 : Int) (x5 : Int) (x6 : Int) : Tree (Lf EE.T × Option Int) :=
  .bnd (remC x0 2) fun z1 =>
  .bnd (remC x1 2) fun z2 =>
  .cond (z1 != z2)
  (
    .leaf (.go (w37kR5 c) (w37sR5 x0 x1 (w64 (x5 + x6)) x6), ref_Xor_R5 N k2 n x0 x1 (w64 (x5 + x6)) x6))
  (
    .leaf (.go (w37kR5 c) (w37sR5 x0 x1 x5 x6), ref_Xor_R5 N k2 n x0 x1 x5 x6))
theorem w37vR3 (N : Nat) (k2 : Int → Int → Int → Int → Option Int) (n : Nat) (x0 : Int) (x1 : Int) (x5 : Int) (x6 : Int) : evM TT EE (w37G N) w37lv w37rs 4000 true (w37kR3 (bodyOf 0 Try.f37)) (w37sR3 x0 x1 x5 x6) = (w37TR3 (bodyOf 0 Try.f37) N k2 n x0 x1 x5 x6).map1 := by kernel_rfl
theorem w37nR3 (N : Nat) (k2 : Int → Int → Int → Int → Option Int) (n : Nat) (x0 : Int) (x1 : Int) (x5 : Int) (x6 : Int) : ref_Xor_R3 N k2 n x0 x1 x5 x6 = (w37TR3 (bodyOf 0 Try.f37) N k2 n x0 x1 x5 x6).run := by kernel_rfl
theorem w37oR3 {N : Nat} {r : Int} {k2 : Int → Int → Int → Int → Option Int} (hk2 : ∀ x0 x1 x5 x6, k2 x0 x1 x5 x6 = some r → Ends (Y := TT) EE (w37G N) w37lv w37rs (fun u => u = w37enc r) (w37kL2 (bodyOf 0 Try.f37)) (w37sL2 x0 x1 x5 x6)) (n : Nat) (x0 : Int) (x1 : Int) (x5 : Int) (x6 : Int) (h : ref_Xor_R3 N k2 n x0 x1 x5 x6 = some r) : Ends (Y := TT) EE (w37G N) w37lv w37rs (fun u => u = w37enc r) (w37kR3 (bodyOf 0 Try.f37)) (w37sR3 x0 x1 x5 x6) :=
  tree_use (w37vR3 N k2 n x0 x1 x5 x6) (w37nR3 N k2 n x0 x1 x5 x6) h (show (w37TR3 (bodyOf 0 Try.f37) N k2 n x0 x1 x5 x6).all _ from fun _ => fun _ => ⟨fun h => w37oR5 hk2 n _ _ _ _ h, fun h => w37oR5 hk2 n _ _ _ _ h⟩)
def w37TL2 (c : Code) (N : Nat) (n : Nat) (x0 : Int) (x1 : Int) (x5 : Int) (x6 : Int) : Tree (Lf EE.T × Option Int) :=
  .cond (decide (x0 > 0))
  (
    .leaf (.go (w37kR3 c) (w37sR3 x0 x1 x5 x6), ref_Xor_R3 N (ref_Xor_L2 N n) n x0 x1 x5 x6))
  (
    .cond (decide (x1 > 0))
    (
      .leaf (.go (w37kR3 c) (w37sR3 x0 x1 x5 x6), ref_Xor_R3 N (ref_Xor_L2 N n) n x0 x1 x5 x6))
    (
      .leaf (.done (w37enc x5), some x5)))
theorem w37vL2 (N : Nat) (n : Nat) (x0 : Int) (x1 : Int) (x5 : Int) (x6 : Int) : evM TT EE (w37G N) w37lv w37rs 4000 true (w37kL2 (bodyOf 0 Try.f37)) (w37sL2 x0 x1 x5 x6) = (w37TL2 (bodyOf 0 Try.f37) N n x0 x1 x5 x6).map1 := by kernel_rfl
theorem w37nL2 (N : Nat) (n : Nat) (x0 : Int) (x1 : Int) (x5 : Int) (x6 : Int) : ref_Xor_L2 N (n + 1) x0 x1 x5 x6 = (w37TL2 (bodyOf 0 Try.f37) N n x0 x1 x5 x6).run := by kernel_rfl
theorem w37oL2 {N : Nat} {r : Int} : ∀ (n : Nat) (x0 : Int) (x1 : Int) (x5 : Int) (x6 : Int), ref_Xor_L2 N n x0 x1 x5 x6 = some r → Ends (Y := TT) EE (w37G N) w37lv w37rs (fun u => u = w37enc r) (w37kL2 (bodyOf 0 Try.f37)) (w37sL2 x0 x1 x5 x6)
  | 0, _, _, _, _, h => by cases h
  | n + 1, x0, x1, x5, x6, h => tree_use (w37vL2 N n x0 x1 x5 x6) (w37nL2 N n x0 x1 x5 x6) h (show (w37TL2 (bodyOf 0 Try.f37) N n x0 x1 x5 x6).all _ from ⟨fun h => w37oR3 (w37oL2 n) n _ _ _ _ h, ⟨fun h => w37oR3 (w37oL2 n) n _ _ _ _ h, retp (enc := w37enc) rfl⟩⟩)
def w37TE0 (c : Code) (N : Nat) (x0 : Int) (x1 : Int) : Tree (Lf EE.T × Option Int) :=
  .leaf (.go (w37kL2 c) (w37sL2 x0 x1 0 1), ref_Xor_L2 N N x0 x1 0 1)
theorem w37vE0 (N : Nat) (x0 : Int) (x1 : Int) : evM TT EE (w37G N) w37lv w37rs 4000 true (w37kE0 (bodyOf 0 Try.f37)) (w37sE0 x0 x1) = (w37TE0 (bodyOf 0 Try.f37) N x0 x1).map1 := by kernel_rfl
theorem w37nE0 (N : Nat) (x0 : Int) (x1 : Int) : ref_Xor N x0 x1 = (w37TE0 (bodyOf 0 Try.f37) N x0 x1).run := by kernel_rfl
theorem w37oE0 {N : Nat} {r : Int} (x0 : Int) (x1 : Int) (h : ref_Xor N x0 x1 = some r) : Ends (Y := TT) EE (w37G N) w37lv w37rs (fun u => u = w37enc r) (w37kE0 (bodyOf 0 Try.f37)) (w37sE0 x0 x1) :=
  tree_use (w37vE0 N x0 x1) (w37nE0 N x0 x1) h (show (w37TE0 (bodyOf 0 Try.f37) N x0 x1).all _ from fun h => w37oL2 N _ _ _ _ h)
theorem ref_Xor_ok {N : Nat} (x0 : Int) (x1 : Int) {r : Int} (h : ref_Xor N x0 x1 = some r) (ρ : Nat → Nat) : ACalls Try.prog 37 (([.a (.d (.int .i64) x0), .a (.d (.int .i64) x1)] : List (TV EE.T)).map (TV.to EE.toEnc ρ)) [] (fun out H => out = .ret ((ref_Xor_u r).to EE.toEnc ρ) ∧ H = []) :=
  (fn_ok (bodyOf 0 Try.f37) 28 mixed (w37Gok N) Try.func37 (by kernel_rfl) rfl rfl rfl rfl (w37oE0 x0 x1 h) ρ).mono fun out H h => KPost.ret rfl h
def ref_Xor_h (N : Nat) : List (TV EE.T) → PV EE.T
  | [u0, u1] => match argD (.int .i64) u0, argD (.int .i64) u1 with
    | some x0, some x1 => .opt (ref_Xor N x0 x1) ref_Xor_u
    | _, _ => .bad
  | _ => .bad
theorem ref_Xor_hok (N : Nat) (us : List (TV EE.T)) : (ref_Xor_h N us).ok fun u => ∀ ρ, ACalls Try.prog 37 (us.map (TV.to EE.toEnc ρ)) [] (fun out H => out = .ret (u.to EE.toEnc ρ) ∧ H = []) := by
  unfold ref_Xor_h
  split
  · split
    · rename_i h0 h1
      intro z hz ρ; refine acalls_le ?_ (ref_Xor_ok _ _ hz ρ); exact ⟨argD_le h0 ρ, argD_le h1 ρ, trivial⟩
    · trivial
  · trivial
/-! ### gleaner/gleanerref.SumOf$1 -/
def ref_SumOf_1_i0_u (r : List Int) : TV EE.T := .tu []
def w36i0hh (i0 : Nat) (i1 : Nat) (r : List Int) : List (Nat × TB EE.T) := [(i0, .cs [.bsl i1 0 4 4]), (i1, .row (.int .i64) r)]
def w36i0enc (r : List Int) : RL EE.T := .ret (ref_SumOf_1_i0_u r) (w36i0hh 100000 100001 r)
def w36i0lv : Lvs := ⟨[(0, ⟨[(0, false), (1, false)], [], [(100000, (none, [])), (100001, (none, []))]⟩), (1, ⟨[(1, false)], [], [(100000, (none, [])), (100001, (none, []))]⟩), (6, ⟨[(1, false), (3, false), (4, false), (5, false)], [], [(100000, (none, [])), (100001, (none, []))]⟩)], [(4, ⟨[(1, false), (3, false), (4, false), (5, false)], [], [(100000, (none, [])), (100001, (none, []))]⟩)], [], [], false, [(100000, (none, [])), (100001, (none, []))], [100000, 100001]⟩
def w36i0rs : List ResultVar := []
def w36i0G (N : Nat) : Gam EE := ⟨[⟨37, ref_Xor_h N⟩], EQT, [], []⟩
theorem w36i0Gok (N : Nat) : GOk Try.prog TT EE (w36i0G N) := GOk.cons (ref_Xor_hok N) (GOk.nil EQT_ok)
def w36i0kL4 (c : Code) : List It2 := atL 4 c
def w36i0sL4 (x3 : List Int) (x4 : Int) (x5 : Int) (b100001 : List Int) : TS EE.T := ⟨59, [(1, .a (.box 100000 0)), (3, .a (.d (.sl (.int .i64)) x3)), (4, .a (.d (.int .i64) x4)), (5, .a (.d (.int .i64) x5))], [(100000, .cs [.bsl 100001 0 4 4]), (100001, .row (.int .i64) b100001)], []⟩
def w36i0kE0 (c : Code) : List It2 := [.c c]
def w36i0sE0 (x0 : Int) (y1 : List Int) : TS EE.T := ⟨59, [(0, .a (.d (.int .i64) x0)), (1, .a (.box 100000 0))], [(100000, .cs [.bsl 100001 0 4 4]), (100001, .row (.int .i64) y1)], []⟩
def w36i0TL4 (c : Code) (N : Nat) (n : Nat) (x3 : List Int) (x4 : Int) (x5 : Int) (b100001 : List Int) : Tree (Lf EE.T × Option (List Int)) :=
  .cond (decide (x5 < 4))
  (
    .bnd (idxN 4 x5) fun z19 =>
    .bnd (b100001[0 + z19]?) fun z20 =>
    .bnd (idxC x3 x5) fun z21 =>
    .bnd (remC (w64 (x4 + (w64 ((w64 (z20 * 435)) + z21)))) 65536) fun z22 =>
    .bnd (quoC .i64 (w64 (x4 + (w64 ((w64 (z20 * 435)) + z21)))) 65536) fun z23 =>
    .bnd (idxN 4 x5) fun z24 =>
    .bnd (setA b100001 (0 + z24) z22) fun z25 =>
    .leaf (.go (w36i0kL4 c) (w36i0sL4 x3 z23 (w64 (x5 + 1)) z25), ref_SumOf_1_i0_L4 N n x3 z23 (w64 (x5 + 1)) z25))
  (
    .leaf (.done (w36i0enc b100001), some b100001))
theorem w36i0vL4 (N : Nat) (n : Nat) (x3 : List Int) (x4 : Int) (x5 : Int) (b100001 : List Int) : evM TT EE (w36i0G N) w36i0lv w36i0rs 4000 true (w36i0kL4 (bodyOf 0 Try.f36)) (w36i0sL4 x3 x4 x5 b100001) = (w36i0TL4 (bodyOf 0 Try.f36) N n x3 x4 x5 b100001).map1 := by kernel_rfl
theorem w36i0nL4 (N : Nat) (n : Nat) (x3 : List Int) (x4 : Int) (x5 : Int) (b100001 : List Int) : ref_SumOf_1_i0_L4 N (n + 1) x3 x4 x5 b100001 = (w36i0TL4 (bodyOf 0 Try.f36) N n x3 x4 x5 b100001).run := by kernel_rfl
theorem w36i0oL4 {N : Nat} {r : List Int} : ∀ (n : Nat) (x3 : List Int) (x4 : Int) (x5 : Int) (b100001 : List Int), ref_SumOf_1_i0_L4 N n x3 x4 x5 b100001 = some r → Ends (Y := TT) EE (w36i0G N) w36i0lv w36i0rs (fun u => u = w36i0enc r) (w36i0kL4 (bodyOf 0 Try.f36)) (w36i0sL4 x3 x4 x5 b100001)
  | 0, _, _, _, _, h => by cases h
  | n + 1, x3, x4, x5, b100001, h => tree_use (w36i0vL4 N n x3 x4 x5 b100001) (w36i0nL4 N n x3 x4 x5 b100001) h (show (w36i0TL4 (bodyOf 0 Try.f36) N n x3 x4 x5 b100001).all _ from ⟨fun _ => fun _ => fun _ => fun _ => fun _ => fun _ => fun _ => fun h => (w36i0oL4 n) _ _ _ _ h, retp (enc := w36i0enc) rfl⟩)
def w36i0TE0 (c : Code) (N : Nat) (x0 : Int) (y1 : List Int) : Tree (Lf EE.T × Option (List Int)) :=
  .bnd (idxN 4 0) fun z1 =>
  .bnd (y1[0 + z1]?) fun z2 =>
  .bnd (quoC .i64 z2 256) fun z3 =>
  .bnd (idxN 4 0) fun z4 =>
  .bnd (y1[0 + z4]?) fun z5 =>
  .bnd (remC z5 256) fun z6 =>
  .bnd (ref_Xor N z6 x0) fun z7 =>
  .bnd (idxN 4 0) fun z8 =>
  .bnd (setA y1 (0 + z8) (w64 ((w64 (z3 * 256)) + z7))) fun z9 =>
  .bnd (idxN 4 0) fun z10 =>
  .bnd (z9[0 + z10]?) fun z11 =>
  .bnd (remC z11 256) fun z12 =>
  .bnd (idxN 4 0) fun z13 =>
  .bnd (z9[0 + z13]?) fun z14 =>
  .bnd (quoC .i64 z14 256) fun z15 =>
  .bnd (idxN 4 1) fun z16 =>
  .bnd (z9[0 + z16]?) fun z17 =>
  .bnd (remC z17 256) fun z18 =>
  .leaf (.go (w36i0kL4 c) (w36i0sL4 ([0, 0, w64 (z12 * 256), w64 (z15 + (w64 (z18 * 256)))] : List Int) 0 0 z9), ref_SumOf_1_i0_L4 N N ([0, 0, w64 (z12 * 256), w64 (z15 + (w64 (z18 * 256)))] : List Int) 0 0 z9)
theorem w36i0vE0 (N : Nat) (x0 : Int) (y1 : List Int) : evM TT EE (w36i0G N) w36i0lv w36i0rs 4000 true (w36i0kE0 (bodyOf 0 Try.f36)) (w36i0sE0 x0 y1) = (w36i0TE0 (bodyOf 0 Try.f36) N x0 y1).map1 := by kernel_rfl
theorem w36i0nE0 (N : Nat) (x0 : Int) (y1 : List Int) : ref_SumOf_1_i0 N x0 y1 = (w36i0TE0 (bodyOf 0 Try.f36) N x0 y1).run := by kernel_rfl
theorem w36i0oE0 {N : Nat} {r : List Int} (x0 : Int) (y1 : List Int) (h : ref_SumOf_1_i0 N x0 y1 = some r) : Ends (Y := TT) EE (w36i0G N) w36i0lv w36i0rs (fun u => u = w36i0enc r) (w36i0kE0 (bodyOf 0 Try.f36)) (w36i0sE0 x0 y1) :=
  tree_use (w36i0vE0 N x0 y1) (w36i0nE0 N x0 y1) h (show (w36i0TE0 (bodyOf 0 Try.f36) N x0 y1).all _ from fun _ => fun _ => fun _ => fun _ => fun _ => fun _ => fun _ => fun _ => fun _ => fun _ => fun _ => fun _ => fun _ => fun _ => fun _ => fun _ => fun _ => fun _ => fun h => w36i0oL4 N _ _ _ _ h)
def w36i0us (x0 : Int) (y1 : List Int) : List (TV EE.T) := [.a (.d (.int .i64) x0), .a (.box 100000 0)]
def w36i0h0 (x0 : Int) (y1 : List Int) : List (Nat × TB EE.T) := [(100000, .cs [.bsl 100001 0 4 4]), (100001, .row (.int .i64) y1)]
theorem ref_SumOf_1_i0_ok {N : Nat} (x0 : Int) (y1 : List Int) {r : List Int} (h : ref_SumOf_1_i0 N x0 y1 = some r) (ρ : Nat → Nat) (hi : Inj ρ (w36i0h0 x0 y1)) : ACalls Try.prog 36 ((w36i0us x0 y1).map (TV.to EE.toEnc ρ)) (hTo EE.toEnc ρ (w36i0h0 x0 y1)) (fun out H => out = .ret ((ref_SumOf_1_i0_u r).to EE.toEnc ρ) ∧ H = hTo EE.toEnc ρ (w36i0hh 100000 100001 r)) :=
  (fn_okH (bodyOf 0 Try.f36) 59 mixed (w36i0Gok N) Try.func36 (by kernel_rfl) rfl rfl rfl rfl (w36i0oE0 x0 y1 h) ρ hi).mono fun out H h => KPost.retH rfl rfl h
def ref_SumOf_1_i0_h (N : Nat) (us : List (TV EE.T)) (hs : List (Nat × TB EE.T)) : XR EE.T :=
  gdX (lenX us 2) <|
  bnX (aD (.int .i64) us 0) fun x0 =>
  bnX (aB us 1) fun i0 =>
  bnX (bC hs i0) fun l0 =>
  gdX (lenX l0 1) <|
  bnX (cW 0 4 4 l0 0) fun i1 =>
  bnX (bR (.int .i64) hs i1) fun y1 =>
  gdX (goodIds hs [i0, i1]) <|
  .ret (ref_SumOf_1_i0 N x0 y1) [i0, i1] ref_SumOf_1_i0_u (w36i0hh i0 i1)
theorem ref_SumOf_1_i0_hok (N : Nat) : XOk Try.prog EE 36 (ref_SumOf_1_i0_h N) := fun us hs =>
  gdX_ok fun h1 => bnX_ok fun x0 h2 => bnX_ok fun i0 h3 => bnX_ok fun l0 h4 => gdX_ok fun h5 => bnX_ok fun i1 h6 => bnX_ok fun y1 h7 => gdX_ok fun h8 => fun z hz => ⟨rfl, fun ρ hi => xcall (us' := w36i0us x0 y1) (h0 := w36i0h0 x0 y1) (ρ' := rhoS ρ [i0, i1]) ⟨aD_le h2, aB_le h3 (by kernel_rfl), lenX_ok h1⟩ ⟨(by kernel_rfl), bC_le h4 ⟨cW_le h6 (by kernel_rfl), lenX_ok h5⟩, (by kernel_rfl), bR_le h7, trivial⟩ (ref_SumOf_1_i0_ok x0 y1 hz _ (rhoS_inj hi h8 _ (by kernel_rfl))) (fun out H h => ⟨h.1.trans (by kernel_rfl), h.2.trans (by kernel_rfl)⟩)⟩
/-! ### gleaner/gleanerref.SumOf$2 -/
def ref_SumOf_2_i0_u (r : List Int) : TV EE.T := .tu []
def w38i0hh (i0 : Nat) (i1 : Nat) (i2 : Nat) (r : List Int) : List (Nat × TB EE.T) := [(i0, .cs [.fnb 36 [i1]]), (i1, .cs [.bsl i2 0 4 4]), (i2, .row (.int .i64) r)]
def w38i0enc (r : List Int) : RL EE.T := .ret (ref_SumOf_2_i0_u r) (w38i0hh 100000 100001 100002 r)
def w38i0lv : Lvs := ⟨[(3, ⟨[(0, false), (1, false), (3, false)], [], [(100000, (none, [])), (100001, (none, [])), (100002, (none, []))]⟩)], [(1, ⟨[(0, false), (1, false), (3, false)], [], [(100000, (none, [])), (100001, (none, [])), (100002, (none, []))]⟩)], [], [], false, [(100000, (none, [])), (100001, (none, [])), (100002, (none, []))], [100000, 100001, 100002]⟩
def w38i0rs : List ResultVar := []
def w38i0G (N : Nat) : Gam EE := ⟨[], EQT, [⟨36, ref_SumOf_1_i0_h N⟩], [15]⟩
theorem w38i0Gok (N : Nat) : GOk Try.prog TT EE (w38i0G N) := GOk.consx (ref_SumOf_1_i0_hok N) (GOk.nil EQT_ok)
def w38i0kL1 (c : Code) : List It2 := atL 1 c
def w38i0sL1 (x0 : List UInt8) (x3 : Int) (b100002 : List Int) : TS EE.T := ⟨18, [(0, .a (.d .str x0)), (1, .a (.box 100000 0)), (3, .a (.d (.int .i64) x3))], [(100000, .cs [.fnb 36 [100001]]), (100001, .cs [.bsl 100002 0 4 4]), (100002, .row (.int .i64) b100002)], []⟩
def w38i0kE0 (c : Code) : List It2 := [.c c]
def w38i0sE0 (x0 : List UInt8) (y2 : List Int) : TS EE.T := ⟨18, [(0, .a (.d .str x0)), (1, .a (.box 100000 0))], [(100000, .cs [.fnb 36 [100001]]), (100001, .cs [.bsl 100002 0 4 4]), (100002, .row (.int .i64) y2)], []⟩
def w38i0TL1 (c : Code) (N : Nat) (n : Nat) (x0 : List UInt8) (x3 : Int) (b100002 : List Int) : Tree (Lf EE.T × Option (List Int)) :=
  .cond (decide (x3 < (x0.length : Int)))
  (
    .bnd (idxC x0 x3) fun z1 =>
    .bnd (ref_SumOf_1_i0 N (w64 (b2i z1)) b100002) fun z2 =>
    .leaf (.go (w38i0kL1 c) (w38i0sL1 x0 (w64 (x3 + 1)) z2), ref_SumOf_2_i0_L1 N n x0 (w64 (x3 + 1)) z2))
  (
    .bnd (ref_SumOf_1_i0 N 255 b100002) fun z3 =>
    .leaf (.done (w38i0enc z3), some z3))
theorem w38i0vL1 (N : Nat) (n : Nat) (x0 : List UInt8) (x3 : Int) (b100002 : List Int) : evM TT EE (w38i0G N) w38i0lv w38i0rs 4000 true (w38i0kL1 (bodyOf 0 Try.f38)) (w38i0sL1 x0 x3 b100002) = (w38i0TL1 (bodyOf 0 Try.f38) N n x0 x3 b100002).map1 := by kernel_rfl
theorem w38i0nL1 (N : Nat) (n : Nat) (x0 : List UInt8) (x3 : Int) (b100002 : List Int) : ref_SumOf_2_i0_L1 N (n + 1) x0 x3 b100002 = (w38i0TL1 (bodyOf 0 Try.f38) N n x0 x3 b100002).run := by kernel_rfl
theorem w38i0oL1 {N : Nat} {r : List Int} : ∀ (n : Nat) (x0 : List UInt8) (x3 : Int) (b100002 : List Int), ref_SumOf_2_i0_L1 N n x0 x3 b100002 = some r → Ends (Y := TT) EE (w38i0G N) w38i0lv w38i0rs (fun u => u = w38i0enc r) (w38i0kL1 (bodyOf 0 Try.f38)) (w38i0sL1 x0 x3 b100002)
  | 0, _, _, _, h => by cases h
  | n + 1, x0, x3, b100002, h => tree_use (w38i0vL1 N n x0 x3 b100002) (w38i0nL1 N n x0 x3 b100002) h (show (w38i0TL1 (bodyOf 0 Try.f38) N n x0 x3 b100002).all _ from ⟨fun _ => fun _ => fun h => (w38i0oL1 n) _ _ _ h, fun _ => retp (enc := w38i0enc) rfl⟩)
def w38i0TE0 (c : Code) (N : Nat) (x0 : List UInt8) (y2 : List Int) : Tree (Lf EE.T × Option (List Int)) :=
  .leaf (.go (w38i0kL1 c) (w38i0sL1 x0 0 y2), ref_SumOf_2_i0_L1 N N x0 0 y2)
theorem w38i0vE0 (N : Nat) (x0 : List UInt8) (y2 : List Int) : evM TT EE (w38i0G N) w38i0lv w38i0rs 4000 true (w38i0kE0 (bodyOf 0 Try.f38)) (w38i0sE0 x0 y2) = (w38i0TE0 (bodyOf 0 Try.f38) N x0 y2).map1 := by kernel_rfl
theorem w38i0nE0 (N : Nat) (x0 : List UInt8) (y2 : List Int) : ref_SumOf_2_i0 N x0 y2 = (w38i0TE0 (bodyOf 0 Try.f38) N x0 y2).run := by kernel_rfl
theorem w38i0oE0 {N : Nat} {r : List Int} (x0 : List UInt8) (y2 : List Int) (h : ref_SumOf_2_i0 N x0 y2 = some r) : Ends (Y := TT) EE (w38i0G N) w38i0lv w38i0rs (fun u => u = w38i0enc r) (w38i0kE0 (bodyOf 0 Try.f38)) (w38i0sE0 x0 y2) :=
  tree_use (w38i0vE0 N x0 y2) (w38i0nE0 N x0 y2) h (show (w38i0TE0 (bodyOf 0 Try.f38) N x0 y2).all _ from fun h => w38i0oL1 N _ _ _ h)
def w38i0us (x0 : List UInt8) (y2 : List Int) : List (TV EE.T) := [.a (.d .str x0), .a (.box 100000 0)]
def w38i0h0 (x0 : List UInt8) (y2 : List Int) : List (Nat × TB EE.T) := [(100000, .cs [.fnb 36 [100001]]), (100001, .cs [.bsl 100002 0 4 4]), (100002, .row (.int .i64) y2)]
theorem ref_SumOf_2_i0_ok {N : Nat} (x0 : List UInt8) (y2 : List Int) {r : List Int} (h : ref_SumOf_2_i0 N x0 y2 = some r) (ρ : Nat → Nat) (hi : Inj ρ (w38i0h0 x0 y2)) : ACalls Try.prog 38 ((w38i0us x0 y2).map (TV.to EE.toEnc ρ)) (hTo EE.toEnc ρ (w38i0h0 x0 y2)) (fun out H => out = .ret ((ref_SumOf_2_i0_u r).to EE.toEnc ρ) ∧ H = hTo EE.toEnc ρ (w38i0hh 100000 100001 100002 r)) :=
  (fn_okH (bodyOf 0 Try.f38) 18 mixed (w38i0Gok N) Try.func38 (by kernel_rfl) rfl rfl rfl rfl (w38i0oE0 x0 y2 h) ρ hi).mono fun out H h => KPost.retH rfl rfl h
def ref_SumOf_2_i0_h (N : Nat) (us : List (TV EE.T)) (hs : List (Nat × TB EE.T)) : XR EE.T :=
  gdX (lenX us 2) <|
  bnX (aD .str us 0) fun x0 =>
  bnX (aB us 1) fun i0 =>
  bnX (bC hs i0) fun l0 =>
  gdX (lenX l0 1) <|
  bnX (cF 36 l0 0) fun s0_0 =>
  gdX (lenX s0_0 1) <|
  bnX (s0_0[0]?) fun i1 =>
  bnX (bC hs i1) fun l1 =>
  gdX (lenX l1 1) <|
  bnX (cW 0 4 4 l1 0) fun i2 =>
  bnX (bR (.int .i64) hs i2) fun y2 =>
  gdX (goodIds hs [i0, i1, i2]) <|
  .ret (ref_SumOf_2_i0 N x0 y2) [i0, i1, i2] ref_SumOf_2_i0_u (w38i0hh i0 i1 i2)
theorem ref_SumOf_2_i0_hok (N : Nat) : XOk Try.prog EE 38 (ref_SumOf_2_i0_h N) := fun us hs =>
  gdX_ok fun h1 => bnX_ok fun x0 h2 => bnX_ok fun i0 h3 => bnX_ok fun l0 h4 => gdX_ok fun h5 => bnX_ok fun s0_0 h6 => gdX_ok fun h7 => bnX_ok fun i1 h8 => bnX_ok fun l1 h9 => gdX_ok fun h10 => bnX_ok fun i2 h11 => bnX_ok fun y2 h12 => gdX_ok fun h13 => fun z hz => ⟨rfl, fun ρ hi => xcall (us' := w38i0us x0 y2) (h0 := w38i0h0 x0 y2) (ρ' := rhoS ρ [i0, i1, i2]) ⟨aD_le h2, aB_le h3 (by kernel_rfl), lenX_ok h1⟩ ⟨(by kernel_rfl), bC_le h4 ⟨cF_le (js := [100001]) h6 (by rw [lis1 (lenX_ok h7) h8];  kernel_rfl), lenX_ok h5⟩, (by kernel_rfl), bC_le h9 ⟨cW_le h11 (by kernel_rfl), lenX_ok h10⟩, (by kernel_rfl), bR_le h12, trivial⟩ (ref_SumOf_2_i0_ok x0 y2 hz _ (rhoS_inj hi h13 _ (by kernel_rfl))) (fun out H h => ⟨h.1.trans (by kernel_rfl), h.2.trans (by kernel_rfl)⟩)⟩
/-! ### gleaner/gleanerref.SumOf -/
def ref_SumOf_u (r : Int) : TV EE.T := .a (.d (.int .u64) r)
def w19enc (r : Int) : RL EE.T := .ret (ref_SumOf_u r) []
def w19lv : Lvs := ⟨[], [(5, ⟨[(0, false), (3, false), (5, false), (6, false)], [], [(3, (none, [])), (4, (none, [])), (9, (none, []))]⟩), (11, ⟨[(3, false), (7, false), (8, false)], [], [(3, (none, [])), (9, (none, []))]⟩)], [], [], false, [], []⟩
def w19rs : List ResultVar := [.tmp 2]
def w19G (N : Nat) : Gam EE := ⟨[], EQT, [⟨38, ref_SumOf_2_i0_h N⟩], [9]⟩
theorem w19Gok (N : Nat) : GOk Try.prog TT EE (w19G N) := GOk.consx (ref_SumOf_2_i0_hok N) (GOk.nil EQT_ok)
def w19kL11 (c : Code) : List It2 := atL 11 c
def w19sL11 (x7 : Int) (x8 : Int) (b9 : List Int) : TS EE.T := ⟨45, [(3, .a (.box 3 0)), (7, .a (.d (.int .u64) x7)), (8, .a (.d (.int .i64) x8))], [(3, .cs [.bsl 9 0 4 4]), (9, .row (.int .i64) b9)], []⟩
def w19kL5 (c : Code) : List It2 := atL 5 c
def w19sL5 (x0 : List VLabel) (x6 : Int) (b9 : List Int) : TS EE.T := ⟨45, [(0, .a (.d (.sl (.nam 2)) x0)), (3, .a (.box 3 0)), (5, .fn 38 [.box 4 0]), (6, .a (.d (.int .i64) x6))], [(3, .cs [.bsl 9 0 4 4]), (4, .cs [.fnb 36 [3]]), (9, .row (.int .i64) b9)], []⟩
def w19kE0 (c : Code) : List It2 := [.c c]
def w19sE0 (x0 : List VLabel) : TS EE.T := ⟨45, [(0, .a (.d (.sl (.nam 2)) x0))], [], []⟩
def w19TL11 (c : Code) (N : Nat) (n : Nat) (x7 : Int) (x8 : Int) (b9 : List Int) : Tree (Lf EE.T × Option Int) :=
  .cond (decide (x8 ≥ 0))
  (
    .bnd (idxN 4 x8) fun z5 =>
    .bnd (b9[0 + z5]?) fun z6 =>
    .leaf (.go (w19kL11 c) (w19sL11 (IntKind.wrap .u64 ((IntKind.wrap .u64 (x7 * 65536)) + (IntKind.wrap .u64 z6))) (w64 (x8 - 1)) b9), ref_SumOf_L11 N n (IntKind.wrap .u64 ((IntKind.wrap .u64 (x7 * 65536)) + (IntKind.wrap .u64 z6))) (w64 (x8 - 1)) b9))
  (
    .leaf (.done (w19enc x7), some x7))
theorem w19vL11 (N : Nat) (n : Nat) (x7 : Int) (x8 : Int) (b9 : List Int) : evM TT EE (w19G N) w19lv w19rs 4000 true (w19kL11 (bodyOf 0 Try.f19)) (w19sL11 x7 x8 b9) = (w19TL11 (bodyOf 0 Try.f19) N n x7 x8 b9).map1 := by kernel_rfl
theorem w19nL11 (N : Nat) (n : Nat) (x7 : Int) (x8 : Int) (b9 : List Int) : ref_SumOf_L11 N (n + 1) x7 x8 b9 = (w19TL11 (bodyOf 0 Try.f19) N n x7 x8 b9).run := by kernel_rfl
theorem w19oL11 {N : Nat} {r : Int} : ∀ (n : Nat) (x7 : Int) (x8 : Int) (b9 : List Int), ref_SumOf_L11 N n x7 x8 b9 = some r → Ends (Y := TT) EE (w19G N) w19lv w19rs (fun u => u = w19enc r) (w19kL11 (bodyOf 0 Try.f19)) (w19sL11 x7 x8 b9)
  | 0, _, _, _, h => by cases h
  | n + 1, x7, x8, b9, h => tree_use (w19vL11 N n x7 x8 b9) (w19nL11 N n x7 x8 b9) h (show (w19TL11 (bodyOf 0 Try.f19) N n x7 x8 b9).all _ from ⟨fun _ => fun _ => fun h => (w19oL11 n) _ _ _ h, retp (enc := w19enc) rfl⟩)
def w19TL5 (c : Code) (N : Nat) (n : Nat) (x0 : List VLabel) (x6 : Int) (b9 : List Int) : Tree (Lf EE.T × Option Int) :=
  .cond (decide (x6 < (x0.length : Int)))
  (
    .bnd (idxC x0 x6) fun z1 =>
    .bnd (ref_SumOf_2_i0 N z1.Name b9) fun z2 =>
    .bnd (idxC x0 x6) fun z3 =>
    .bnd (ref_SumOf_2_i0 N z3.Value z2) fun z4 =>
    .leaf (.go (w19kL5 c) (w19sL5 x0 (w64 (x6 + 1)) z4), ref_SumOf_L5 N n x0 (w64 (x6 + 1)) z4))
  (
    .leaf (.go (w19kL11 c) (w19sL11 0 3 b9), ref_SumOf_L11 N n 0 3 b9))
theorem w19vL5 (N : Nat) (n : Nat) (x0 : List VLabel) (x6 : Int) (b9 : List Int) : evM TT EE (w19G N) w19lv w19rs 4000 true (w19kL5 (bodyOf 0 Try.f19)) (w19sL5 x0 x6 b9) = (w19TL5 (bodyOf 0 Try.f19) N n x0 x6 b9).map1 := by kernel_rfl
theorem w19nL5 (N : Nat) (n : Nat) (x0 : List VLabel) (x6 : Int) (b9 : List Int) : ref_SumOf_L5 N (n + 1) x0 x6 b9 = (w19TL5 (bodyOf 0 Try.f19) N n x0 x6 b9).run := by kernel_rfl
theorem w19oL5 {N : Nat} {r : Int} : ∀ (n : Nat) (x0 : List VLabel) (x6 : Int) (b9 : List Int), ref_SumOf_L5 N n x0 x6 b9 = some r → Ends (Y := TT) EE (w19G N) w19lv w19rs (fun u => u = w19enc r) (w19kL5 (bodyOf 0 Try.f19)) (w19sL5 x0 x6 b9)
  | 0, _, _, _, h => by cases h
  | n + 1, x0, x6, b9, h => tree_use (w19vL5 N n x0 x6 b9) (w19nL5 N n x0 x6 b9) h (show (w19TL5 (bodyOf 0 Try.f19) N n x0 x6 b9).all _ from ⟨fun _ => fun _ => fun _ => fun _ => fun h => (w19oL5 n) _ _ _ h, fun h => w19oL11 n _ _ _ h⟩)
def w19TE0 (c : Code) (N : Nat) (x0 : List VLabel) : Tree (Lf EE.T × Option Int) :=
  .leaf (.go (w19kL5 c) (w19sL5 x0 0 ([8997, 33826, 40164, 52210] : List Int)), ref_SumOf_L5 N N x0 0 ([8997, 33826, 40164, 52210] : List Int))
theorem w19vE0 (N : Nat) (x0 : List VLabel) : evM TT EE (w19G N) w19lv w19rs 4000 true (w19kE0 (bodyOf 0 Try.f19)) (w19sE0 x0) = (w19TE0 (bodyOf 0 Try.f19) N x0).map1 := by kernel_rfl
theorem w19nE0 (N : Nat) (x0 : List VLabel) : ref_SumOf N x0 = (w19TE0 (bodyOf 0 Try.f19) N x0).run := by kernel_rfl
theorem w19oE0 {N : Nat} {r : Int} (x0 : List VLabel) (h : ref_SumOf N x0 = some r) : Ends (Y := TT) EE (w19G N) w19lv w19rs (fun u => u = w19enc r) (w19kE0 (bodyOf 0 Try.f19)) (w19sE0 x0) :=
  tree_use (w19vE0 N x0) (w19nE0 N x0) h (show (w19TE0 (bodyOf 0 Try.f19) N x0).all _ from fun h => w19oL5 N _ _ _ h)
theorem ref_SumOf_ok {N : Nat} (x0 : List VLabel) {r : Int} (h : ref_SumOf N x0 = some r) (ρ : Nat → Nat) : ACalls Try.prog 19 (([.a (.d (.sl (.nam 2)) x0)] : List (TV EE.T)).map (TV.to EE.toEnc ρ)) [] (fun out H => out = .ret ((ref_SumOf_u r).to EE.toEnc ρ) ∧ H = []) :=
  (fn_ok (bodyOf 0 Try.f19) 45 mixed (w19Gok N) Try.func19 (by kernel_rfl) rfl rfl rfl rfl (w19oE0 x0 h) ρ).mono fun out H h => KPost.ret rfl h
def ref_SumOf_h (N : Nat) : List (TV EE.T) → PV EE.T
  | [u0] => match argD (.sl (.nam 2)) u0 with
    | some x0 => .opt (ref_SumOf N x0) ref_SumOf_u
    | _ => .bad
  | _ => .bad
theorem ref_SumOf_hok (N : Nat) (us : List (TV EE.T)) : (ref_SumOf_h N us).ok fun u => ∀ ρ, ACalls Try.prog 19 (us.map (TV.to EE.toEnc ρ)) [] (fun out H => out = .ret (u.to EE.toEnc ρ) ∧ H = []) := by
  unfold ref_SumOf_h
  split
  · split
    · rename_i h0
      intro z hz ρ; refine acalls_le ?_ (ref_SumOf_ok _ hz ρ); exact ⟨argD_le h0 ρ, trivial⟩
    · trivial
  · trivial
/-! ### gleaner/gleanerlaw.LabelsSums -/
def law_LabelsSums_u (r : Bool) : TV EE.T := .a (.d .bool r)
def w6enc (r : Bool) : RL EE.T := .ret (law_LabelsSums_u r) []
def w6lv : Lvs := ⟨[(5, ⟨[(3, false), (4, false), (5, false), (6, false)], [], []⟩)], [], [5], [], false, [], []⟩
def w6rs : List ResultVar := [.tmp 2]
def w6G (N : Nat) : Gam EE := ⟨[⟨10, law_labelsBegun_h N⟩, ⟨14, ref_CheckLabels_h N⟩, ⟨19, ref_SumOf_h N⟩, ⟨18, labels_Sum_h N⟩], EQT, [], []⟩
theorem w6Gok (N : Nat) : GOk Try.prog TT EE (w6G N) := GOk.cons (law_labelsBegun_hok N) (GOk.cons (ref_CheckLabels_hok N) (GOk.cons (ref_SumOf_hok N) (GOk.cons (labels_Sum_hok N) (GOk.nil EQT_ok))))
def w6kR5 (c : Code) : List It2 := atR 5 c
def w6sR5 (x3 : Int) (x4 : Int) (x5 : Int) (x6 : Int) : TS EE.T := ⟨29, [(3, .a (.d (.int .u64) x3)), (4, .a (.d (.int .i64) x4)), (5, .a (.d (.int .i64) x5)), (6, .a (.d (.int .u64) x6))], [], []⟩
def w6kE0 (c : Code) : List It2 := [.c c]
def w6sE0 (x0 : List VLabel) : TS EE.T := ⟨29, [(0, .a (.d (.sl (.nam 2)) x0))], [], []⟩
def w6TR5 (c : Code) (N : Nat) (n : Nat) (x3 : Int) (x4 : Int) (x5 : Int) (x6 : Int) : Tree (Lf EE.T × Option Bool) :=
  .bnd (law_labelsBegun N) fun z4 =>
  .cond (z4)
  (
    .cond (x4 == x5)
    (
      .leaf (.done (w6enc (x3 == x6)), some (x3 == x6)))
    (
      .leaf (.done (w6enc false), some false)))
  (
    .leaf (.done (w6enc false), some false))
theorem w6vR5 (N : Nat) (n : Nat) (x3 : Int) (x4 : Int) (x5 : Int) (x6 : Int) : evM TT EE (w6G N) w6lv w6rs 4000 true (w6kR5 (bodyOf 0 Try.f6)) (w6sR5 x3 x4 x5 x6) = (w6TR5 (bodyOf 0 Try.f6) N n x3 x4 x5 x6).map1 := by kernel_rfl
theorem w6nR5 (N : Nat) (n : Nat) (x3 : Int) (x4 : Int) (x5 : Int) (x6 : Int) : law_LabelsSums_R5 N n x3 x4 x5 x6 = (w6TR5 (bodyOf 0 Try.f6) N n x3 x4 x5 x6).run := by kernel_rfl
theorem w6oR5 {N : Nat} {r : Bool} (n : Nat) (x3 : Int) (x4 : Int) (x5 : Int) (x6 : Int) (h : law_LabelsSums_R5 N n x3 x4 x5 x6 = some r) : Ends (Y := TT) EE (w6G N) w6lv w6rs (fun u => u = w6enc r) (w6kR5 (bodyOf 0 Try.f6)) (w6sR5 x3 x4 x5 x6) :=
  tree_use (w6vR5 N n x3 x4 x5 x6) (w6nR5 N n x3 x4 x5 x6) h (show (w6TR5 (bodyOf 0 Try.f6) N n x3 x4 x5 x6).all _ from fun _ => ⟨⟨retp (enc := w6enc) rfl, retp (enc := w6enc) rfl⟩, retp (enc := w6enc) rfl⟩)
def w6TE0 (c : Code) (N : Nat) (x0 : List VLabel) : Tree (Lf EE.T × Option Bool) :=
  .bnd (labels_Sum N x0) fun z1 =>
  .bnd (ref_CheckLabels N x0) fun z2 =>
  .cond (z2 == 0)
  (
    .bnd (ref_SumOf N x0) fun z3 =>
    .leaf (.go (w6kR5 c) (w6sR5 z1.1 z1.2 z2 z3), law_LabelsSums_R5 N N z1.1 z1.2 z2 z3))
  (
    .leaf (.go (w6kR5 c) (w6sR5 z1.1 z1.2 z2 0), law_LabelsSums_R5 N N z1.1 z1.2 z2 0))
theorem w6vE0 (N : Nat) (x0 : List VLabel) : evM TT EE (w6G N) w6lv w6rs 4000 true (w6kE0 (bodyOf 0 Try.f6)) (w6sE0 x0) = (w6TE0 (bodyOf 0 Try.f6) N x0).map1 := by kernel_rfl
theorem w6nE0 (N : Nat) (x0 : List VLabel) : law_LabelsSums N x0 = (w6TE0 (bodyOf 0 Try.f6) N x0).run := by kernel_rfl
theorem w6oE0 {N : Nat} {r : Bool} (x0 : List VLabel) (h : law_LabelsSums N x0 = some r) : Ends (Y := TT) EE (w6G N) w6lv w6rs (fun u => u = w6enc r) (w6kE0 (bodyOf 0 Try.f6)) (w6sE0 x0) :=
  tree_use (w6vE0 N x0) (w6nE0 N x0) h (show (w6TE0 (bodyOf 0 Try.f6) N x0).all _ from fun _ => fun _ => ⟨fun _ => fun h => w6oR5 N _ _ _ _ h, fun h => w6oR5 N _ _ _ _ h⟩)
theorem law_LabelsSums_ok {N : Nat} (x0 : List VLabel) {r : Bool} (h : law_LabelsSums N x0 = some r) (ρ : Nat → Nat) : ACalls Try.prog 6 (([.a (.d (.sl (.nam 2)) x0)] : List (TV EE.T)).map (TV.to EE.toEnc ρ)) [] (fun out H => out = .ret ((law_LabelsSums_u r).to EE.toEnc ρ) ∧ H = []) :=
  (fn_ok (bodyOf 0 Try.f6) 29 mixed (w6Gok N) Try.func6 (by kernel_rfl) rfl rfl rfl rfl (w6oE0 x0 h) ρ).mono fun out H h => KPost.ret rfl h
def law_LabelsSums_h (N : Nat) : List (TV EE.T) → PV EE.T
  | [u0] => match argD (.sl (.nam 2)) u0 with
    | some x0 => .opt (law_LabelsSums N x0) law_LabelsSums_u
    | _ => .bad
  | _ => .bad
theorem law_LabelsSums_hok (N : Nat) (us : List (TV EE.T)) : (law_LabelsSums_h N us).ok fun u => ∀ ρ, ACalls Try.prog 6 (us.map (TV.to EE.toEnc ρ)) [] (fun out H => out = .ret (u.to EE.toEnc ρ) ∧ H = []) := by
  unfold law_LabelsSums_h
  split
  · split
    · rename_i h0
      intro z hz ρ; refine acalls_le ?_ (law_LabelsSums_ok _ hz ρ); exact ⟨argD_le h0 ρ, trivial⟩
    · trivial
  · trivial
/-! ### gleaner/labels.Get -/
def labels_Get_u (r : (List UInt8) × Int) : TV EE.T := .tu [.a (.d .str r.1), .a (.d (.int .i64) r.2)]
def w20enc (r : (List UInt8) × Int) : RL EE.T := .ret (labels_Get_u r) []
def w20lv : Lvs := ⟨[], [], [], [], false, [], []⟩
def w20rs : List ResultVar := [.tmp 4, .tmp 5]
def w20G (N : Nat) : Gam EE := ⟨[⟨11, labels_IsName_h N⟩, ⟨31, labels_Value_h N⟩, ⟨30, labels_check_h N⟩], EQT, [], []⟩
theorem w20Gok (N : Nat) : GOk Try.prog TT EE (w20G N) := GOk.cons (labels_IsName_hok N) (GOk.cons (labels_Value_hok N) (GOk.cons (labels_check_hok N) (GOk.nil EQT_ok)))
def w20kE0 (c : Code) : List It2 := [.c c]
def w20sE0 (x0 : List VLabel) (x1 : List UInt8) : TS EE.T := ⟨19, [(0, .a (.d (.sl (.nam 2)) x0)), (1, .a (.d .str x1))], [], []⟩
def w20TE0 (c : Code) (N : Nat) (x0 : List VLabel) (x1 : List UInt8) : Tree (Lf EE.T × Option ((List UInt8) × Int)) :=
  .bnd (labels_check N ([x0] : List (List VLabel))) fun z1 =>
  .cond (z1 != 0)
  (
    .leaf (.done (w20enc (([] : List UInt8), z1)), some (([] : List UInt8), z1)))
  (
    .bnd (labels_IsName N x1) fun z2 =>
    .cond (!z2)
    (
      .leaf (.done (w20enc (([] : List UInt8), 1)), some (([] : List UInt8), 1)))
    (
      .bnd (labels_Value N x0 x1) fun z3 =>
      .leaf (.done (w20enc (z3, 0)), some (z3, 0))))
theorem w20vE0 (N : Nat) (x0 : List VLabel) (x1 : List UInt8) : evM TT EE (w20G N) w20lv w20rs 4000 true (w20kE0 (bodyOf 0 Try.f20)) (w20sE0 x0 x1) = (w20TE0 (bodyOf 0 Try.f20) N x0 x1).map1 := by kernel_rfl
theorem w20nE0 (N : Nat) (x0 : List VLabel) (x1 : List UInt8) : labels_Get N x0 x1 = (w20TE0 (bodyOf 0 Try.f20) N x0 x1).run := by kernel_rfl
theorem w20oE0 {N : Nat} {r : (List UInt8) × Int} (x0 : List VLabel) (x1 : List UInt8) (h : labels_Get N x0 x1 = some r) : Ends (Y := TT) EE (w20G N) w20lv w20rs (fun u => u = w20enc r) (w20kE0 (bodyOf 0 Try.f20)) (w20sE0 x0 x1) :=
  tree_use (w20vE0 N x0 x1) (w20nE0 N x0 x1) h (show (w20TE0 (bodyOf 0 Try.f20) N x0 x1).all _ from fun _ => ⟨retp (enc := w20enc) rfl, fun _ => ⟨retp (enc := w20enc) rfl, fun _ => retp (enc := w20enc) rfl⟩⟩)
theorem labels_Get_ok {N : Nat} (x0 : List VLabel) (x1 : List UInt8) {r : (List UInt8) × Int} (h : labels_Get N x0 x1 = some r) (ρ : Nat → Nat) : ACalls Try.prog 20 (([.a (.d (.sl (.nam 2)) x0), .a (.d .str x1)] : List (TV EE.T)).map (TV.to EE.toEnc ρ)) [] (fun out H => out = .ret ((labels_Get_u r).to EE.toEnc ρ) ∧ H = []) :=
  (fn_ok (bodyOf 0 Try.f20) 19 mixed (w20Gok N) Try.func20 (by kernel_rfl) rfl rfl rfl rfl (w20oE0 x0 x1 h) ρ).mono fun out H h => KPost.ret rfl h
def labels_Get_h (N : Nat) : List (TV EE.T) → PV EE.T
  | [u0, u1] => match argD (.sl (.nam 2)) u0, argD .str u1 with
    | some x0, some x1 => .opt (labels_Get N x0 x1) labels_Get_u
    | _, _ => .bad
  | _ => .bad
theorem labels_Get_hok (N : Nat) (us : List (TV EE.T)) : (labels_Get_h N us).ok fun u => ∀ ρ, ACalls Try.prog 20 (us.map (TV.to EE.toEnc ρ)) [] (fun out H => out = .ret (u.to EE.toEnc ρ) ∧ H = []) := by
  unfold labels_Get_h
  split
  · split
    · rename_i h0 h1
      intro z hz ρ; refine acalls_le ?_ (labels_Get_ok _ _ hz ρ); exact ⟨argD_le h0 ρ, argD_le h1 ρ, trivial⟩
    · trivial
  · trivial
/-! ### gleaner/gleanerref.ValueOf -/
def ref_ValueOf_u (r : List UInt8) : TV EE.T := .a (.d .str r)
def w21enc (r : List UInt8) : RL EE.T := .ret (ref_ValueOf_u r) []
def w21lv : Lvs := ⟨[], [(2, ⟨[(0, false), (1, false), (5, false)], [], []⟩)], [], [], false, [], []⟩
def w21rs : List ResultVar := [.tmp 4]
def w21G (N : Nat) : Gam EE := ⟨[], EQT, [], []⟩
theorem w21Gok (N : Nat) : GOk Try.prog TT EE (w21G N) := GOk.nil EQT_ok
def w21kL2 (c : Code) : List It2 := atL 2 c
def w21sL2 (x0 : List VLabel) (x1 : List UInt8) (x5 : Int) : TS EE.T := ⟨24, [(0, .a (.d (.sl (.nam 2)) x0)), (1, .a (.d .str x1)), (5, .a (.d (.int .i64) x5))], [], []⟩
def w21kE0 (c : Code) : List It2 := [.c c]
def w21sE0 (x0 : List VLabel) (x1 : List UInt8) : TS EE.T := ⟨24, [(0, .a (.d (.sl (.nam 2)) x0)), (1, .a (.d .str x1))], [], []⟩
def w21TL2 (c : Code) (N : Nat) (n : Nat) (x0 : List VLabel) (x1 : List UInt8) (x5 : Int) : Tree (Lf EE.T × Option (List UInt8)) :=
  .cond (decide (x5 < (x0.length : Int)))
  (
    .bnd (idxC x0 x5) fun z1 =>
    .cond (decide (z1.Name = x1))
    (
      .bnd (idxC x0 x5) fun z2 =>
      .leaf (.done (w21enc z2.Value), some z2.Value))
    (
      .leaf (.go (w21kL2 c) (w21sL2 x0 x1 (w64 (x5 + 1))), ref_ValueOf_L2 N n x0 x1 (w64 (x5 + 1)))))
  (
    .leaf (.done (w21enc ([] : List UInt8)), some ([] : List UInt8)))
theorem w21vL2 (N : Nat) (n : Nat) (x0 : List VLabel) (x1 : List UInt8) (x5 : Int) : evM TT EE (w21G N) w21lv w21rs 4000 true (w21kL2 (bodyOf 0 Try.f21)) (w21sL2 x0 x1 x5) = (w21TL2 (bodyOf 0 Try.f21) N n x0 x1 x5).map1 := by kernel_rfl
theorem w21nL2 (N : Nat) (n : Nat) (x0 : List VLabel) (x1 : List UInt8) (x5 : Int) : ref_ValueOf_L2 N (n + 1) x0 x1 x5 = (w21TL2 (bodyOf 0 Try.f21) N n x0 x1 x5).run := by kernel_rfl
theorem w21oL2 {N : Nat} {r : List UInt8} : ∀ (n : Nat) (x0 : List VLabel) (x1 : List UInt8) (x5 : Int), ref_ValueOf_L2 N n x0 x1 x5 = some r → Ends (Y := TT) EE (w21G N) w21lv w21rs (fun u => u = w21enc r) (w21kL2 (bodyOf 0 Try.f21)) (w21sL2 x0 x1 x5)
  | 0, _, _, _, h => by cases h
  | n + 1, x0, x1, x5, h => tree_use (w21vL2 N n x0 x1 x5) (w21nL2 N n x0 x1 x5) h (show (w21TL2 (bodyOf 0 Try.f21) N n x0 x1 x5).all _ from ⟨fun _ => ⟨fun _ => retp (enc := w21enc) rfl, fun h => (w21oL2 n) _ _ _ h⟩, retp (enc := w21enc) rfl⟩)
def w21TE0 (c : Code) (N : Nat) (x0 : List VLabel) (x1 : List UInt8) : Tree (Lf EE.T × Option (List UInt8)) :=
  .leaf (.go (w21kL2 c) (w21sL2 x0 x1 0), ref_ValueOf_L2 N N x0 x1 0)
theorem w21vE0 (N : Nat) (x0 : List VLabel) (x1 : List UInt8) : evM TT EE (w21G N) w21lv w21rs 4000 true (w21kE0 (bodyOf 0 Try.f21)) (w21sE0 x0 x1) = (w21TE0 (bodyOf 0 Try.f21) N x0 x1).map1 := by kernel_rfl
theorem w21nE0 (N : Nat) (x0 : List VLabel) (x1 : List UInt8) : ref_ValueOf N x0 x1 = (w21TE0 (bodyOf 0 Try.f21) N x0 x1).run := by kernel_rfl
theorem w21oE0 {N : Nat} {r : List UInt8} (x0 : List VLabel) (x1 : List UInt8) (h : ref_ValueOf N x0 x1 = some r) : Ends (Y := TT) EE (w21G N) w21lv w21rs (fun u => u = w21enc r) (w21kE0 (bodyOf 0 Try.f21)) (w21sE0 x0 x1) :=
  tree_use (w21vE0 N x0 x1) (w21nE0 N x0 x1) h (show (w21TE0 (bodyOf 0 Try.f21) N x0 x1).all _ from fun h => w21oL2 N _ _ _ h)
theorem ref_ValueOf_ok {N : Nat} (x0 : List VLabel) (x1 : List UInt8) {r : List UInt8} (h : ref_ValueOf N x0 x1 = some r) (ρ : Nat → Nat) : ACalls Try.prog 21 (([.a (.d (.sl (.nam 2)) x0), .a (.d .str x1)] : List (TV EE.T)).map (TV.to EE.toEnc ρ)) [] (fun out H => out = .ret ((ref_ValueOf_u r).to EE.toEnc ρ) ∧ H = []) :=
  (fn_ok (bodyOf 0 Try.f21) 24 mixed (w21Gok N) Try.func21 (by kernel_rfl) rfl rfl rfl rfl (w21oE0 x0 x1 h) ρ).mono fun out H h => KPost.ret rfl h
def ref_ValueOf_h (N : Nat) : List (TV EE.T) → PV EE.T
  | [u0, u1] => match argD (.sl (.nam 2)) u0, argD .str u1 with
    | some x0, some x1 => .opt (ref_ValueOf N x0 x1) ref_ValueOf_u
    | _, _ => .bad
  | _ => .bad
theorem ref_ValueOf_hok (N : Nat) (us : List (TV EE.T)) : (ref_ValueOf_h N us).ok fun u => ∀ ρ, ACalls Try.prog 21 (us.map (TV.to EE.toEnc ρ)) [] (fun out H => out = .ret (u.to EE.toEnc ρ) ∧ H = []) := by
  unfold ref_ValueOf_h
  split
  · split
    · rename_i h0 h1
      intro z hz ρ; refine acalls_le ?_ (ref_ValueOf_ok _ _ hz ρ); exact ⟨argD_le h0 ρ, argD_le h1 ρ, trivial⟩
    · trivial
  · trivial
/-! ### gleaner/gleanerlaw.textIs -/
def law_textIs_u (r : Bool) : TV EE.T := .a (.d .bool r)
def w17enc (r : Bool) : RL EE.T := .ret (law_textIs_u r) []
def w17lv : Lvs := ⟨[(3, ⟨[(0, false), (1, false), (2, false), (3, false)], [], []⟩)], [], [3], [], false, [], []⟩
def w17rs : List ResultVar := [.tmp 8]
def w17G (N : Nat) : Gam EE := ⟨[], EQT, [], []⟩
theorem w17Gok (N : Nat) : GOk Try.prog TT EE (w17G N) := GOk.nil EQT_ok
def w17kR3 (c : Code) : List It2 := atR 3 c
def w17sR3 (x0 : List UInt8) (x1 : Int) (x2 : Int) (x3 : List UInt8) : TS EE.T := ⟨19, [(0, .a (.d .str x0)), (1, .a (.d (.int .i64) x1)), (2, .a (.d (.int .i64) x2)), (3, .a (.d .str x3))], [], []⟩
def w17kE0 (c : Code) : List It2 := [.c c]
def w17sE0 (x0 : List UInt8) (x1 : Int) (x2 : Int) (x3 : List UInt8) : TS EE.T := ⟨19, [(0, .a (.d .str x0)), (1, .a (.d (.int .i64) x1)), (2, .a (.d (.int .i64) x2)), (3, .a (.d .str x3))], [], []⟩
def w17TR3 (c : Code) (N : Nat) (n : Nat) (x0 : List UInt8) (x1 : Int) (x2 : Int) (x3 : List UInt8) : Tree (Lf EE.T × Option Bool) :=
  .cond (x1 == x2)
  (
    .leaf (.done (w17enc (decide (x0 = x3))), some (decide (x0 = x3))))
  (
    .leaf (.done (w17enc false), some false))
theorem w17vR3 (N : Nat) (n : Nat) (x0 : List UInt8) (x1 : Int) (x2 : Int) (x3 : List UInt8) : evM TT EE (w17G N) w17lv w17rs 4000 true (w17kR3 (bodyOf 0 Try.f17)) (w17sR3 x0 x1 x2 x3) = (w17TR3 (bodyOf 0 Try.f17) N n x0 x1 x2 x3).map1 := by kernel_rfl
theorem w17nR3 (N : Nat) (n : Nat) (x0 : List UInt8) (x1 : Int) (x2 : Int) (x3 : List UInt8) : law_textIs_R3 N n x0 x1 x2 x3 = (w17TR3 (bodyOf 0 Try.f17) N n x0 x1 x2 x3).run := by kernel_rfl
theorem w17oR3 {N : Nat} {r : Bool} (n : Nat) (x0 : List UInt8) (x1 : Int) (x2 : Int) (x3 : List UInt8) (h : law_textIs_R3 N n x0 x1 x2 x3 = some r) : Ends (Y := TT) EE (w17G N) w17lv w17rs (fun u => u = w17enc r) (w17kR3 (bodyOf 0 Try.f17)) (w17sR3 x0 x1 x2 x3) :=
  tree_use (w17vR3 N n x0 x1 x2 x3) (w17nR3 N n x0 x1 x2 x3) h (show (w17TR3 (bodyOf 0 Try.f17) N n x0 x1 x2 x3).all _ from ⟨retp (enc := w17enc) rfl, retp (enc := w17enc) rfl⟩)
def w17TE0 (c : Code) (N : Nat) (x0 : List UInt8) (x1 : Int) (x2 : Int) (x3 : List UInt8) : Tree (Lf EE.T × Option Bool) :=
  .cond (x2 != 0)
  (
    .leaf (.go (w17kR3 c) (w17sR3 x0 x1 x2 ([] : List UInt8)), law_textIs_R3 N N x0 x1 x2 ([] : List UInt8)))
  (
    .leaf (.go (w17kR3 c) (w17sR3 x0 x1 x2 x3), law_textIs_R3 N N x0 x1 x2 x3))
theorem w17vE0 (N : Nat) (x0 : List UInt8) (x1 : Int) (x2 : Int) (x3 : List UInt8) : evM TT EE (w17G N) w17lv w17rs 4000 true (w17kE0 (bodyOf 0 Try.f17)) (w17sE0 x0 x1 x2 x3) = (w17TE0 (bodyOf 0 Try.f17) N x0 x1 x2 x3).map1 := by kernel_rfl
theorem w17nE0 (N : Nat) (x0 : List UInt8) (x1 : Int) (x2 : Int) (x3 : List UInt8) : law_textIs N x0 x1 x2 x3 = (w17TE0 (bodyOf 0 Try.f17) N x0 x1 x2 x3).run := by kernel_rfl
theorem w17oE0 {N : Nat} {r : Bool} (x0 : List UInt8) (x1 : Int) (x2 : Int) (x3 : List UInt8) (h : law_textIs N x0 x1 x2 x3 = some r) : Ends (Y := TT) EE (w17G N) w17lv w17rs (fun u => u = w17enc r) (w17kE0 (bodyOf 0 Try.f17)) (w17sE0 x0 x1 x2 x3) :=
  tree_use (w17vE0 N x0 x1 x2 x3) (w17nE0 N x0 x1 x2 x3) h (show (w17TE0 (bodyOf 0 Try.f17) N x0 x1 x2 x3).all _ from ⟨fun h => w17oR3 N _ _ _ _ h, fun h => w17oR3 N _ _ _ _ h⟩)
theorem law_textIs_ok {N : Nat} (x0 : List UInt8) (x1 : Int) (x2 : Int) (x3 : List UInt8) {r : Bool} (h : law_textIs N x0 x1 x2 x3 = some r) (ρ : Nat → Nat) : ACalls Try.prog 17 (([.a (.d .str x0), .a (.d (.int .i64) x1), .a (.d (.int .i64) x2), .a (.d .str x3)] : List (TV EE.T)).map (TV.to EE.toEnc ρ)) [] (fun out H => out = .ret ((law_textIs_u r).to EE.toEnc ρ) ∧ H = []) :=
  (fn_ok (bodyOf 0 Try.f17) 19 mixed (w17Gok N) Try.func17 (by kernel_rfl) rfl rfl rfl rfl (w17oE0 x0 x1 x2 x3 h) ρ).mono fun out H h => KPost.ret rfl h
def law_textIs_h (N : Nat) : List (TV EE.T) → PV EE.T
  | [u0, u1, u2, u3] => match argD .str u0, argD (.int .i64) u1, argD (.int .i64) u2, argD .str u3 with
    | some x0, some x1, some x2, some x3 => .opt (law_textIs N x0 x1 x2 x3) law_textIs_u
    | _, _, _, _ => .bad
  | _ => .bad
theorem law_textIs_hok (N : Nat) (us : List (TV EE.T)) : (law_textIs_h N us).ok fun u => ∀ ρ, ACalls Try.prog 17 (us.map (TV.to EE.toEnc ρ)) [] (fun out H => out = .ret (u.to EE.toEnc ρ) ∧ H = []) := by
  unfold law_textIs_h
  split
  · split
    · rename_i h0 h1 h2 h3
      intro z hz ρ; refine acalls_le ?_ (law_textIs_ok _ _ _ _ hz ρ); exact ⟨argD_le h0 ρ, argD_le h1 ρ, argD_le h2 ρ, argD_le h3 ρ, trivial⟩
    · trivial
  · trivial
/-! ### gleaner/gleanerlaw.LabelsGets -/
def law_LabelsGets_u (r : Bool) : TV EE.T := .a (.d .bool r)
def w7enc (r : Bool) : RL EE.T := .ret (law_LabelsGets_u r) []
def w7lv : Lvs := ⟨[(5, ⟨[(0, false), (1, false), (5, false), (6, false), (7, false)], [], []⟩)], [], [5], [], false, [], []⟩
def w7rs : List ResultVar := [.tmp 4]
def w7G (N : Nat) : Gam EE := ⟨[⟨10, law_labelsBegun_h N⟩, ⟨17, law_textIs_h N⟩, ⟨14, ref_CheckLabels_h N⟩, ⟨12, ref_IsName_h N⟩, ⟨21, ref_ValueOf_h N⟩, ⟨20, labels_Get_h N⟩], EQT, [], []⟩
theorem w7Gok (N : Nat) : GOk Try.prog TT EE (w7G N) := GOk.cons (law_labelsBegun_hok N) (GOk.cons (law_textIs_hok N) (GOk.cons (ref_CheckLabels_hok N) (GOk.cons (ref_IsName_hok N) (GOk.cons (ref_ValueOf_hok N) (GOk.cons (labels_Get_hok N) (GOk.nil EQT_ok))))))
def w7kR5 (c : Code) : List It2 := atR 5 c
def w7sR5 (x0 : List VLabel) (x1 : List UInt8) (x5 : List UInt8) (x6 : Int) (x7 : Int) : TS EE.T := ⟨33, [(0, .a (.d (.sl (.nam 2)) x0)), (1, .a (.d .str x1)), (5, .a (.d .str x5)), (6, .a (.d (.int .i64) x6)), (7, .a (.d (.int .i64) x7))], [], []⟩
def w7kE0 (c : Code) : List It2 := [.c c]
def w7sE0 (x0 : List VLabel) (x1 : List UInt8) : TS EE.T := ⟨33, [(0, .a (.d (.sl (.nam 2)) x0)), (1, .a (.d .str x1))], [], []⟩
def w7TR5 (c : Code) (N : Nat) (n : Nat) (x0 : List VLabel) (x1 : List UInt8) (x5 : List UInt8) (x6 : Int) (x7 : Int) : Tree (Lf EE.T × Option Bool) :=
  .bnd (law_labelsBegun N) fun z4 =>
  .cond (z4)
  (
    .bnd (ref_ValueOf N x0 x1) fun z5 =>
    .bnd (law_textIs N x5 x6 x7 z5) fun z6 =>
    .leaf (.done (w7enc z6), some z6))
  (
    .leaf (.done (w7enc false), some false))
theorem w7vR5 (N : Nat) (n : Nat) (x0 : List VLabel) (x1 : List UInt8) (x5 : List UInt8) (x6 : Int) (x7 : Int) : evM TT EE (w7G N) w7lv w7rs 4000 true (w7kR5 (bodyOf 0 Try.f7)) (w7sR5 x0 x1 x5 x6 x7) = (w7TR5 (bodyOf 0 Try.f7) N n x0 x1 x5 x6 x7).map1 := by kernel_rfl
theorem w7nR5 (N : Nat) (n : Nat) (x0 : List VLabel) (x1 : List UInt8) (x5 : List UInt8) (x6 : Int) (x7 : Int) : law_LabelsGets_R5 N n x0 x1 x5 x6 x7 = (w7TR5 (bodyOf 0 Try.f7) N n x0 x1 x5 x6 x7).run := by kernel_rfl
theorem w7oR5 {N : Nat} {r : Bool} (n : Nat) (x0 : List VLabel) (x1 : List UInt8) (x5 : List UInt8) (x6 : Int) (x7 : Int) (h : law_LabelsGets_R5 N n x0 x1 x5 x6 x7 = some r) : Ends (Y := TT) EE (w7G N) w7lv w7rs (fun u => u = w7enc r) (w7kR5 (bodyOf 0 Try.f7)) (w7sR5 x0 x1 x5 x6 x7) :=
  tree_use (w7vR5 N n x0 x1 x5 x6 x7) (w7nR5 N n x0 x1 x5 x6 x7) h (show (w7TR5 (bodyOf 0 Try.f7) N n x0 x1 x5 x6 x7).all _ from fun _ => ⟨fun _ => fun _ => retp (enc := w7enc) rfl, retp (enc := w7enc) rfl⟩)
def w7TE0 (c : Code) (N : Nat) (x0 : List VLabel) (x1 : List UInt8) : Tree (Lf EE.T × Option Bool) :=
  .bnd (labels_Get N x0 x1) fun z1 =>
  .bnd (ref_CheckLabels N x0) fun z2 =>
  .cond (z2 == 0)
  (
    .bnd (ref_IsName N x1) fun z3 =>
    .cond (!z3)
    (
      .leaf (.go (w7kR5 c) (w7sR5 x0 x1 z1.1 z1.2 1), law_LabelsGets_R5 N N x0 x1 z1.1 z1.2 1))
    (
      .leaf (.go (w7kR5 c) (w7sR5 x0 x1 z1.1 z1.2 z2), law_LabelsGets_R5 N N x0 x1 z1.1 z1.2 z2)))
  (
    .leaf (.go (w7kR5 c) (w7sR5 x0 x1 z1.1 z1.2 z2), law_LabelsGets_R5 N N x0 x1 z1.1 z1.2 z2))
theorem w7vE0 (N : Nat) (x0 : List VLabel) (x1 : List UInt8) : evM TT EE (w7G N) w7lv w7rs 4000 true (w7kE0 (bodyOf 0 Try.f7)) (w7sE0 x0 x1) = (w7TE0 (bodyOf 0 Try.f7) N x0 x1).map1 := by kernel_rfl
theorem w7nE0 (N : Nat) (x0 : List VLabel) (x1 : List UInt8) : law_LabelsGets N x0 x1 = (w7TE0 (bodyOf 0 Try.f7) N x0 x1).run := by kernel_rfl
theorem w7oE0 {N : Nat} {r : Bool} (x0 : List VLabel) (x1 : List UInt8) (h : law_LabelsGets N x0 x1 = some r) : Ends (Y := TT) EE (w7G N) w7lv w7rs (fun u => u = w7enc r) (w7kE0 (bodyOf 0 Try.f7)) (w7sE0 x0 x1) :=
  tree_use (w7vE0 N x0 x1) (w7nE0 N x0 x1) h (show (w7TE0 (bodyOf 0 Try.f7) N x0 x1).all _ from fun _ => fun _ => ⟨fun _ => ⟨fun h => w7oR5 N _ _ _ _ _ h, fun h => w7oR5 N _ _ _ _ _ h⟩, fun h => w7oR5 N _ _ _ _ _ h⟩)
theorem law_LabelsGets_ok {N : Nat} (x0 : List VLabel) (x1 : List UInt8) {r : Bool} (h : law_LabelsGets N x0 x1 = some r) (ρ : Nat → Nat) : ACalls Try.prog 7 (([.a (.d (.sl (.nam 2)) x0), .a (.d .str x1)] : List (TV EE.T)).map (TV.to EE.toEnc ρ)) [] (fun out H => out = .ret ((law_LabelsGets_u r).to EE.toEnc ρ) ∧ H = []) :=
  (fn_ok (bodyOf 0 Try.f7) 33 mixed (w7Gok N) Try.func7 (by kernel_rfl) rfl rfl rfl rfl (w7oE0 x0 x1 h) ρ).mono fun out H h => KPost.ret rfl h
def law_LabelsGets_h (N : Nat) : List (TV EE.T) → PV EE.T
  | [u0, u1] => match argD (.sl (.nam 2)) u0, argD .str u1 with
    | some x0, some x1 => .opt (law_LabelsGets N x0 x1) law_LabelsGets_u
    | _, _ => .bad
  | _ => .bad
theorem law_LabelsGets_hok (N : Nat) (us : List (TV EE.T)) : (law_LabelsGets_h N us).ok fun u => ∀ ρ, ACalls Try.prog 7 (us.map (TV.to EE.toEnc ρ)) [] (fun out H => out = .ret (u.to EE.toEnc ρ) ∧ H = []) := by
  unfold law_LabelsGets_h
  split
  · split
    · rename_i h0 h1
      intro z hz ρ; refine acalls_le ?_ (law_LabelsGets_ok _ _ hz ρ); exact ⟨argD_le h0 ρ, argD_le h1 ρ, trivial⟩
    · trivial
  · trivial
/-! ### cmp.Or[int] -/
def cmp_Or_int__u (r : Int) : TV EE.T := .a (.d (.int .i64) r)
def w50enc (r : Int) : RL EE.T := .ret (cmp_Or_int__u r) []
def w50lv : Lvs := ⟨[], [(3, ⟨[(3, false), (6, false), (7, false), (8, false)], [], []⟩)], [], [], false, [], []⟩
def w50rs : List ResultVar := [.tmp 2]
def w50G (N : Nat) : Gam EE := ⟨[], EQT, [], []⟩
theorem w50Gok (N : Nat) : GOk Try.prog TT EE (w50G N) := GOk.nil EQT_ok
def w50kL3 (c : Code) : List It2 := atL 3 c
def w50sL3 (x3 : Int) (x6 : List Int) (x7 : Int) (x8 : Int) : TS EE.T := ⟨18, [(3, .a (.d (.int .i64) x3)), (6, .a (.d (.sl (.int .i64)) x6)), (7, .a (.d (.int .i64) x7)), (8, .a (.d (.int .i64) x8))], [], []⟩
def w50kE0 (c : Code) : List It2 := [.c c]
def w50sE0 (x0 : List Int) : TS EE.T := ⟨18, [(0, .a (.d (.sl (.int .i64)) x0))], [], []⟩
def w50TL3 (c : Code) (N : Nat) (n : Nat) (x3 : Int) (x6 : List Int) (x7 : Int) (x8 : Int) : Tree (Lf EE.T × Option Int) :=
  .cond (decide (x8 < x7))
  (
    .bnd (idxC x6 x8) fun z1 =>
    .cond (z1 != x3)
    (
      .leaf (.done (w50enc z1), some z1))
    (
      .leaf (.go (w50kL3 c) (w50sL3 x3 x6 x7 (w64 (x8 + 1))), cmp_Or_int__L3 N n x3 x6 x7 (w64 (x8 + 1)))))
  (
    .leaf (.done (w50enc x3), some x3))
theorem w50vL3 (N : Nat) (n : Nat) (x3 : Int) (x6 : List Int) (x7 : Int) (x8 : Int) : evM TT EE (w50G N) w50lv w50rs 4000 true (w50kL3 (bodyOf 0 Try.f50)) (w50sL3 x3 x6 x7 x8) = (w50TL3 (bodyOf 0 Try.f50) N n x3 x6 x7 x8).map1 := by kernel_rfl
theorem w50nL3 (N : Nat) (n : Nat) (x3 : Int) (x6 : List Int) (x7 : Int) (x8 : Int) : cmp_Or_int__L3 N (n + 1) x3 x6 x7 x8 = (w50TL3 (bodyOf 0 Try.f50) N n x3 x6 x7 x8).run := by kernel_rfl
theorem w50oL3 {N : Nat} {r : Int} : ∀ (n : Nat) (x3 : Int) (x6 : List Int) (x7 : Int) (x8 : Int), cmp_Or_int__L3 N n x3 x6 x7 x8 = some r → Ends (Y := TT) EE (w50G N) w50lv w50rs (fun u => u = w50enc r) (w50kL3 (bodyOf 0 Try.f50)) (w50sL3 x3 x6 x7 x8)
  | 0, _, _, _, _, h => by cases h
  | n + 1, x3, x6, x7, x8, h => tree_use (w50vL3 N n x3 x6 x7 x8) (w50nL3 N n x3 x6 x7 x8) h (show (w50TL3 (bodyOf 0 Try.f50) N n x3 x6 x7 x8).all _ from ⟨fun _ => ⟨retp (enc := w50enc) rfl, fun h => (w50oL3 n) _ _ _ _ h⟩, retp (enc := w50enc) rfl⟩)
def w50TE0 (c : Code) (N : Nat) (x0 : List Int) : Tree (Lf EE.T × Option Int) :=
  .leaf (.go (w50kL3 c) (w50sL3 0 x0 (x0.length : Int) 0), cmp_Or_int__L3 N N 0 x0 (x0.length : Int) 0)
theorem w50vE0 (N : Nat) (x0 : List Int) : evM TT EE (w50G N) w50lv w50rs 4000 true (w50kE0 (bodyOf 0 Try.f50)) (w50sE0 x0) = (w50TE0 (bodyOf 0 Try.f50) N x0).map1 := by kernel_rfl
theorem w50nE0 (N : Nat) (x0 : List Int) : cmp_Or_int_ N x0 = (w50TE0 (bodyOf 0 Try.f50) N x0).run := by kernel_rfl
theorem w50oE0 {N : Nat} {r : Int} (x0 : List Int) (h : cmp_Or_int_ N x0 = some r) : Ends (Y := TT) EE (w50G N) w50lv w50rs (fun u => u = w50enc r) (w50kE0 (bodyOf 0 Try.f50)) (w50sE0 x0) :=
  tree_use (w50vE0 N x0) (w50nE0 N x0) h (show (w50TE0 (bodyOf 0 Try.f50) N x0).all _ from fun h => w50oL3 N _ _ _ _ h)
theorem cmp_Or_int__ok {N : Nat} (x0 : List Int) {r : Int} (h : cmp_Or_int_ N x0 = some r) (ρ : Nat → Nat) : ACalls Try.prog 50 (([.a (.d (.sl (.int .i64)) x0)] : List (TV EE.T)).map (TV.to EE.toEnc ρ)) [] (fun out H => out = .ret ((cmp_Or_int__u r).to EE.toEnc ρ) ∧ H = []) :=
  (fn_ok (bodyOf 0 Try.f50) 18 mixed (w50Gok N) Try.func50 (by kernel_rfl) rfl rfl rfl rfl (w50oE0 x0 h) ρ).mono fun out H h => KPost.ret rfl h
def cmp_Or_int__h (N : Nat) : List (TV EE.T) → PV EE.T
  | [u0] => match argD (.sl (.int .i64)) u0 with
    | some x0 => .opt (cmp_Or_int_ N x0) cmp_Or_int__u
    | _ => .bad
  | _ => .bad
theorem cmp_Or_int__hok (N : Nat) (us : List (TV EE.T)) : (cmp_Or_int__h N us).ok fun u => ∀ ρ, ACalls Try.prog 50 (us.map (TV.to EE.toEnc ρ)) [] (fun out H => out = .ret (u.to EE.toEnc ρ) ∧ H = []) := by
  unfold cmp_Or_int__h
  split
  · split
    · rename_i h0
      intro z hz ρ; refine acalls_le ?_ (cmp_Or_int__ok _ hz ρ); exact ⟨argD_le h0 ρ, trivial⟩
    · trivial
  · trivial
/-! ### gleaner/labels.Order$1 -/
def labels_Order_1_u (r : Int) : TV EE.T := .a (.d (.int .i64) r)
def w49enc (r : Int) : RL EE.T := .ret (labels_Order_1_u r) []
def w49lv : Lvs := ⟨[(1, ⟨[(2, false), (3, false)], [], [(2, (some 2, [])), (3, (some 2, []))]⟩)], [], [], [], false, [], []⟩
def w49rs : List ResultVar := [.tmp 4]
def w49G (N : Nat) : Gam EE := ⟨[⟨40, cmp_Compare_string__h N⟩, ⟨50, cmp_Or_int__h N⟩], EQT, [], []⟩
theorem w49Gok (N : Nat) : GOk Try.prog TT EE (w49G N) := GOk.cons (cmp_Compare_string__hok N) (GOk.cons (cmp_Or_int__hok N) (GOk.nil EQT_ok))
def w49kE0 (c : Code) : List It2 := [.c c]
def w49sE0 (x0 : VLabel) (x1 : VLabel) : TS EE.T := ⟨17, [(0, .ag (unpT EE (.nam 2) x0)), (1, .ag (unpT EE (.nam 2) x1))], [], []⟩
def w49TE0 (c : Code) (N : Nat) (x0 : VLabel) (x1 : VLabel) : Tree (Lf EE.T × Option Int) :=
  .bnd (cmp_Compare_string_ N x0.Name x1.Name) fun z1 =>
  .bnd (cmp_Compare_string_ N x0.Value x1.Value) fun z2 =>
  .bnd (cmp_Or_int_ N ([z1, z2] : List Int)) fun z3 =>
  .leaf (.done (w49enc z3), some z3)
theorem w49vE0 (N : Nat) (x0 : VLabel) (x1 : VLabel) : evM TT EE (w49G N) w49lv w49rs 4000 true (w49kE0 (bodyOf 0 Try.f49)) (w49sE0 x0 x1) = (w49TE0 (bodyOf 0 Try.f49) N x0 x1).map1 := by kernel_rfl
theorem w49nE0 (N : Nat) (x0 : VLabel) (x1 : VLabel) : labels_Order_1 N x0 x1 = (w49TE0 (bodyOf 0 Try.f49) N x0 x1).run := by kernel_rfl
theorem w49oE0 {N : Nat} {r : Int} (x0 : VLabel) (x1 : VLabel) (h : labels_Order_1 N x0 x1 = some r) : Ends (Y := TT) EE (w49G N) w49lv w49rs (fun u => u = w49enc r) (w49kE0 (bodyOf 0 Try.f49)) (w49sE0 x0 x1) :=
  tree_use (w49vE0 N x0 x1) (w49nE0 N x0 x1) h (show (w49TE0 (bodyOf 0 Try.f49) N x0 x1).all _ from fun _ => fun _ => fun _ => retp (enc := w49enc) rfl)
theorem labels_Order_1_ok {N : Nat} (x0 : VLabel) (x1 : VLabel) {r : Int} (h : labels_Order_1 N x0 x1 = some r) (ρ : Nat → Nat) : ACalls Try.prog 49 (([.ag (unpT EE (.nam 2) x0), .ag (unpT EE (.nam 2) x1)] : List (TV EE.T)).map (TV.to EE.toEnc ρ)) [] (fun out H => out = .ret ((labels_Order_1_u r).to EE.toEnc ρ) ∧ H = []) :=
  (fn_ok (bodyOf 0 Try.f49) 17 mixed (w49Gok N) Try.func49 (by kernel_rfl) rfl rfl rfl rfl (w49oE0 x0 x1 h) ρ).mono fun out H h => KPost.ret rfl h
def labels_Order_1_h (N : Nat) : List (TV EE.T) → PV EE.T
  | [u0, u1] => match argS EE 2 u0, argS EE 2 u1 with
    | some x0, some x1 => .opt (labels_Order_1 N x0 x1) labels_Order_1_u
    | _, _ => .bad
  | _ => .bad
theorem labels_Order_1_hok (N : Nat) (us : List (TV EE.T)) : (labels_Order_1_h N us).ok fun u => ∀ ρ, ACalls Try.prog 49 (us.map (TV.to EE.toEnc ρ)) [] (fun out H => out = .ret (u.to EE.toEnc ρ) ∧ H = []) := by
  unfold labels_Order_1_h
  split
  · split
    · rename_i h0 h1
      intro z hz ρ; refine acalls_le ?_ (labels_Order_1_ok _ _ hz ρ); exact ⟨argS_le h0 ρ, argS_le h1 ρ, trivial⟩
    · trivial
  · trivial
/-! ### slices.CompareFunc[[]gleaner/api.Label,[]gleaner/api.Label,gleaner/api.Label,gleaner/api.Label] -/
def slices_CompareFunc_api_Label_api_Label_api_Label_api_Label__i0_u (r : Int) : TV EE.T := .a (.d (.int .i64) r)
def w48i0hh (r : Int) : List (Nat × TB EE.T) := []
def w48i0enc (r : Int) : RL EE.T := .ret (slices_CompareFunc_api_Label_api_Label_api_Label_api_Label__i0_u r) (w48i0hh r)
def w48i0lv : Lvs := ⟨[], [(2, ⟨[(0, false), (1, false), (2, false), (11, false), (12, false), (13, false)], [], []⟩)], [], [], false, [], []⟩
def w48i0rs : List ResultVar := [.tmp 6]
def w48i0G (N : Nat) : Gam EE := ⟨[], EQT, [⟨49, xOf (labels_Order_1_h N)⟩], []⟩
theorem w48i0Gok (N : Nat) : GOk Try.prog TT EE (w48i0G N) := GOk.consx (xOf_ok (labels_Order_1_hok N)) (GOk.nil EQT_ok)
def w48i0kL2 (c : Code) : List It2 := atL 2 c
def w48i0sL2 (x0 : List VLabel) (x1 : List VLabel) (x11 : List VLabel) (x12 : Int) (x13 : Int) : TS EE.T := ⟨39, [(0, .a (.d (.sl (.nam 2)) x0)), (1, .a (.d (.sl (.nam 2)) x1)), (2, .fn 49 []), (11, .a (.d (.sl (.nam 2)) x11)), (12, .a (.d (.int .i64) x12)), (13, .a (.d (.int .i64) x13))], [], []⟩
def w48i0kE0 (c : Code) : List It2 := [.c c]
def w48i0sE0 (x0 : List VLabel) (x1 : List VLabel) : TS EE.T := ⟨39, [(0, .a (.d (.sl (.nam 2)) x0)), (1, .a (.d (.sl (.nam 2)) x1)), (2, .fn 49 [])], [], []⟩
def w48i0TL2 (c : Code) (N : Nat) (n : Nat) (x0 : List VLabel) (x1 : List VLabel) (x11 : List VLabel) (x12 : Int) (x13 : Int) : Tree (Lf EE.T × Option Int) :=
  .cond (decide (x13 < x12))
  (
    .bnd (idxC x11 x13) fun z1 =>
    .cond (decide (x13 ≥ (x1.length : Int)))
    (
      .leaf (.done (w48i0enc 1), some 1))
    (
      .bnd (idxC x1 x13) fun z2 =>
      .bnd (labels_Order_1 N z1 z2) fun z3 =>
      .cond (z3 != 0)
      (
        .leaf (.done (w48i0enc z3), some z3))
      (
        .leaf (.go (w48i0kL2 c) (w48i0sL2 x0 x1 x11 x12 (w64 (x13 + 1))), slices_CompareFunc_api_Label_api_Label_api_Label_api_Label__i0_L2 N n x0 x1 x11 x12 (w64 (x13 + 1))))))
  (
    .cond (decide ((x0.length : Int) < (x1.length : Int)))
    (
      .leaf (.done (w48i0enc (-1)), some (-1)))
    (
      .leaf (.done (w48i0enc 0), some 0)))
theorem w48i0vL2 (N : Nat) (n : Nat) (x0 : List VLabel) (x1 : List VLabel) (x11 : List VLabel) (x12 : Int) (x13 : Int) : evM TT EE (w48i0G N) w48i0lv w48i0rs 4000 true (w48i0kL2 (bodyOf 0 Try.f48)) (w48i0sL2 x0 x1 x11 x12 x13) = (w48i0TL2 (bodyOf 0 Try.f48) N n x0 x1 x11 x12 x13).map1 := by kernel_rfl
theorem w48i0nL2 (N : Nat) (n : Nat) (x0 : List VLabel) (x1 : List VLabel) (x11 : List VLabel) (x12 : Int) (x13 : Int) : slices_CompareFunc_api_Label_api_Label_api_Label_api_Label__i0_L2 N (n + 1) x0 x1 x11 x12 x13 = (w48i0TL2 (bodyOf 0 Try.f48) N n x0 x1 x11 x12 x13).run := by kernel_rfl
theorem w48i0oL2 {N : Nat} {r : Int} : ∀ (n : Nat) (x0 : List VLabel) (x1 : List VLabel) (x11 : List VLabel) (x12 : Int) (x13 : Int), slices_CompareFunc_api_Label_api_Label_api_Label_api_Label__i0_L2 N n x0 x1 x11 x12 x13 = some r → Ends (Y := TT) EE (w48i0G N) w48i0lv w48i0rs (fun u => u = w48i0enc r) (w48i0kL2 (bodyOf 0 Try.f48)) (w48i0sL2 x0 x1 x11 x12 x13)
  | 0, _, _, _, _, _, h => by cases h
  | n + 1, x0, x1, x11, x12, x13, h => tree_use (w48i0vL2 N n x0 x1 x11 x12 x13) (w48i0nL2 N n x0 x1 x11 x12 x13) h (show (w48i0TL2 (bodyOf 0 Try.f48) N n x0 x1 x11 x12 x13).all _ from ⟨fun _ => ⟨retp (enc := w48i0enc) rfl, fun _ => fun _ => ⟨retp (enc := w48i0enc) rfl, fun h => (w48i0oL2 n) _ _ _ _ _ h⟩⟩, ⟨retp (enc := w48i0enc) rfl, retp (enc := w48i0enc) rfl⟩⟩)
def w48i0TE0 (c : Code) (N : Nat) (x0 : List VLabel) (x1 : List VLabel) : Tree (Lf EE.T × Option Int) :=
  .leaf (.go (w48i0kL2 c) (w48i0sL2 x0 x1 x0 (x0.length : Int) 0), slices_CompareFunc_api_Label_api_Label_api_Label_api_Label__i0_L2 N N x0 x1 x0 (x0.length : Int) 0)
theorem w48i0vE0 (N : Nat) (x0 : List VLabel) (x1 : List VLabel) : evM TT EE (w48i0G N) w48i0lv w48i0rs 4000 true (w48i0kE0 (bodyOf 0 Try.f48)) (w48i0sE0 x0 x1) = (w48i0TE0 (bodyOf 0 Try.f48) N x0 x1).map1 := by kernel_rfl
theorem w48i0nE0 (N : Nat) (x0 : List VLabel) (x1 : List VLabel) : slices_CompareFunc_api_Label_api_Label_api_Label_api_Label__i0 N x0 x1 = (w48i0TE0 (bodyOf 0 Try.f48) N x0 x1).run := by kernel_rfl
theorem w48i0oE0 {N : Nat} {r : Int} (x0 : List VLabel) (x1 : List VLabel) (h : slices_CompareFunc_api_Label_api_Label_api_Label_api_Label__i0 N x0 x1 = some r) : Ends (Y := TT) EE (w48i0G N) w48i0lv w48i0rs (fun u => u = w48i0enc r) (w48i0kE0 (bodyOf 0 Try.f48)) (w48i0sE0 x0 x1) :=
  tree_use (w48i0vE0 N x0 x1) (w48i0nE0 N x0 x1) h (show (w48i0TE0 (bodyOf 0 Try.f48) N x0 x1).all _ from fun h => w48i0oL2 N _ _ _ _ _ h)
def w48i0us (x0 : List VLabel) (x1 : List VLabel) : List (TV EE.T) := [.a (.d (.sl (.nam 2)) x0), .a (.d (.sl (.nam 2)) x1), .fn 49 []]
def w48i0h0 (x0 : List VLabel) (x1 : List VLabel) : List (Nat × TB EE.T) := []
theorem slices_CompareFunc_api_Label_api_Label_api_Label_api_Label__i0_ok {N : Nat} (x0 : List VLabel) (x1 : List VLabel) {r : Int} (h : slices_CompareFunc_api_Label_api_Label_api_Label_api_Label__i0 N x0 x1 = some r) (ρ : Nat → Nat) (hi : Inj ρ (w48i0h0 x0 x1)) : ACalls Try.prog 48 ((w48i0us x0 x1).map (TV.to EE.toEnc ρ)) (hTo EE.toEnc ρ (w48i0h0 x0 x1)) (fun out H => out = .ret ((slices_CompareFunc_api_Label_api_Label_api_Label_api_Label__i0_u r).to EE.toEnc ρ) ∧ H = hTo EE.toEnc ρ (w48i0hh r)) :=
  (fn_okH (bodyOf 0 Try.f48) 39 mixed (w48i0Gok N) Try.func48 (by kernel_rfl) rfl rfl rfl rfl (w48i0oE0 x0 x1 h) ρ hi).mono fun out H h => KPost.retH rfl rfl h
def slices_CompareFunc_api_Label_api_Label_api_Label_api_Label__i0_h (N : Nat) (us : List (TV EE.T)) (hs : List (Nat × TB EE.T)) : XR EE.T :=
  gdX (lenX us 3) <|
  bnX (aD (.sl (.nam 2)) us 0) fun x0 =>
  bnX (aD (.sl (.nam 2)) us 1) fun x1 =>
  bnX (aF 49 us 2) fun c2 =>
  bnX (cbs c2) fun s2 =>
  gdX (lenX s2 0) <|
  gdX (goodIds hs []) <|
  .ret (slices_CompareFunc_api_Label_api_Label_api_Label_api_Label__i0 N x0 x1) [] slices_CompareFunc_api_Label_api_Label_api_Label_api_Label__i0_u (w48i0hh)
theorem slices_CompareFunc_api_Label_api_Label_api_Label_api_Label__i0_hok (N : Nat) : XOk Try.prog EE 48 (slices_CompareFunc_api_Label_api_Label_api_Label_api_Label__i0_h N) := fun us hs =>
  gdX_ok fun h1 => bnX_ok fun x0 h2 => bnX_ok fun x1 h3 => bnX_ok fun c2 h4 => bnX_ok fun s2 h5 => gdX_ok fun h6 => gdX_ok fun h7 => fun z hz => ⟨rfl, fun ρ hi => xcall (us' := w48i0us x0 x1) (h0 := w48i0h0 x0 x1) (ρ' := rhoS ρ []) ⟨aD_le h2, aD_le h3, aF_le (js := []) h4 h5 (by rw [lis0 (lenX_ok h6)];  kernel_rfl), lenX_ok h1⟩ trivial (slices_CompareFunc_api_Label_api_Label_api_Label_api_Label__i0_ok x0 x1 hz _ (rhoS_inj hi h7 _ (by kernel_rfl))) (fun out H h => ⟨h.1.trans (by kernel_rfl), h.2.trans (by kernel_rfl)⟩)⟩
/-! ### gleaner/labels.Order -/
def labels_Order_u (r : Int) : TV EE.T := .a (.d (.int .i64) r)
def w39enc (r : Int) : RL EE.T := .ret (labels_Order_u r) []
def w39lv : Lvs := ⟨[], [], [], [], false, [], []⟩
def w39rs : List ResultVar := [.tmp 4]
def w39G (N : Nat) : Gam EE := ⟨[], EQT, [⟨48, slices_CompareFunc_api_Label_api_Label_api_Label_api_Label__i0_h N⟩], []⟩
theorem w39Gok (N : Nat) : GOk Try.prog TT EE (w39G N) := GOk.consx (slices_CompareFunc_api_Label_api_Label_api_Label_api_Label__i0_hok N) (GOk.nil EQT_ok)
def w39kE0 (c : Code) : List It2 := [.c c]
def w39sE0 (x0 : List VLabel) (x1 : List VLabel) : TS EE.T := ⟨8, [(0, .a (.d (.sl (.nam 2)) x0)), (1, .a (.d (.sl (.nam 2)) x1))], [], []⟩
def w39TE0 (c : Code) (N : Nat) (x0 : List VLabel) (x1 : List VLabel) : Tree (Lf EE.T × Option Int) :=
  .bnd (slices_CompareFunc_api_Label_api_Label_api_Label_api_Label__i0 N x0 x1) fun z1 =>
  .leaf (.done (w39enc z1), some z1)
theorem w39vE0 (N : Nat) (x0 : List VLabel) (x1 : List VLabel) : evM TT EE (w39G N) w39lv w39rs 4000 true (w39kE0 (bodyOf 0 Try.f39)) (w39sE0 x0 x1) = (w39TE0 (bodyOf 0 Try.f39) N x0 x1).map1 := by kernel_rfl
theorem w39nE0 (N : Nat) (x0 : List VLabel) (x1 : List VLabel) : labels_Order N x0 x1 = (w39TE0 (bodyOf 0 Try.f39) N x0 x1).run := by kernel_rfl
theorem w39oE0 {N : Nat} {r : Int} (x0 : List VLabel) (x1 : List VLabel) (h : labels_Order N x0 x1 = some r) : Ends (Y := TT) EE (w39G N) w39lv w39rs (fun u => u = w39enc r) (w39kE0 (bodyOf 0 Try.f39)) (w39sE0 x0 x1) :=
  tree_use (w39vE0 N x0 x1) (w39nE0 N x0 x1) h (show (w39TE0 (bodyOf 0 Try.f39) N x0 x1).all _ from fun _ => retp (enc := w39enc) rfl)
theorem labels_Order_ok {N : Nat} (x0 : List VLabel) (x1 : List VLabel) {r : Int} (h : labels_Order N x0 x1 = some r) (ρ : Nat → Nat) : ACalls Try.prog 39 (([.a (.d (.sl (.nam 2)) x0), .a (.d (.sl (.nam 2)) x1)] : List (TV EE.T)).map (TV.to EE.toEnc ρ)) [] (fun out H => out = .ret ((labels_Order_u r).to EE.toEnc ρ) ∧ H = []) :=
  (fn_ok (bodyOf 0 Try.f39) 8 mixed (w39Gok N) Try.func39 (by kernel_rfl) rfl rfl rfl rfl (w39oE0 x0 x1 h) ρ).mono fun out H h => KPost.ret rfl h
def labels_Order_h (N : Nat) : List (TV EE.T) → PV EE.T
  | [u0, u1] => match argD (.sl (.nam 2)) u0, argD (.sl (.nam 2)) u1 with
    | some x0, some x1 => .opt (labels_Order N x0 x1) labels_Order_u
    | _, _ => .bad
  | _ => .bad
theorem labels_Order_hok (N : Nat) (us : List (TV EE.T)) : (labels_Order_h N us).ok fun u => ∀ ρ, ACalls Try.prog 39 (us.map (TV.to EE.toEnc ρ)) [] (fun out H => out = .ret (u.to EE.toEnc ρ) ∧ H = []) := by
  unfold labels_Order_h
  split
  · split
    · rename_i h0 h1
      intro z hz ρ; refine acalls_le ?_ (labels_Order_ok _ _ hz ρ); exact ⟨argD_le h0 ρ, argD_le h1 ρ, trivial⟩
    · trivial
  · trivial
/-! ### gleaner/labels.Compare -/
def labels_Compare_u (r : Int × Int) : TV EE.T := .tu [.a (.d (.int .i64) r.1), .a (.d (.int .i64) r.2)]
def w22enc (r : Int × Int) : RL EE.T := .ret (labels_Compare_u r) []
def w22lv : Lvs := ⟨[], [], [], [], false, [], []⟩
def w22rs : List ResultVar := [.tmp 4, .tmp 5]
def w22G (N : Nat) : Gam EE := ⟨[⟨39, labels_Order_h N⟩, ⟨30, labels_check_h N⟩], EQT, [], []⟩
theorem w22Gok (N : Nat) : GOk Try.prog TT EE (w22G N) := GOk.cons (labels_Order_hok N) (GOk.cons (labels_check_hok N) (GOk.nil EQT_ok))
def w22kE0 (c : Code) : List It2 := [.c c]
def w22sE0 (x0 : List VLabel) (x1 : List VLabel) : TS EE.T := ⟨17, [(0, .a (.d (.sl (.nam 2)) x0)), (1, .a (.d (.sl (.nam 2)) x1))], [], []⟩
def w22TE0 (c : Code) (N : Nat) (x0 : List VLabel) (x1 : List VLabel) : Tree (Lf EE.T × Option (Int × Int)) :=
  .bnd (labels_check N ([x0, x1] : List (List VLabel))) fun z1 =>
  .cond (z1 != 0)
  (
    .leaf (.done (w22enc (0, z1)), some (0, z1)))
  (
    .bnd (labels_Order N x0 x1) fun z2 =>
    .leaf (.done (w22enc (z2, 0)), some (z2, 0)))
theorem w22vE0 (N : Nat) (x0 : List VLabel) (x1 : List VLabel) : evM TT EE (w22G N) w22lv w22rs 4000 true (w22kE0 (bodyOf 0 Try.f22)) (w22sE0 x0 x1) = (w22TE0 (bodyOf 0 Try.f22) N x0 x1).map1 := by kernel_rfl
theorem w22nE0 (N : Nat) (x0 : List VLabel) (x1 : List VLabel) : labels_Compare N x0 x1 = (w22TE0 (bodyOf 0 Try.f22) N x0 x1).run := by kernel_rfl
theorem w22oE0 {N : Nat} {r : Int × Int} (x0 : List VLabel) (x1 : List VLabel) (h : labels_Compare N x0 x1 = some r) : Ends (Y := TT) EE (w22G N) w22lv w22rs (fun u => u = w22enc r) (w22kE0 (bodyOf 0 Try.f22)) (w22sE0 x0 x1) :=
  tree_use (w22vE0 N x0 x1) (w22nE0 N x0 x1) h (show (w22TE0 (bodyOf 0 Try.f22) N x0 x1).all _ from fun _ => ⟨retp (enc := w22enc) rfl, fun _ => retp (enc := w22enc) rfl⟩)
theorem labels_Compare_ok {N : Nat} (x0 : List VLabel) (x1 : List VLabel) {r : Int × Int} (h : labels_Compare N x0 x1 = some r) (ρ : Nat → Nat) : ACalls Try.prog 22 (([.a (.d (.sl (.nam 2)) x0), .a (.d (.sl (.nam 2)) x1)] : List (TV EE.T)).map (TV.to EE.toEnc ρ)) [] (fun out H => out = .ret ((labels_Compare_u r).to EE.toEnc ρ) ∧ H = []) :=
  (fn_ok (bodyOf 0 Try.f22) 17 mixed (w22Gok N) Try.func22 (by kernel_rfl) rfl rfl rfl rfl (w22oE0 x0 x1 h) ρ).mono fun out H h => KPost.ret rfl h
def labels_Compare_h (N : Nat) : List (TV EE.T) → PV EE.T
  | [u0, u1] => match argD (.sl (.nam 2)) u0, argD (.sl (.nam 2)) u1 with
    | some x0, some x1 => .opt (labels_Compare N x0 x1) labels_Compare_u
    | _, _ => .bad
  | _ => .bad
theorem labels_Compare_hok (N : Nat) (us : List (TV EE.T)) : (labels_Compare_h N us).ok fun u => ∀ ρ, ACalls Try.prog 22 (us.map (TV.to EE.toEnc ρ)) [] (fun out H => out = .ret (u.to EE.toEnc ρ) ∧ H = []) := by
  unfold labels_Compare_h
  split
  · split
    · rename_i h0 h1
      intro z hz ρ; refine acalls_le ?_ (labels_Compare_ok _ _ hz ρ); exact ⟨argD_le h0 ρ, argD_le h1 ρ, trivial⟩
    · trivial
  · trivial
/-! ### gleaner/gleanerlaw.LabelsOrder -/
def law_LabelsOrder_u (r : Bool) : TV EE.T := .a (.d .bool r)
def w9enc (r : Bool) : RL EE.T := .ret (law_LabelsOrder_u r) []
def w9lv : Lvs := ⟨[], [], [], [], false, [], []⟩
def w9rs : List ResultVar := [.tmp 6]
def w9G (N : Nat) : Gam EE := ⟨[⟨10, law_labelsBegun_h N⟩, ⟨22, labels_Compare_h N⟩], EQT, [], []⟩
theorem w9Gok (N : Nat) : GOk Try.prog TT EE (w9G N) := GOk.cons (law_labelsBegun_hok N) (GOk.cons (labels_Compare_hok N) (GOk.nil EQT_ok))
def w9kE0 (c : Code) : List It2 := [.c c]
def w9sE0 (x0 : List VLabel) (x1 : List VLabel) (x2 : List VLabel) : TS EE.T := ⟨67, [(0, .a (.d (.sl (.nam 2)) x0)), (1, .a (.d (.sl (.nam 2)) x1)), (2, .a (.d (.sl (.nam 2)) x2))], [], []⟩
def w9TE0 (c : Code) (N : Nat) (x0 : List VLabel) (x1 : List VLabel) (x2 : List VLabel) : Tree (Lf EE.T × Option Bool) :=
  .bnd (law_labelsBegun N) fun z1 =>
  .cond (!z1)
  (
    .leaf (.done (w9enc false), some false))
  (
    .bnd (labels_Compare N x0 x1) fun z2 =>
    .bnd (labels_Compare N x1 x2) fun z3 =>
    .bnd (labels_Compare N x0 x2) fun z4 =>
    .cond (z2.2 != 0)
    (
      .leaf (.done (w9enc true), some true))
    (
      .cond (z3.2 != 0)
      (
        .leaf (.done (w9enc true), some true))
      (
        .cond (z4.2 != 0)
        (
          .leaf (.done (w9enc true), some true))
        (
          .cond (decide (z2.1 > 0))
          (
            .leaf (.done (w9enc true), some true))
          (
            .cond (decide (z3.1 > 0))
            (
              .leaf (.done (w9enc true), some true))
            (
              .cond (decide (z4.1 ≤ 0))
              (
                .cond (decide (z4.1 < 0))
                (
                  .leaf (.done (w9enc true), some true))
                (
                  .cond (z2.1 == 0)
                  (
                    .leaf (.done (w9enc (z3.1 == 0)), some (z3.1 == 0)))
                  (
                    .leaf (.done (w9enc false), some false))))
              (
                .leaf (.done (w9enc false), some false))))))))
theorem w9vE0 (N : Nat) (x0 : List VLabel) (x1 : List VLabel) (x2 : List VLabel) : evM TT EE (w9G N) w9lv w9rs 4000 true (w9kE0 (bodyOf 0 Try.f9)) (w9sE0 x0 x1 x2) = (w9TE0 (bodyOf 0 Try.f9) N x0 x1 x2).map1 := by kernel_rfl
theorem w9nE0 (N : Nat) (x0 : List VLabel) (x1 : List VLabel) (x2 : List VLabel) : law_LabelsOrder N x0 x1 x2 = (w9TE0 (bodyOf 0 Try.f9) N x0 x1 x2).run := by kernel_rfl
theorem w9oE0 {N : Nat} {r : Bool} (x0 : List VLabel) (x1 : List VLabel) (x2 : List VLabel) (h : law_LabelsOrder N x0 x1 x2 = some r) : Ends (Y := TT) EE (w9G N) w9lv w9rs (fun u => u = w9enc r) (w9kE0 (bodyOf 0 Try.f9)) (w9sE0 x0 x1 x2) :=
  tree_use (w9vE0 N x0 x1 x2) (w9nE0 N x0 x1 x2) h (show (w9TE0 (bodyOf 0 Try.f9) N x0 x1 x2).all _ from fun _ => ⟨retp (enc := w9enc) rfl, fun _ => fun _ => fun _ => ⟨retp (enc := w9enc) rfl, ⟨retp (enc := w9enc) rfl, ⟨retp (enc := w9enc) rfl, ⟨retp (enc := w9enc) rfl, ⟨retp (enc := w9enc) rfl, ⟨⟨retp (enc := w9enc) rfl, ⟨retp (enc := w9enc) rfl, retp (enc := w9enc) rfl⟩⟩, retp (enc := w9enc) rfl⟩⟩⟩⟩⟩⟩⟩)
theorem law_LabelsOrder_ok {N : Nat} (x0 : List VLabel) (x1 : List VLabel) (x2 : List VLabel) {r : Bool} (h : law_LabelsOrder N x0 x1 x2 = some r) (ρ : Nat → Nat) : ACalls Try.prog 9 (([.a (.d (.sl (.nam 2)) x0), .a (.d (.sl (.nam 2)) x1), .a (.d (.sl (.nam 2)) x2)] : List (TV EE.T)).map (TV.to EE.toEnc ρ)) [] (fun out H => out = .ret ((law_LabelsOrder_u r).to EE.toEnc ρ) ∧ H = []) :=
  (fn_ok (bodyOf 0 Try.f9) 67 mixed (w9Gok N) Try.func9 (by kernel_rfl) rfl rfl rfl rfl (w9oE0 x0 x1 x2 h) ρ).mono fun out H h => KPost.ret rfl h
def law_LabelsOrder_h (N : Nat) : List (TV EE.T) → PV EE.T
  | [u0, u1, u2] => match argD (.sl (.nam 2)) u0, argD (.sl (.nam 2)) u1, argD (.sl (.nam 2)) u2 with
    | some x0, some x1, some x2 => .opt (law_LabelsOrder N x0 x1 x2) law_LabelsOrder_u
    | _, _, _ => .bad
  | _ => .bad
theorem law_LabelsOrder_hok (N : Nat) (us : List (TV EE.T)) : (law_LabelsOrder_h N us).ok fun u => ∀ ρ, ACalls Try.prog 9 (us.map (TV.to EE.toEnc ρ)) [] (fun out H => out = .ret (u.to EE.toEnc ρ) ∧ H = []) := by
  unfold law_LabelsOrder_h
  split
  · split
    · rename_i h0 h1 h2
      intro z hz ρ; refine acalls_le ?_ (law_LabelsOrder_ok _ _ _ hz ρ); exact ⟨argD_le h0 ρ, argD_le h1 ρ, argD_le h2 ρ, trivial⟩
    · trivial
  · trivial
end Go.Proofs.Ytbpgpfigndlohaa
