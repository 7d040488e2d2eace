-- slim: written by gen/slim.py from XFR02.r.lean.tpl
/- The walks that prove plain functions right, written by gen/tgl.py. -/
import Derived.Test.YtgmbgbalcndohaaFR02p
import Derived.Test.YtgmbgbalcndohaaFR01
namespace Go.Proofs.Ytgmbgbalcndohaa
open Go.RowKit P
set_option linter.unusedVariables false
set_option linter.unusedSimpArgs false
set_option maxRecDepth 100000
/-! ### gleaner/gleanerref.UnpackRecord -/
/-! ### gleaner/gleanerref.SameLabels -/
def ref_SameLabels_u (r : Bool) : TV EE.T := .a (.d .bool r)
def w43enc (r : Bool) : RL EE.T := .ret (ref_SameLabels_u r) []
def w43lv : Lvs := ⟨[(6, ⟨[(0, false), (1, false), (5, false)], [], []⟩)], [(4, ⟨[(0, false), (1, false), (5, false)], [], []⟩)], [], [], false, [], []⟩
def w43rs : List ResultVar := [.tmp 4]
def w43G (N : Nat) : Gam EE := ⟨[], EQT, [], []⟩
theorem w43Gok (N : Nat) : GOk Try.prog TT EE (w43G N) := GOk.nil EQT_ok
def w43kL4 (c : Code) : List It2 := atL 4 c
def w43sL4 (x0 : List VLabel) (x1 : List VLabel) (x5 : Int) : TS EE.T := ⟨26, [(0, .a (.d (.sl (.nam 2)) x0)), (1, .a (.d (.sl (.nam 2)) x1)), (5, .a (.d (.int .i64) x5))], [], []⟩
def w43kE0 (c : Code) : List It2 := [.c c]
def w43sE0 (x0 : List VLabel) (x1 : List VLabel) : TS EE.T := ⟨26, [(0, .a (.d (.sl (.nam 2)) x0)), (1, .a (.d (.sl (.nam 2)) x1))], [], []⟩
def w43TL4 (c : Code) (N : Nat) (n : Nat) (x0 : List VLabel) (x1 : List VLabel) (x5 : Int) : Tree (Lf EE.T × Option Bool) :=
  .cond (decide (x5 < (x0.length : Int)))
  (
    .bnd (idxC x0 x5) fun z1 =>
    .bnd (idxC x1 x5) fun z2 =>
    .cond (!(beqS z1.Name z2.Name && (beqS z1.Value z2.Value && true)))
    (
      .leaf (.done (w43enc false), some false))
    (
      .leaf (.go (w43kL4 c) (w43sL4 x0 x1 (w64 (x5 + 1))), ref_SameLabels_L4 N n x0 x1 (w64 (x5 + 1)))))
  (
    .leaf (.done (w43enc true), some true))
theorem w43vL4 (N : Nat) (n : Nat) (x0 : List VLabel) (x1 : List VLabel) (x5 : Int) : evM TT EE (w43G N) w43lv w43rs 4000 true (w43kL4 (bodyOf 0 Try.f43)) (w43sL4 x0 x1 x5) = (w43TL4 (bodyOf 0 Try.f43) N n x0 x1 x5).map1 := by kernel_rfl
theorem w43nL4 (N : Nat) (n : Nat) (x0 : List VLabel) (x1 : List VLabel) (x5 : Int) : ref_SameLabels_L4 N (n + 1) x0 x1 x5 = (w43TL4 (bodyOf 0 Try.f43) N n x0 x1 x5).run := by kernel_rfl
theorem w43oL4 {N : Nat} {r : Bool} : ∀ (n : Nat) (x0 : List VLabel) (x1 : List VLabel) (x5 : Int), ref_SameLabels_L4 N n x0 x1 x5 = some r → Ends (Y := TT) EE (w43G N) w43lv w43rs (fun u => u = w43enc r) (w43kL4 (bodyOf 0 Try.f43)) (w43sL4 x0 x1 x5)
  | 0, _, _, _, h => by cases h
  | n + 1, x0, x1, x5, h => tree_use (w43vL4 N n x0 x1 x5) (w43nL4 N n x0 x1 x5) h (show (w43TL4 (bodyOf 0 Try.f43) N n x0 x1 x5).all _ from ⟨fun _ => fun _ => ⟨retp (enc := w43enc) rfl, fun h => (w43oL4 n) _ _ _ h⟩, retp (enc := w43enc) rfl⟩)
def w43TE0 (c : Code) (N : Nat) (x0 : List VLabel) (x1 : List VLabel) : Tree (Lf EE.T × Option Bool) :=
  .cond ((x0.length : Int) != (x1.length : Int))
  (
    .leaf (.done (w43enc false), some false))
  (
    .leaf (.go (w43kL4 c) (w43sL4 x0 x1 0), ref_SameLabels_L4 N N x0 x1 0))
theorem w43vE0 (N : Nat) (x0 : List VLabel) (x1 : List VLabel) : evM TT EE (w43G N) w43lv w43rs 4000 true (w43kE0 (bodyOf 0 Try.f43)) (w43sE0 x0 x1) = (w43TE0 (bodyOf 0 Try.f43) N x0 x1).map1 := by kernel_rfl
theorem w43nE0 (N : Nat) (x0 : List VLabel) (x1 : List VLabel) : ref_SameLabels N x0 x1 = (w43TE0 (bodyOf 0 Try.f43) N x0 x1).run := by kernel_rfl
theorem w43oE0 {N : Nat} {r : Bool} (x0 : List VLabel) (x1 : List VLabel) (h : ref_SameLabels N x0 x1 = some r) : Ends (Y := TT) EE (w43G N) w43lv w43rs (fun u => u = w43enc r) (w43kE0 (bodyOf 0 Try.f43)) (w43sE0 x0 x1) :=
  tree_use (w43vE0 N x0 x1) (w43nE0 N x0 x1) h (show (w43TE0 (bodyOf 0 Try.f43) N x0 x1).all _ from ⟨retp (enc := w43enc) rfl, fun h => w43oL4 N _ _ _ h⟩)
theorem ref_SameLabels_ok {N : Nat} (x0 : List VLabel) (x1 : List VLabel) {r : Bool} (h : ref_SameLabels N x0 x1 = some r) (ρ : Nat → Nat) : ACalls Try.prog 43 (([.a (.d (.sl (.nam 2)) x0), .a (.d (.sl (.nam 2)) x1)] : List (TV EE.T)).map (TV.to EE.toEnc ρ)) [] (fun out H => out = .ret ((ref_SameLabels_u r).to EE.toEnc ρ) ∧ H = []) :=
  (fn_ok (bodyOf 0 Try.f43) 26 mixed (w43Gok N) Try.func43 (by kernel_rfl) rfl rfl rfl rfl (w43oE0 x0 x1 h) ρ).mono fun out H h => KPost.ret rfl h
def ref_SameLabels_h (N : Nat) : List (TV EE.T) → PV EE.T
  | [u0, u1] => match argD (.sl (.nam 2)) u0, argD (.sl (.nam 2)) u1 with
    | some x0, some x1 => .opt (ref_SameLabels N x0 x1) ref_SameLabels_u
    | _, _ => .bad
  | _ => .bad
theorem ref_SameLabels_hok (N : Nat) (us : List (TV EE.T)) : (ref_SameLabels_h N us).ok fun u => ∀ ρ, ACalls Try.prog 43 (us.map (TV.to EE.toEnc ρ)) [] (fun out H => out = .ret (u.to EE.toEnc ρ) ∧ H = []) := by
  unfold ref_SameLabels_h
  split
  · split
    · rename_i h0 h1
      intro z hz ρ; refine acalls_le ?_ (ref_SameLabels_ok _ _ hz ρ); exact ⟨argD_le h0 ρ, argD_le h1 ρ, trivial⟩
    · trivial
  · trivial
/-! ### gleaner/gleanerref.SameRefs -/
def ref_SameRefs_u (r : Bool) : TV EE.T := .a (.d .bool r)
def w28enc (r : Bool) : RL EE.T := .ret (ref_SameRefs_u r) []
def w28lv : Lvs := ⟨[(6, ⟨[(0, false), (1, false), (5, false)], [], []⟩)], [(4, ⟨[(0, false), (1, false), (5, false)], [], []⟩)], [], [], false, [], []⟩
def w28rs : List ResultVar := [.tmp 4]
def w28G (N : Nat) : Gam EE := ⟨[⟨43, ref_SameLabels_h N⟩], EQT, [], []⟩
theorem w28Gok (N : Nat) : GOk Try.prog TT EE (w28G N) := GOk.cons (ref_SameLabels_hok N) (GOk.nil EQT_ok)
def w28kL4 (c : Code) : List It2 := atL 4 c
def w28sL4 (x0 : List VRef) (x1 : List VRef) (x5 : Int) : TS EE.T := ⟨42, [(0, .a (.d (.sl (.nam 3)) x0)), (1, .a (.d (.sl (.nam 3)) x1)), (5, .a (.d (.int .i64) x5))], [], []⟩
def w28kE0 (c : Code) : List It2 := [.c c]
def w28sE0 (x0 : List VRef) (x1 : List VRef) : TS EE.T := ⟨42, [(0, .a (.d (.sl (.nam 3)) x0)), (1, .a (.d (.sl (.nam 3)) x1))], [], []⟩
def w28TL4 (c : Code) (N : Nat) (n : Nat) (x0 : List VRef) (x1 : List VRef) (x5 : Int) : Tree (Lf EE.T × Option Bool) :=
  .cond (decide (x5 < (x0.length : Int)))
  (
    .bnd (idxC x0 x5) fun z1 =>
    .bnd (idxC x1 x5) fun z2 =>
    .cond (z1.Ref != z2.Ref)
    (
      .leaf (.done (w28enc false), some false))
    (
      .bnd (idxC x0 x5) fun z3 =>
      .bnd (idxC x1 x5) fun z4 =>
      .bnd (ref_SameLabels N z3.Labels z4.Labels) fun z5 =>
      .cond (!z5)
      (
        .leaf (.done (w28enc false), some false))
      (
        .leaf (.go (w28kL4 c) (w28sL4 x0 x1 (w64 (x5 + 1))), ref_SameRefs_L4 N n x0 x1 (w64 (x5 + 1))))))
  (
    .leaf (.done (w28enc true), some true))
theorem w28vL4 (N : Nat) (n : Nat) (x0 : List VRef) (x1 : List VRef) (x5 : Int) : evM TT EE (w28G N) w28lv w28rs 4000 true (w28kL4 (bodyOf 0 Try.f28)) (w28sL4 x0 x1 x5) = (w28TL4 (bodyOf 0 Try.f28) N n x0 x1 x5).map1 := by kernel_rfl
theorem w28nL4 (N : Nat) (n : Nat) (x0 : List VRef) (x1 : List VRef) (x5 : Int) : ref_SameRefs_L4 N (n + 1) x0 x1 x5 = (w28TL4 (bodyOf 0 Try.f28) N n x0 x1 x5).run := by kernel_rfl
theorem w28oL4 {N : Nat} {r : Bool} : ∀ (n : Nat) (x0 : List VRef) (x1 : List VRef) (x5 : Int), ref_SameRefs_L4 N n x0 x1 x5 = some r → Ends (Y := TT) EE (w28G N) w28lv w28rs (fun u => u = w28enc r) (w28kL4 (bodyOf 0 Try.f28)) (w28sL4 x0 x1 x5)
  | 0, _, _, _, h => by cases h
  | n + 1, x0, x1, x5, h => tree_use (w28vL4 N n x0 x1 x5) (w28nL4 N n x0 x1 x5) h (show (w28TL4 (bodyOf 0 Try.f28) N n x0 x1 x5).all _ from ⟨fun _ => fun _ => ⟨retp (enc := w28enc) rfl, fun _ => fun _ => fun _ => ⟨retp (enc := w28enc) rfl, fun h => (w28oL4 n) _ _ _ h⟩⟩, retp (enc := w28enc) rfl⟩)
def w28TE0 (c : Code) (N : Nat) (x0 : List VRef) (x1 : List VRef) : Tree (Lf EE.T × Option Bool) :=
  .cond ((x0.length : Int) != (x1.length : Int))
  (
    .leaf (.done (w28enc false), some false))
  (
    .leaf (.go (w28kL4 c) (w28sL4 x0 x1 0), ref_SameRefs_L4 N N x0 x1 0))
theorem w28vE0 (N : Nat) (x0 : List VRef) (x1 : List VRef) : evM TT EE (w28G N) w28lv w28rs 4000 true (w28kE0 (bodyOf 0 Try.f28)) (w28sE0 x0 x1) = (w28TE0 (bodyOf 0 Try.f28) N x0 x1).map1 := by kernel_rfl
theorem w28nE0 (N : Nat) (x0 : List VRef) (x1 : List VRef) : ref_SameRefs N x0 x1 = (w28TE0 (bodyOf 0 Try.f28) N x0 x1).run := by kernel_rfl
theorem w28oE0 {N : Nat} {r : Bool} (x0 : List VRef) (x1 : List VRef) (h : ref_SameRefs N x0 x1 = some r) : Ends (Y := TT) EE (w28G N) w28lv w28rs (fun u => u = w28enc r) (w28kE0 (bodyOf 0 Try.f28)) (w28sE0 x0 x1) :=
  tree_use (w28vE0 N x0 x1) (w28nE0 N x0 x1) h (show (w28TE0 (bodyOf 0 Try.f28) N x0 x1).all _ from ⟨retp (enc := w28enc) rfl, fun h => w28oL4 N _ _ _ h⟩)
theorem ref_SameRefs_ok {N : Nat} (x0 : List VRef) (x1 : List VRef) {r : Bool} (h : ref_SameRefs N x0 x1 = some r) (ρ : Nat → Nat) : ACalls Try.prog 28 (([.a (.d (.sl (.nam 3)) x0), .a (.d (.sl (.nam 3)) x1)] : List (TV EE.T)).map (TV.to EE.toEnc ρ)) [] (fun out H => out = .ret ((ref_SameRefs_u r).to EE.toEnc ρ) ∧ H = []) :=
  (fn_ok (bodyOf 0 Try.f28) 42 mixed (w28Gok N) Try.func28 (by kernel_rfl) rfl rfl rfl rfl (w28oE0 x0 x1 h) ρ).mono fun out H h => KPost.ret rfl h
def ref_SameRefs_h (N : Nat) : List (TV EE.T) → PV EE.T
  | [u0, u1] => match argD (.sl (.nam 3)) u0, argD (.sl (.nam 3)) u1 with
    | some x0, some x1 => .opt (ref_SameRefs N x0 x1) ref_SameRefs_u
    | _, _ => .bad
  | _ => .bad
theorem ref_SameRefs_hok (N : Nat) (us : List (TV EE.T)) : (ref_SameRefs_h N us).ok fun u => ∀ ρ, ACalls Try.prog 28 (us.map (TV.to EE.toEnc ρ)) [] (fun out H => out = .ret (u.to EE.toEnc ρ) ∧ H = []) := by
  unfold ref_SameRefs_h
  split
  · split
    · rename_i h0 h1
      intro z hz ρ; refine acalls_le ?_ (ref_SameRefs_ok _ _ hz ρ); exact ⟨argD_le h0 ρ, argD_le h1 ρ, trivial⟩
    · trivial
  · trivial
/-! ### gleaner/gleanerref.SameRecord -/
def ref_SameRecord_u (r : Bool) : TV EE.T := .a (.d .bool r)
def w13enc (r : Bool) : RL EE.T := .ret (ref_SameRecord_u r) []
def w13lv : Lvs := ⟨[(6, ⟨[(2, false), (3, false), (5, false)], [], [(2, (some 5, [])), (3, (some 5, []))]⟩)], [(4, ⟨[(2, false), (3, false), (5, false)], [], [(2, (some 5, [])), (3, (some 5, []))]⟩)], [], [], false, [], []⟩
def w13rs : List ResultVar := [.tmp 4]
def w13G (N : Nat) : Gam EE := ⟨[⟨28, ref_SameRefs_h N⟩], EQT, [], []⟩
theorem w13Gok (N : Nat) : GOk Try.prog TT EE (w13G N) := GOk.cons (ref_SameRefs_hok N) (GOk.nil EQT_ok)
def w13kL4 (c : Code) : List It2 := atL 4 c
def w13sL4 (x5 : Int) (b2 : VRecord) (b3 : VRecord) : TS EE.T := ⟨46, [(2, .a (.box 2 0)), (3, .a (.box 3 0)), (5, .a (.d (.int .i64) x5))], [(2, .cs (unpT EE (.nam 5) b2)), (3, .cs (unpT EE (.nam 5) b3))], []⟩
def w13kE0 (c : Code) : List It2 := [.c c]
def w13sE0 (x0 : VRecord) (x1 : VRecord) : TS EE.T := ⟨46, [(0, .ag (unpT EE (.nam 5) x0)), (1, .ag (unpT EE (.nam 5) x1))], [], []⟩
def w13TL4 (c : Code) (N : Nat) (n : Nat) (x5 : Int) (b2 : VRecord) (b3 : VRecord) : Tree (Lf EE.T × Option Bool) :=
  .cond (decide (x5 < (b2.Points.length : Int)))
  (
    .bnd (idxC b2.Points x5) fun z2 =>
    .bnd (idxC b3.Points x5) fun z3 =>
    .cond (!(beqI z2.Ref z3.Ref && (beqI z2.Time z3.Time && (beqI z2.Bits z3.Bits && true))))
    (
      .leaf (.done (w13enc false), some false))
    (
      .leaf (.go (w13kL4 c) (w13sL4 (w64 (x5 + 1)) b2 b3), ref_SameRecord_L4 N n (w64 (x5 + 1)) b2 b3)))
  (
    .leaf (.done (w13enc true), some true))
theorem w13vL4 (N : Nat) (n : Nat) (x5 : Int) (b2 : VRecord) (b3 : VRecord) : evM TT EE (w13G N) w13lv w13rs 4000 true (w13kL4 (bodyOf 0 Try.f13)) (w13sL4 x5 b2 b3) = (w13TL4 (bodyOf 0 Try.f13) N n x5 b2 b3).map1 := by kernel_rfl
theorem w13nL4 (N : Nat) (n : Nat) (x5 : Int) (b2 : VRecord) (b3 : VRecord) : ref_SameRecord_L4 N (n + 1) x5 b2 b3 = (w13TL4 (bodyOf 0 Try.f13) N n x5 b2 b3).run := by kernel_rfl
theorem w13oL4 {N : Nat} {r : Bool} : ∀ (n : Nat) (x5 : Int) (b2 : VRecord) (b3 : VRecord), ref_SameRecord_L4 N n x5 b2 b3 = some r → Ends (Y := TT) EE (w13G N) w13lv w13rs (fun u => u = w13enc r) (w13kL4 (bodyOf 0 Try.f13)) (w13sL4 x5 b2 b3)
  | 0, _, _, _, h => by cases h
  | n + 1, x5, b2, b3, h => tree_use (w13vL4 N n x5 b2 b3) (w13nL4 N n x5 b2 b3) h (show (w13TL4 (bodyOf 0 Try.f13) N n x5 b2 b3).all _ from ⟨fun _ => fun _ => ⟨retp (enc := w13enc) rfl, fun h => (w13oL4 n) _ _ _ h⟩, retp (enc := w13enc) rfl⟩)
def w13TE0 (c : Code) (N : Nat) (x0 : VRecord) (x1 : VRecord) : Tree (Lf EE.T × Option Bool) :=
  .cond (x0.Kind != x1.Kind)
  (
    .leaf (.done (w13enc false), some false))
  (
    .cond ((x0.Points.length : Int) != (x1.Points.length : Int))
    (
      .leaf (.done (w13enc false), some false))
    (
      .bnd (ref_SameRefs N x0.Refs x1.Refs) fun z1 =>
      .cond (!z1)
      (
        .leaf (.done (w13enc false), some false))
      (
        .leaf (.go (w13kL4 c) (w13sL4 0 x0 x1), ref_SameRecord_L4 N N 0 x0 x1))))
theorem w13vE0 (N : Nat) (x0 : VRecord) (x1 : VRecord) : evM TT EE (w13G N) w13lv w13rs 4000 true (w13kE0 (bodyOf 0 Try.f13)) (w13sE0 x0 x1) = (w13TE0 (bodyOf 0 Try.f13) N x0 x1).map1 := by kernel_rfl
theorem w13nE0 (N : Nat) (x0 : VRecord) (x1 : VRecord) : ref_SameRecord N x0 x1 = (w13TE0 (bodyOf 0 Try.f13) N x0 x1).run := by kernel_rfl
theorem w13oE0 {N : Nat} {r : Bool} (x0 : VRecord) (x1 : VRecord) (h : ref_SameRecord N x0 x1 = some r) : Ends (Y := TT) EE (w13G N) w13lv w13rs (fun u => u = w13enc r) (w13kE0 (bodyOf 0 Try.f13)) (w13sE0 x0 x1) :=
  tree_use (w13vE0 N x0 x1) (w13nE0 N x0 x1) h (show (w13TE0 (bodyOf 0 Try.f13) N x0 x1).all _ from ⟨retp (enc := w13enc) rfl, ⟨retp (enc := w13enc) rfl, fun _ => ⟨retp (enc := w13enc) rfl, fun h => w13oL4 N _ _ _ h⟩⟩⟩)
theorem ref_SameRecord_ok {N : Nat} (x0 : VRecord) (x1 : VRecord) {r : Bool} (h : ref_SameRecord N x0 x1 = some r) (ρ : Nat → Nat) : ACalls Try.prog 13 (([.ag (unpT EE (.nam 5) x0), .ag (unpT EE (.nam 5) x1)] : List (TV EE.T)).map (TV.to EE.toEnc ρ)) [] (fun out H => out = .ret ((ref_SameRecord_u r).to EE.toEnc ρ) ∧ H = []) :=
  (fn_ok (bodyOf 0 Try.f13) 46 mixed (w13Gok N) Try.func13 (by kernel_rfl) rfl rfl rfl rfl (w13oE0 x0 x1 h) ρ).mono fun out H h => KPost.ret rfl h
def ref_SameRecord_h (N : Nat) : List (TV EE.T) → PV EE.T
  | [u0, u1] => match argS EE 5 u0, argS EE 5 u1 with
    | some x0, some x1 => .opt (ref_SameRecord N x0 x1) ref_SameRecord_u
    | _, _ => .bad
  | _ => .bad
theorem ref_SameRecord_hok (N : Nat) (us : List (TV EE.T)) : (ref_SameRecord_h N us).ok fun u => ∀ ρ, ACalls Try.prog 13 (us.map (TV.to EE.toEnc ρ)) [] (fun out H => out = .ret (u.to EE.toEnc ρ) ∧ H = []) := by
  unfold ref_SameRecord_h
  split
  · split
    · rename_i h0 h1
      intro z hz ρ; refine acalls_le ?_ (ref_SameRecord_ok _ _ hz ρ); exact ⟨argS_le h0 ρ, argS_le h1 ρ, trivial⟩
    · trivial
  · trivial
end Go.Proofs.Ytgmbgbalcndohaa
