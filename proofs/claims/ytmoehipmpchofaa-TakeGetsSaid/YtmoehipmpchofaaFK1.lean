/- The walks that prove plain functions right, written by gen/tgl.py. -/
import Derived.Test.YtmoehipmpchofaaFK1p
import Derived.Test.YtmoehipmpchofaaTK
namespace Go.Proofs.Ytmoehipmpchofaa
open Go.RowKit P
set_option linter.unusedVariables false
set_option linter.unusedSimpArgs false
set_option maxRecDepth 100000
def ref_GreatStore_u (r : Bool) : TV EE.T := .a (.d .bool r)
def w28enc (r : Bool) : RL EE.T := .ret (ref_GreatStore_u r) []
def w28lv : Lvs := ⟨[], [(2, ⟨[(0, false), (3, false)], [], []⟩)], [], [], false, [], []⟩
def w28rs : List ResultVar := [.tmp 2]
def w28G (N : Nat) : Gam EE := ⟨[], EQT, [], []⟩
theorem w28Gok (N : Nat) : GOk Try.prog TT EE (w28G N) := GOk.nil EQT_ok
def w28kL2 (c : Code) : List It2 := atL 2 c
def w28sL2 (x0 : List VSeries) (x3 : Int) : TS EE.T := ⟨20, [(0, .a (.d (.sl (.nam 4)) x0)), (3, .a (.d (.int .i64) x3))], [], []⟩
def w28kE0 (c : Code) : List It2 := [.c c]
def w28sE0 (x0 : List VSeries) : TS EE.T := ⟨20, [(0, .a (.d (.sl (.nam 4)) x0))], [], []⟩
def w28TL2 (c : Code) (N : Nat) (n : Nat) (x0 : List VSeries) (x3 : Int) : Tree (Lf EE.T × Option Bool) :=
  .cond (decide (x3 < (x0.length : Int)))
  (
    .bnd (idxC x0 x3) fun z1 =>
    .cond (decide ((z1.Samples.length : Int) > 5000))
    (
      .leaf (.done (w28enc true), some true))
    (
      .leaf (.go (w28kL2 c) (w28sL2 x0 (w64 (x3 + 1))), ref_GreatStore_L2 N n x0 (w64 (x3 + 1)))))
  (
    .leaf (.done (w28enc (decide ((x0.length : Int) > 500))), some (decide ((x0.length : Int) > 500))))
theorem w28vL2 (N : Nat) (n : Nat) (x0 : List VSeries) (x3 : Int) : evM TT EE (w28G N) w28lv w28rs 4000 true (w28kL2 (bodyOf 0 Try.f28)) (w28sL2 x0 x3) = (w28TL2 (bodyOf 0 Try.f28) N n x0 x3).map1 := by kernel_rfl
theorem w28nL2 (N : Nat) (n : Nat) (x0 : List VSeries) (x3 : Int) : ref_GreatStore_L2 N (n + 1) x0 x3 = (w28TL2 (bodyOf 0 Try.f28) N n x0 x3).run := by kernel_rfl
theorem w28oL2 {N : Nat} {r : Bool} : ∀ (n : Nat) (x0 : List VSeries) (x3 : Int), ref_GreatStore_L2 N n x0 x3 = some r → Ends (Y := TT) EE (w28G N) w28lv w28rs (fun u => u = w28enc r) (w28kL2 (bodyOf 0 Try.f28)) (w28sL2 x0 x3)
  | 0, _, _, h => by cases h
  | n + 1, x0, x3, h => tree_use (w28vL2 N n x0 x3) (w28nL2 N n x0 x3) h (show (w28TL2 (bodyOf 0 Try.f28) N n x0 x3).all _ from ⟨fun _ => ⟨retp (enc := w28enc) rfl, fun h => (w28oL2 n) _ _ h⟩, retp (enc := w28enc) rfl⟩)
def w28TE0 (c : Code) (N : Nat) (x0 : List VSeries) : Tree (Lf EE.T × Option Bool) :=
  .leaf (.go (w28kL2 c) (w28sL2 x0 0), ref_GreatStore_L2 N N x0 0)
theorem w28vE0 (N : Nat) (x0 : List VSeries) : evM TT EE (w28G N) w28lv w28rs 4000 true (w28kE0 (bodyOf 0 Try.f28)) (w28sE0 x0) = (w28TE0 (bodyOf 0 Try.f28) N x0).map1 := by kernel_rfl
theorem w28nE0 (N : Nat) (x0 : List VSeries) : ref_GreatStore N x0 = (w28TE0 (bodyOf 0 Try.f28) N x0).run := by kernel_rfl
theorem w28oE0 {N : Nat} {r : Bool} (x0 : List VSeries) (h : ref_GreatStore N x0 = some r) : Ends (Y := TT) EE (w28G N) w28lv w28rs (fun u => u = w28enc r) (w28kE0 (bodyOf 0 Try.f28)) (w28sE0 x0) :=
  tree_use (w28vE0 N x0) (w28nE0 N x0) h (show (w28TE0 (bodyOf 0 Try.f28) N x0).all _ from fun h => w28oL2 N _ _ h)
theorem ref_GreatStore_ok {N : Nat} (x0 : List VSeries) {r : Bool} (h : ref_GreatStore N x0 = some r) (ρ : Nat → Nat) : ACalls Try.prog 28 (([.a (.d (.sl (.nam 4)) x0)] : List (TV EE.T)).map (TV.to EE.toEnc ρ)) [] (fun out H => out = .ret ((ref_GreatStore_u r).to EE.toEnc ρ) ∧ H = []) :=
  (fn_ok (bodyOf 0 Try.f28) 20 mixed (w28Gok N) Try.func28 (by kernel_rfl) rfl rfl rfl rfl (w28oE0 x0 h) ρ).mono fun out H h => KPost.ret rfl h
def ref_GreatStore_h (N : Nat) : List (TV EE.T) → PV EE.T
  | [u0] => match argD (.sl (.nam 4)) u0 with
    | some x0 => .opt (ref_GreatStore N x0) ref_GreatStore_u
    | _ => .bad
  | _ => .bad
theorem ref_GreatStore_hok (N : Nat) (us : List (TV EE.T)) : (ref_GreatStore_h N us).ok fun u => ∀ ρ, ACalls Try.prog 28 (us.map (TV.to EE.toEnc ρ)) [] (fun out H => out = .ret (u.to EE.toEnc ρ) ∧ H = []) := by
  unfold ref_GreatStore_h
  split
  · split
    · rename_i h0
      intro z hz ρ; refine acalls_le ?_ (ref_GreatStore_ok _ hz ρ); exact ⟨argD_le h0 ρ, trivial⟩
    · trivial
  · trivial
def ref_IsLetter_u (r : Bool) : TV EE.T := .a (.d .bool r)
def w83enc (r : Bool) : RL EE.T := .ret (ref_IsLetter_u r) []
def w83lv : Lvs := ⟨[], [], [], [], false, [], []⟩
def w83rs : List ResultVar := [.tmp 2]
def w83G (N : Nat) : Gam EE := ⟨[], EQT, [], []⟩
theorem w83Gok (N : Nat) : GOk Try.prog TT EE (w83G N) := GOk.nil EQT_ok
def w83kE0 (c : Code) : List It2 := [.c c]
def w83sE0 (x0 : UInt8) : TS EE.T := ⟨21, [(0, .a (.d .byte x0))], [], []⟩
def w83TE0 (c : Code) (N : Nat) (x0 : UInt8) : Tree (Lf EE.T × Option Bool) :=
  .cond (decide ((b2i x0) ≥ (b2i 97)))
  (
    .cond (decide ((b2i x0) ≤ (b2i 122)))
    (
      .leaf (.done (w83enc true), some true))
    (
      .cond (decide ((b2i x0) ≥ (b2i 65)))
      (
        .cond (decide ((b2i x0) ≤ (b2i 90)))
        (
          .leaf (.done (w83enc true), some true))
        (
          .leaf (.done (w83enc ((b2i x0) == (b2i 95))), some ((b2i x0) == (b2i 95)))))
      (
        .leaf (.done (w83enc ((b2i x0) == (b2i 95))), some ((b2i x0) == (b2i 95))))))
  (
    .cond (decide ((b2i x0) ≥ (b2i 65)))
    (
      .cond (decide ((b2i x0) ≤ (b2i 90)))
      (
        .leaf (.done (w83enc true), some true))
      (
        .leaf (.done (w83enc ((b2i x0) == (b2i 95))), some ((b2i x0) == (b2i 95)))))
    (
      .leaf (.done (w83enc ((b2i x0) == (b2i 95))), some ((b2i x0) == (b2i 95)))))
theorem w83vE0 (N : Nat) (x0 : UInt8) : evM TT EE (w83G N) w83lv w83rs 4000 true (w83kE0 (bodyOf 0 Try.f83)) (w83sE0 x0) = (w83TE0 (bodyOf 0 Try.f83) N x0).map1 := by kernel_rfl
theorem w83nE0 (N : Nat) (x0 : UInt8) : ref_IsLetter N x0 = (w83TE0 (bodyOf 0 Try.f83) N x0).run := by kernel_rfl
theorem w83oE0 {N : Nat} {r : Bool} (x0 : UInt8) (h : ref_IsLetter N x0 = some r) : Ends (Y := TT) EE (w83G N) w83lv w83rs (fun u => u = w83enc r) (w83kE0 (bodyOf 0 Try.f83)) (w83sE0 x0) :=
  tree_use (w83vE0 N x0) (w83nE0 N x0) h (show (w83TE0 (bodyOf 0 Try.f83) N x0).all _ from ⟨⟨retp (enc := w83enc) rfl, ⟨⟨retp (enc := w83enc) rfl, retp (enc := w83enc) rfl⟩, retp (enc := w83enc) rfl⟩⟩, ⟨⟨retp (enc := w83enc) rfl, retp (enc := w83enc) rfl⟩, retp (enc := w83enc) rfl⟩⟩)
theorem ref_IsLetter_ok {N : Nat} (x0 : UInt8) {r : Bool} (h : ref_IsLetter N x0 = some r) (ρ : Nat → Nat) : ACalls Try.prog 83 (([.a (.d .byte x0)] : List (TV EE.T)).map (TV.to EE.toEnc ρ)) [] (fun out H => out = .ret ((ref_IsLetter_u r).to EE.toEnc ρ) ∧ H = []) :=
  (fn_ok (bodyOf 0 Try.f83) 21 mixed (w83Gok N) Try.func83 (by kernel_rfl) rfl rfl rfl rfl (w83oE0 x0 h) ρ).mono fun out H h => KPost.ret rfl h
def ref_IsLetter_h (N : Nat) : List (TV EE.T) → PV EE.T
  | [u0] => match argD .byte u0 with
    | some x0 => .opt (ref_IsLetter N x0) ref_IsLetter_u
    | _ => .bad
  | _ => .bad
theorem ref_IsLetter_hok (N : Nat) (us : List (TV EE.T)) : (ref_IsLetter_h N us).ok fun u => ∀ ρ, ACalls Try.prog 83 (us.map (TV.to EE.toEnc ρ)) [] (fun out H => out = .ret (u.to EE.toEnc ρ) ∧ H = []) := by
  unfold ref_IsLetter_h
  split
  · split
    · rename_i h0
      intro z hz ρ; refine acalls_le ?_ (ref_IsLetter_ok _ hz ρ); exact ⟨argD_le h0 ρ, trivial⟩
    · trivial
  · trivial
def ref_IsNumeral_u (r : Bool) : TV EE.T := .a (.d .bool r)
def w84enc (r : Bool) : RL EE.T := .ret (ref_IsNumeral_u r) []
def w84lv : Lvs := ⟨[], [], [], [], false, [], []⟩
def w84rs : List ResultVar := [.tmp 2]
def w84G (N : Nat) : Gam EE := ⟨[], EQT, [], []⟩
theorem w84Gok (N : Nat) : GOk Try.prog TT EE (w84G N) := GOk.nil EQT_ok
def w84kE0 (c : Code) : List It2 := [.c c]
def w84sE0 (x0 : UInt8) : TS EE.T := ⟨9, [(0, .a (.d .byte x0))], [], []⟩
def w84TE0 (c : Code) (N : Nat) (x0 : UInt8) : Tree (Lf EE.T × Option Bool) :=
  .cond (decide ((b2i x0) ≥ (b2i 48)))
  (
    .leaf (.done (w84enc (decide ((b2i x0) ≤ (b2i 57)))), some (decide ((b2i x0) ≤ (b2i 57)))))
  (
    .leaf (.done (w84enc false), some false))
theorem w84vE0 (N : Nat) (x0 : UInt8) : evM TT EE (w84G N) w84lv w84rs 4000 true (w84kE0 (bodyOf 0 Try.f84)) (w84sE0 x0) = (w84TE0 (bodyOf 0 Try.f84) N x0).map1 := by kernel_rfl
theorem w84nE0 (N : Nat) (x0 : UInt8) : ref_IsNumeral N x0 = (w84TE0 (bodyOf 0 Try.f84) N x0).run := by kernel_rfl
theorem w84oE0 {N : Nat} {r : Bool} (x0 : UInt8) (h : ref_IsNumeral N x0 = some r) : Ends (Y := TT) EE (w84G N) w84lv w84rs (fun u => u = w84enc r) (w84kE0 (bodyOf 0 Try.f84)) (w84sE0 x0) :=
  tree_use (w84vE0 N x0) (w84nE0 N x0) h (show (w84TE0 (bodyOf 0 Try.f84) N x0).all _ from ⟨retp (enc := w84enc) rfl, retp (enc := w84enc) rfl⟩)
theorem ref_IsNumeral_ok {N : Nat} (x0 : UInt8) {r : Bool} (h : ref_IsNumeral N x0 = some r) (ρ : Nat → Nat) : ACalls Try.prog 84 (([.a (.d .byte x0)] : List (TV EE.T)).map (TV.to EE.toEnc ρ)) [] (fun out H => out = .ret ((ref_IsNumeral_u r).to EE.toEnc ρ) ∧ H = []) :=
  (fn_ok (bodyOf 0 Try.f84) 9 mixed (w84Gok N) Try.func84 (by kernel_rfl) rfl rfl rfl rfl (w84oE0 x0 h) ρ).mono fun out H h => KPost.ret rfl h
def ref_IsNumeral_h (N : Nat) : List (TV EE.T) → PV EE.T
  | [u0] => match argD .byte u0 with
    | some x0 => .opt (ref_IsNumeral N x0) ref_IsNumeral_u
    | _ => .bad
  | _ => .bad
theorem ref_IsNumeral_hok (N : Nat) (us : List (TV EE.T)) : (ref_IsNumeral_h N us).ok fun u => ∀ ρ, ACalls Try.prog 84 (us.map (TV.to EE.toEnc ρ)) [] (fun out H => out = .ret (u.to EE.toEnc ρ) ∧ H = []) := by
  unfold ref_IsNumeral_h
  split
  · split
    · rename_i h0
      intro z hz ρ; refine acalls_le ?_ (ref_IsNumeral_ok _ hz ρ); exact ⟨argD_le h0 ρ, trivial⟩
    · trivial
  · trivial
def ref_IsName_u (r : Bool) : TV EE.T := .a (.d .bool r)
def w69enc (r : Bool) : RL EE.T := .ret (ref_IsName_u r) []
def w69lv : Lvs := ⟨[(3, ⟨[(0, false), (3, false)], [], []⟩)], [(2, ⟨[(0, false), (3, false)], [], []⟩)], [3], [], false, [], []⟩
def w69rs : List ResultVar := [.tmp 2]
def w69G (N : Nat) : Gam EE := ⟨[⟨83, ref_IsLetter_h N⟩, ⟨84, ref_IsNumeral_h N⟩], EQT, [], []⟩
theorem w69Gok (N : Nat) : GOk Try.prog TT EE (w69G N) := GOk.cons (ref_IsLetter_hok N) (GOk.cons (ref_IsNumeral_hok N) (GOk.nil EQT_ok))
def w69kR3 (c : Code) : List It2 := atR 3 c
def w69sR3 (x0 : List UInt8) (x3 : Int) : TS EE.T := ⟨34, [(0, .a (.d .str x0)), (3, .a (.d (.int .i64) x3))], [], []⟩
def w69kL2 (c : Code) : List It2 := atL 2 c
def w69sL2 (x0 : List UInt8) (x3 : Int) : TS EE.T := ⟨34, [(0, .a (.d .str x0)), (3, .a (.d (.int .i64) x3))], [], []⟩
def w69kE0 (c : Code) : List It2 := [.c c]
def w69sE0 (x0 : List UInt8) : TS EE.T := ⟨34, [(0, .a (.d .str x0))], [], []⟩
def w69TR3 (c : Code) (N : Nat) (k2 : (List UInt8) → Int → Option Bool) (n : Nat) (x0 : List UInt8) (x3 : Int) : Tree (Lf EE.T × Option Bool) :=
  .leaf (.go (w69kL2 c) (w69sL2 x0 (w64 (x3 + 1))), k2 x0 (w64 (x3 + 1)))
theorem w69vR3 (N : Nat) (k2 : (List UInt8) → Int → Option Bool) (n : Nat) (x0 : List UInt8) (x3 : Int) : evM TT EE (w69G N) w69lv w69rs 4000 true (w69kR3 (bodyOf 0 Try.f69)) (w69sR3 x0 x3) = (w69TR3 (bodyOf 0 Try.f69) N k2 n x0 x3).map1 := by kernel_rfl
theorem w69nR3 (N : Nat) (k2 : (List UInt8) → Int → Option Bool) (n : Nat) (x0 : List UInt8) (x3 : Int) : ref_IsName_R3 N k2 n x0 x3 = (w69TR3 (bodyOf 0 Try.f69) N k2 n x0 x3).run := by kernel_rfl
theorem w69oR3 {N : Nat} {r : Bool} {k2 : (List UInt8) → Int → Option Bool} (hk2 : ∀ x0 x3, k2 x0 x3 = some r → Ends (Y := TT) EE (w69G N) w69lv w69rs (fun u => u = w69enc r) (w69kL2 (bodyOf 0 Try.f69)) (w69sL2 x0 x3)) (n : Nat) (x0 : List UInt8) (x3 : Int) (h : ref_IsName_R3 N k2 n x0 x3 = some r) : Ends (Y := TT) EE (w69G N) w69lv w69rs (fun u => u = w69enc r) (w69kR3 (bodyOf 0 Try.f69)) (w69sR3 x0 x3) :=
  tree_use (w69vR3 N k2 n x0 x3) (w69nR3 N k2 n x0 x3) h (show (w69TR3 (bodyOf 0 Try.f69) N k2 n x0 x3).all _ from fun h => hk2 _ _ h)
def w69TL2 (c : Code) (N : Nat) (n : Nat) (x0 : List UInt8) (x3 : Int) : Tree (Lf EE.T × Option Bool) :=
  .cond (decide (x3 < (x0.length : Int)))
  (
    .bnd (idxC x0 x3) fun z1 =>
    .bnd (ref_IsLetter N z1) fun z2 =>
    .cond (!z2)
    (
      .cond (x3 == 0)
      (
        .leaf (.done (w69enc false), some false))
      (
        .bnd (idxC x0 x3) fun z3 =>
        .bnd (ref_IsNumeral N z3) fun z4 =>
        .cond (!z4)
        (
          .leaf (.done (w69enc false), some false))
        (
          .leaf (.go (w69kR3 c) (w69sR3 x0 x3), ref_IsName_R3 N (ref_IsName_L2 N n) n x0 x3))))
    (
      .leaf (.go (w69kR3 c) (w69sR3 x0 x3), ref_IsName_R3 N (ref_IsName_L2 N n) n x0 x3)))
  (
    .cond (decide ((x0.length : Int) ≥ 1))
    (
      .leaf (.done (w69enc (decide ((x0.length : Int) ≤ 40))), some (decide ((x0.length : Int) ≤ 40))))
    (
      .leaf (.done (w69enc false), some false)))
theorem w69vL2 (N : Nat) (n : Nat) (x0 : List UInt8) (x3 : Int) : evM TT EE (w69G N) w69lv w69rs 4000 true (w69kL2 (bodyOf 0 Try.f69)) (w69sL2 x0 x3) = (w69TL2 (bodyOf 0 Try.f69) N n x0 x3).map1 := by kernel_rfl
theorem w69nL2 (N : Nat) (n : Nat) (x0 : List UInt8) (x3 : Int) : ref_IsName_L2 N (n + 1) x0 x3 = (w69TL2 (bodyOf 0 Try.f69) N n x0 x3).run := by kernel_rfl
theorem w69oL2 {N : Nat} {r : Bool} : ∀ (n : Nat) (x0 : List UInt8) (x3 : Int), ref_IsName_L2 N n x0 x3 = some r → Ends (Y := TT) EE (w69G N) w69lv w69rs (fun u => u = w69enc r) (w69kL2 (bodyOf 0 Try.f69)) (w69sL2 x0 x3)
  | 0, _, _, h => by cases h
  | n + 1, x0, x3, h => tree_use (w69vL2 N n x0 x3) (w69nL2 N n x0 x3) h (show (w69TL2 (bodyOf 0 Try.f69) N n x0 x3).all _ from ⟨fun _ => fun _ => ⟨⟨retp (enc := w69enc) rfl, fun _ => fun _ => ⟨retp (enc := w69enc) rfl, fun h => w69oR3 (w69oL2 n) n _ _ h⟩⟩, fun h => w69oR3 (w69oL2 n) n _ _ h⟩, ⟨retp (enc := w69enc) rfl, retp (enc := w69enc) rfl⟩⟩)
def w69TE0 (c : Code) (N : Nat) (x0 : List UInt8) : Tree (Lf EE.T × Option Bool) :=
  .leaf (.go (w69kL2 c) (w69sL2 x0 0), ref_IsName_L2 N N x0 0)
theorem w69vE0 (N : Nat) (x0 : List UInt8) : evM TT EE (w69G N) w69lv w69rs 4000 true (w69kE0 (bodyOf 0 Try.f69)) (w69sE0 x0) = (w69TE0 (bodyOf 0 Try.f69) N x0).map1 := by kernel_rfl
theorem w69nE0 (N : Nat) (x0 : List UInt8) : ref_IsName N x0 = (w69TE0 (bodyOf 0 Try.f69) N x0).run := by kernel_rfl
theorem w69oE0 {N : Nat} {r : Bool} (x0 : List UInt8) (h : ref_IsName N x0 = some r) : Ends (Y := TT) EE (w69G N) w69lv w69rs (fun u => u = w69enc r) (w69kE0 (bodyOf 0 Try.f69)) (w69sE0 x0) :=
  tree_use (w69vE0 N x0) (w69nE0 N x0) h (show (w69TE0 (bodyOf 0 Try.f69) N x0).all _ from fun h => w69oL2 N _ _ h)
theorem ref_IsName_ok {N : Nat} (x0 : List UInt8) {r : Bool} (h : ref_IsName N x0 = some r) (ρ : Nat → Nat) : ACalls Try.prog 69 (([.a (.d .str x0)] : List (TV EE.T)).map (TV.to EE.toEnc ρ)) [] (fun out H => out = .ret ((ref_IsName_u r).to EE.toEnc ρ) ∧ H = []) :=
  (fn_ok (bodyOf 0 Try.f69) 34 mixed (w69Gok N) Try.func69 (by kernel_rfl) rfl rfl rfl rfl (w69oE0 x0 h) ρ).mono fun out H h => KPost.ret rfl h
def ref_IsName_h (N : Nat) : List (TV EE.T) → PV EE.T
  | [u0] => match argD .str u0 with
    | some x0 => .opt (ref_IsName N x0) ref_IsName_u
    | _ => .bad
  | _ => .bad
theorem ref_IsName_hok (N : Nat) (us : List (TV EE.T)) : (ref_IsName_h N us).ok fun u => ∀ ρ, ACalls Try.prog 69 (us.map (TV.to EE.toEnc ρ)) [] (fun out H => out = .ret (u.to EE.toEnc ρ) ∧ H = []) := by
  unfold ref_IsName_h
  split
  · split
    · rename_i h0
      intro z hz ρ; refine acalls_le ?_ (ref_IsName_ok _ hz ρ); exact ⟨argD_le h0 ρ, trivial⟩
    · trivial
  · trivial
def ref_EachLabel_u (r : Int) : TV EE.T := .a (.d (.int .i64) r)
def w39enc (r : Int) : RL EE.T := .ret (ref_EachLabel_u r) []
def w39lv : Lvs := ⟨[(8, ⟨[(0, false), (1, false), (5, false)], [], []⟩), (16, ⟨[(0, false), (6, false), (7, false)], [], []⟩)], [(4, ⟨[(0, false), (1, false), (5, false)], [], []⟩), (11, ⟨[(0, false), (6, false)], [], []⟩), (14, ⟨[(0, false), (6, false), (7, false)], [], []⟩)], [8], [], false, [], []⟩
def w39rs : List ResultVar := [.tmp 4]
def w39G (N : Nat) : Gam EE := ⟨[⟨69, ref_IsName_h N⟩], EQT, [], []⟩
theorem w39Gok (N : Nat) : GOk Try.prog TT EE (w39G N) := GOk.cons (ref_IsName_hok N) (GOk.nil EQT_ok)
def w39kR8 (c : Code) : List It2 := atR 8 c
def w39sR8 (x0 : List VLabel) (x1 : Bool) (x5 : Int) : TS EE.T := ⟨65, [(0, .a (.d (.sl (.nam 2)) x0)), (1, .a (.d .bool x1)), (5, .a (.d (.int .i64) x5))], [], []⟩
def w39kL14 (c : Code) : List It2 := atL 14 c
def w39sL14 (x0 : List VLabel) (x6 : Int) (x7 : Int) : TS EE.T := ⟨65, [(0, .a (.d (.sl (.nam 2)) x0)), (6, .a (.d (.int .i64) x6)), (7, .a (.d (.int .i64) x7))], [], []⟩
def w39kL11 (c : Code) : List It2 := atL 11 c
def w39sL11 (x0 : List VLabel) (x6 : Int) : TS EE.T := ⟨65, [(0, .a (.d (.sl (.nam 2)) x0)), (6, .a (.d (.int .i64) x6))], [], []⟩
def w39kL4 (c : Code) : List It2 := atL 4 c
def w39sL4 (x0 : List VLabel) (x1 : Bool) (x5 : Int) : TS EE.T := ⟨65, [(0, .a (.d (.sl (.nam 2)) x0)), (1, .a (.d .bool x1)), (5, .a (.d (.int .i64) x5))], [], []⟩
def w39kE0 (c : Code) : List It2 := [.c c]
def w39sE0 (x0 : List VLabel) (x1 : Bool) : TS EE.T := ⟨65, [(0, .a (.d (.sl (.nam 2)) x0)), (1, .a (.d .bool x1))], [], []⟩
def w39TR8 (c : Code) (N : Nat) (k4 : (List VLabel) → Bool → Int → Option Int) (n : Nat) (x0 : List VLabel) (x1 : Bool) (x5 : Int) : Tree (Lf EE.T × Option Int) :=
  .bnd (idxC x0 x5) fun z4 =>
  .cond (decide ((z4.Value.length : Int) > 100))
  (
    .leaf (.done (w39enc 2), some 2))
  (
    .leaf (.go (w39kL4 c) (w39sL4 x0 x1 (w64 (x5 + 1))), k4 x0 x1 (w64 (x5 + 1))))
theorem w39vR8 (N : Nat) (k4 : (List VLabel) → Bool → Int → Option Int) (n : Nat) (x0 : List VLabel) (x1 : Bool) (x5 : Int) : evM TT EE (w39G N) w39lv w39rs 4000 true (w39kR8 (bodyOf 0 Try.f39)) (w39sR8 x0 x1 x5) = (w39TR8 (bodyOf 0 Try.f39) N k4 n x0 x1 x5).map1 := by kernel_rfl
theorem w39nR8 (N : Nat) (k4 : (List VLabel) → Bool → Int → Option Int) (n : Nat) (x0 : List VLabel) (x1 : Bool) (x5 : Int) : ref_EachLabel_R8 N k4 n x0 x1 x5 = (w39TR8 (bodyOf 0 Try.f39) N k4 n x0 x1 x5).run := by kernel_rfl
theorem w39oR8 {N : Nat} {r : Int} {k4 : (List VLabel) → Bool → Int → Option Int} (hk4 : ∀ x0 x1 x5, k4 x0 x1 x5 = some r → Ends (Y := TT) EE (w39G N) w39lv w39rs (fun u => u = w39enc r) (w39kL4 (bodyOf 0 Try.f39)) (w39sL4 x0 x1 x5)) (n : Nat) (x0 : List VLabel) (x1 : Bool) (x5 : Int) (h : ref_EachLabel_R8 N k4 n x0 x1 x5 = some r) : Ends (Y := TT) EE (w39G N) w39lv w39rs (fun u => u = w39enc r) (w39kR8 (bodyOf 0 Try.f39)) (w39sR8 x0 x1 x5) :=
  tree_use (w39vR8 N k4 n x0 x1 x5) (w39nR8 N k4 n x0 x1 x5) h (show (w39TR8 (bodyOf 0 Try.f39) N k4 n x0 x1 x5).all _ from fun _ => ⟨retp (enc := w39enc) rfl, fun h => hk4 _ _ _ h⟩)
def w39TL14 (c : Code) (N : Nat) (k11 : (List VLabel) → Int → Option Int) (n : Nat) (x0 : List VLabel) (x6 : Int) (x7 : Int) : Tree (Lf EE.T × Option Int) :=
  .cond (decide (x7 < x6))
  (
    .bnd (idxC x0 x7) fun z5 =>
    .bnd (idxC x0 x6) fun z6 =>
    .cond (decide (z5.Name = z6.Name))
    (
      .leaf (.done (w39enc 6), some 6))
    (
      .leaf (.go (w39kL14 c) (w39sL14 x0 x6 (w64 (x7 + 1))), ref_EachLabel_L14 N k11 n x0 x6 (w64 (x7 + 1)))))
  (
    .leaf (.go (w39kL11 c) (w39sL11 x0 (w64 (x6 + 1))), k11 x0 (w64 (x6 + 1))))
theorem w39vL14 (N : Nat) (k11 : (List VLabel) → Int → Option Int) (n : Nat) (x0 : List VLabel) (x6 : Int) (x7 : Int) : evM TT EE (w39G N) w39lv w39rs 4000 true (w39kL14 (bodyOf 0 Try.f39)) (w39sL14 x0 x6 x7) = (w39TL14 (bodyOf 0 Try.f39) N k11 n x0 x6 x7).map1 := by kernel_rfl
theorem w39nL14 (N : Nat) (k11 : (List VLabel) → Int → Option Int) (n : Nat) (x0 : List VLabel) (x6 : Int) (x7 : Int) : ref_EachLabel_L14 N k11 (n + 1) x0 x6 x7 = (w39TL14 (bodyOf 0 Try.f39) N k11 n x0 x6 x7).run := by kernel_rfl
theorem w39oL14 {N : Nat} {r : Int} {k11 : (List VLabel) → Int → Option Int} (hk11 : ∀ x0 x6, k11 x0 x6 = some r → Ends (Y := TT) EE (w39G N) w39lv w39rs (fun u => u = w39enc r) (w39kL11 (bodyOf 0 Try.f39)) (w39sL11 x0 x6)) : ∀ (n : Nat) (x0 : List VLabel) (x6 : Int) (x7 : Int), ref_EachLabel_L14 N k11 n x0 x6 x7 = some r → Ends (Y := TT) EE (w39G N) w39lv w39rs (fun u => u = w39enc r) (w39kL14 (bodyOf 0 Try.f39)) (w39sL14 x0 x6 x7)
  | 0, _, _, _, h => by cases h
  | n + 1, x0, x6, x7, h => tree_use (w39vL14 N k11 n x0 x6 x7) (w39nL14 N k11 n x0 x6 x7) h (show (w39TL14 (bodyOf 0 Try.f39) N k11 n x0 x6 x7).all _ from ⟨fun _ => fun _ => ⟨retp (enc := w39enc) rfl, fun h => (w39oL14 hk11 n) _ _ _ h⟩, fun h => hk11 _ _ h⟩)
def w39TL11 (c : Code) (N : Nat) (n : Nat) (x0 : List VLabel) (x6 : Int) : Tree (Lf EE.T × Option Int) :=
  .cond (decide (x6 < (x0.length : Int)))
  (
    .leaf (.go (w39kL14 c) (w39sL14 x0 x6 0), ref_EachLabel_L14 N (ref_EachLabel_L11 N n) n x0 x6 0))
  (
    .leaf (.done (w39enc 0), some 0))
theorem w39vL11 (N : Nat) (n : Nat) (x0 : List VLabel) (x6 : Int) : evM TT EE (w39G N) w39lv w39rs 4000 true (w39kL11 (bodyOf 0 Try.f39)) (w39sL11 x0 x6) = (w39TL11 (bodyOf 0 Try.f39) N n x0 x6).map1 := by kernel_rfl
theorem w39nL11 (N : Nat) (n : Nat) (x0 : List VLabel) (x6 : Int) : ref_EachLabel_L11 N (n + 1) x0 x6 = (w39TL11 (bodyOf 0 Try.f39) N n x0 x6).run := by kernel_rfl
theorem w39oL11 {N : Nat} {r : Int} : ∀ (n : Nat) (x0 : List VLabel) (x6 : Int), ref_EachLabel_L11 N n x0 x6 = some r → Ends (Y := TT) EE (w39G N) w39lv w39rs (fun u => u = w39enc r) (w39kL11 (bodyOf 0 Try.f39)) (w39sL11 x0 x6)
  | 0, _, _, h => by cases h
  | n + 1, x0, x6, h => tree_use (w39vL11 N n x0 x6) (w39nL11 N n x0 x6) h (show (w39TL11 (bodyOf 0 Try.f39) N n x0 x6).all _ from ⟨fun h => w39oL14 (w39oL11 n) n _ _ _ h, retp (enc := w39enc) rfl⟩)
def w39TL4 (c : Code) (N : Nat) (n : Nat) (x0 : List VLabel) (x1 : Bool) (x5 : Int) : Tree (Lf EE.T × Option Int) :=
  .cond (decide (x5 < (x0.length : Int)))
  (
    .bnd (idxC x0 x5) fun z1 =>
    .bnd (ref_IsName N z1.Name) fun z2 =>
    .cond (!z2)
    (
      .leaf (.done (w39enc 1), some 1))
    (
      .bnd (idxC x0 x5) fun z3 =>
      .cond (decide (z3.Value = ([] : List UInt8)))
      (
        .cond (!x1)
        (
          .leaf (.done (w39enc 1), some 1))
        (
          .leaf (.go (w39kR8 c) (w39sR8 x0 x1 x5), ref_EachLabel_R8 N (ref_EachLabel_L4 N n) n x0 x1 x5)))
      (
        .leaf (.go (w39kR8 c) (w39sR8 x0 x1 x5), ref_EachLabel_R8 N (ref_EachLabel_L4 N n) n x0 x1 x5))))
  (
    .leaf (.go (w39kL11 c) (w39sL11 x0 0), ref_EachLabel_L11 N n x0 0))
theorem w39vL4 (N : Nat) (n : Nat) (x0 : List VLabel) (x1 : Bool) (x5 : Int) : evM TT EE (w39G N) w39lv w39rs 4000 true (w39kL4 (bodyOf 0 Try.f39)) (w39sL4 x0 x1 x5) = (w39TL4 (bodyOf 0 Try.f39) N n x0 x1 x5).map1 := by kernel_rfl
theorem w39nL4 (N : Nat) (n : Nat) (x0 : List VLabel) (x1 : Bool) (x5 : Int) : ref_EachLabel_L4 N (n + 1) x0 x1 x5 = (w39TL4 (bodyOf 0 Try.f39) N n x0 x1 x5).run := by kernel_rfl
theorem w39oL4 {N : Nat} {r : Int} : ∀ (n : Nat) (x0 : List VLabel) (x1 : Bool) (x5 : Int), ref_EachLabel_L4 N n x0 x1 x5 = some r → Ends (Y := TT) EE (w39G N) w39lv w39rs (fun u => u = w39enc r) (w39kL4 (bodyOf 0 Try.f39)) (w39sL4 x0 x1 x5)
  | 0, _, _, _, h => by cases h
  | n + 1, x0, x1, x5, h => tree_use (w39vL4 N n x0 x1 x5) (w39nL4 N n x0 x1 x5) h (show (w39TL4 (bodyOf 0 Try.f39) N n x0 x1 x5).all _ from ⟨fun _ => fun _ => ⟨retp (enc := w39enc) rfl, fun _ => ⟨⟨retp (enc := w39enc) rfl, fun h => w39oR8 (w39oL4 n) n _ _ _ h⟩, fun h => w39oR8 (w39oL4 n) n _ _ _ h⟩⟩, fun h => w39oL11 n _ _ h⟩)
def w39TE0 (c : Code) (N : Nat) (x0 : List VLabel) (x1 : Bool) : Tree (Lf EE.T × Option Int) :=
  .cond (decide ((x0.length : Int) > 20))
  (
    .leaf (.done (w39enc 2), some 2))
  (
    .leaf (.go (w39kL4 c) (w39sL4 x0 x1 0), ref_EachLabel_L4 N N x0 x1 0))
theorem w39vE0 (N : Nat) (x0 : List VLabel) (x1 : Bool) : evM TT EE (w39G N) w39lv w39rs 4000 true (w39kE0 (bodyOf 0 Try.f39)) (w39sE0 x0 x1) = (w39TE0 (bodyOf 0 Try.f39) N x0 x1).map1 := by kernel_rfl
theorem w39nE0 (N : Nat) (x0 : List VLabel) (x1 : Bool) : ref_EachLabel N x0 x1 = (w39TE0 (bodyOf 0 Try.f39) N x0 x1).run := by kernel_rfl
theorem w39oE0 {N : Nat} {r : Int} (x0 : List VLabel) (x1 : Bool) (h : ref_EachLabel N x0 x1 = some r) : Ends (Y := TT) EE (w39G N) w39lv w39rs (fun u => u = w39enc r) (w39kE0 (bodyOf 0 Try.f39)) (w39sE0 x0 x1) :=
  tree_use (w39vE0 N x0 x1) (w39nE0 N x0 x1) h (show (w39TE0 (bodyOf 0 Try.f39) N x0 x1).all _ from ⟨retp (enc := w39enc) rfl, fun h => w39oL4 N _ _ _ h⟩)
theorem ref_EachLabel_ok {N : Nat} (x0 : List VLabel) (x1 : Bool) {r : Int} (h : ref_EachLabel N x0 x1 = some r) (ρ : Nat → Nat) : ACalls Try.prog 39 (([.a (.d (.sl (.nam 2)) x0), .a (.d .bool x1)] : List (TV EE.T)).map (TV.to EE.toEnc ρ)) [] (fun out H => out = .ret ((ref_EachLabel_u r).to EE.toEnc ρ) ∧ H = []) :=
  (fn_ok (bodyOf 0 Try.f39) 65 mixed (w39Gok N) Try.func39 (by kernel_rfl) rfl rfl rfl rfl (w39oE0 x0 x1 h) ρ).mono fun out H h => KPost.ret rfl h
def ref_EachLabel_h (N : Nat) : List (TV EE.T) → PV EE.T
  | [u0, u1] => match argD (.sl (.nam 2)) u0, argD .bool u1 with
    | some x0, some x1 => .opt (ref_EachLabel N x0 x1) ref_EachLabel_u
    | _, _ => .bad
  | _ => .bad
theorem ref_EachLabel_hok (N : Nat) (us : List (TV EE.T)) : (ref_EachLabel_h N us).ok fun u => ∀ ρ, ACalls Try.prog 39 (us.map (TV.to EE.toEnc ρ)) [] (fun out H => out = .ret (u.to EE.toEnc ρ) ∧ H = []) := by
  unfold ref_EachLabel_h
  split
  · split
    · rename_i h0 h1
      intro z hz ρ; refine acalls_le ?_ (ref_EachLabel_ok _ _ hz ρ); exact ⟨argD_le h0 ρ, argD_le h1 ρ, trivial⟩
    · trivial
  · trivial
def ref_CheckLabels_u (r : Int) : TV EE.T := .a (.d (.int .i64) r)
def w15enc (r : Int) : RL EE.T := .ret (ref_CheckLabels_u r) []
def w15lv : Lvs := ⟨[(4, ⟨[(0, false), (3, false), (4, false)], [], []⟩), (5, ⟨[(0, false), (3, false), (4, false)], [], []⟩)], [(3, ⟨[(0, false), (3, false), (4, false)], [], []⟩)], [4], [], false, [], []⟩
def w15rs : List ResultVar := [.tmp 2]
def w15G (N : Nat) : Gam EE := ⟨[⟨39, ref_EachLabel_h N⟩], EQT, [], []⟩
theorem w15Gok (N : Nat) : GOk Try.prog TT EE (w15G N) := GOk.cons (ref_EachLabel_hok N) (GOk.nil EQT_ok)
def w15kR4 (c : Code) : List It2 := atR 4 c
def w15sR4 (x0 : List VLabel) (x3 : Int) (x4 : Int) : TS EE.T := ⟨30, [(0, .a (.d (.sl (.nam 2)) x0)), (3, .a (.d (.int .i64) x3)), (4, .a (.d (.int .i64) x4))], [], []⟩
def w15kL3 (c : Code) : List It2 := atL 3 c
def w15sL3 (x0 : List VLabel) (x3 : Int) (x4 : Int) : TS EE.T := ⟨30, [(0, .a (.d (.sl (.nam 2)) x0)), (3, .a (.d (.int .i64) x3)), (4, .a (.d (.int .i64) x4))], [], []⟩
def w15kE0 (c : Code) : List It2 := [.c c]
def w15sE0 (x0 : List VLabel) : TS EE.T := ⟨30, [(0, .a (.d (.sl (.nam 2)) x0))], [], []⟩
def w15TR4 (c : Code) (N : Nat) (k3 : (List VLabel) → Int → Int → Option Int) (n : Nat) (x0 : List VLabel) (x3 : Int) (x4 : Int) : Tree (Lf EE.T × Option Int) :=
  .leaf (.go (w15kL3 c) (w15sL3 x0 x3 (w64 (x4 + 1))), k3 x0 x3 (w64 (x4 + 1)))
theorem w15vR4 (N : Nat) (k3 : (List VLabel) → Int → Int → Option Int) (n : Nat) (x0 : List VLabel) (x3 : Int) (x4 : Int) : evM TT EE (w15G N) w15lv w15rs 4000 true (w15kR4 (bodyOf 0 Try.f15)) (w15sR4 x0 x3 x4) = (w15TR4 (bodyOf 0 Try.f15) N k3 n x0 x3 x4).map1 := by kernel_rfl
theorem w15nR4 (N : Nat) (k3 : (List VLabel) → Int → Int → Option Int) (n : Nat) (x0 : List VLabel) (x3 : Int) (x4 : Int) : ref_CheckLabels_R4 N k3 n x0 x3 x4 = (w15TR4 (bodyOf 0 Try.f15) N k3 n x0 x3 x4).run := by kernel_rfl
theorem w15oR4 {N : Nat} {r : Int} {k3 : (List VLabel) → Int → Int → Option Int} (hk3 : ∀ x0 x3 x4, k3 x0 x3 x4 = some r → Ends (Y := TT) EE (w15G N) w15lv w15rs (fun u => u = w15enc r) (w15kL3 (bodyOf 0 Try.f15)) (w15sL3 x0 x3 x4)) (n : Nat) (x0 : List VLabel) (x3 : Int) (x4 : Int) (h : ref_CheckLabels_R4 N k3 n x0 x3 x4 = some r) : Ends (Y := TT) EE (w15G N) w15lv w15rs (fun u => u = w15enc r) (w15kR4 (bodyOf 0 Try.f15)) (w15sR4 x0 x3 x4) :=
  tree_use (w15vR4 N k3 n x0 x3 x4) (w15nR4 N k3 n x0 x3 x4) h (show (w15TR4 (bodyOf 0 Try.f15) N k3 n x0 x3 x4).all _ from fun h => hk3 _ _ _ h)
def w15TL3 (c : Code) (N : Nat) (n : Nat) (x0 : List VLabel) (x3 : Int) (x4 : Int) : Tree (Lf EE.T × Option Int) :=
  .cond (decide (x4 < (x0.length : Int)))
  (
    .cond (x3 == 0)
    (
      .bnd (idxC x0 x4) fun z2 =>
      .bnd (idxC x0 (w64 (x4 - 1))) fun z3 =>
      .cond (Op.bytesLess z2.Name z3.Name)
      (
        .leaf (.go (w15kR4 c) (w15sR4 x0 4 x4), ref_CheckLabels_R4 N (ref_CheckLabels_L3 N n) n x0 4 x4))
      (
        .leaf (.go (w15kR4 c) (w15sR4 x0 x3 x4), ref_CheckLabels_R4 N (ref_CheckLabels_L3 N n) n x0 x3 x4)))
    (
      .leaf (.done (w15enc x3), some x3)))
  (
    .leaf (.done (w15enc x3), some x3))
theorem w15vL3 (N : Nat) (n : Nat) (x0 : List VLabel) (x3 : Int) (x4 : Int) : evM TT EE (w15G N) w15lv w15rs 4000 true (w15kL3 (bodyOf 0 Try.f15)) (w15sL3 x0 x3 x4) = (w15TL3 (bodyOf 0 Try.f15) N n x0 x3 x4).map1 := by kernel_rfl
theorem w15nL3 (N : Nat) (n : Nat) (x0 : List VLabel) (x3 : Int) (x4 : Int) : ref_CheckLabels_L3 N (n + 1) x0 x3 x4 = (w15TL3 (bodyOf 0 Try.f15) N n x0 x3 x4).run := by kernel_rfl
theorem w15oL3 {N : Nat} {r : Int} : ∀ (n : Nat) (x0 : List VLabel) (x3 : Int) (x4 : Int), ref_CheckLabels_L3 N n x0 x3 x4 = some r → Ends (Y := TT) EE (w15G N) w15lv w15rs (fun u => u = w15enc r) (w15kL3 (bodyOf 0 Try.f15)) (w15sL3 x0 x3 x4)
  | 0, _, _, _, h => by cases h
  | n + 1, x0, x3, x4, h => tree_use (w15vL3 N n x0 x3 x4) (w15nL3 N n x0 x3 x4) h (show (w15TL3 (bodyOf 0 Try.f15) N n x0 x3 x4).all _ from ⟨⟨fun _ => fun _ => ⟨fun h => w15oR4 (w15oL3 n) n _ _ _ h, fun h => w15oR4 (w15oL3 n) n _ _ _ h⟩, retp (enc := w15enc) rfl⟩, retp (enc := w15enc) rfl⟩)
def w15TE0 (c : Code) (N : Nat) (x0 : List VLabel) : Tree (Lf EE.T × Option Int) :=
  .bnd (ref_EachLabel N x0 false) fun z1 =>
  .leaf (.go (w15kL3 c) (w15sL3 x0 z1 1), ref_CheckLabels_L3 N N x0 z1 1)
theorem w15vE0 (N : Nat) (x0 : List VLabel) : evM TT EE (w15G N) w15lv w15rs 4000 true (w15kE0 (bodyOf 0 Try.f15)) (w15sE0 x0) = (w15TE0 (bodyOf 0 Try.f15) N x0).map1 := by kernel_rfl
theorem w15nE0 (N : Nat) (x0 : List VLabel) : ref_CheckLabels N x0 = (w15TE0 (bodyOf 0 Try.f15) N x0).run := by kernel_rfl
theorem w15oE0 {N : Nat} {r : Int} (x0 : List VLabel) (h : ref_CheckLabels N x0 = some r) : Ends (Y := TT) EE (w15G N) w15lv w15rs (fun u => u = w15enc r) (w15kE0 (bodyOf 0 Try.f15)) (w15sE0 x0) :=
  tree_use (w15vE0 N x0) (w15nE0 N x0) h (show (w15TE0 (bodyOf 0 Try.f15) N x0).all _ from fun _ => fun h => w15oL3 N _ _ _ h)
theorem ref_CheckLabels_ok {N : Nat} (x0 : List VLabel) {r : Int} (h : ref_CheckLabels N x0 = some r) (ρ : Nat → Nat) : ACalls Try.prog 15 (([.a (.d (.sl (.nam 2)) x0)] : List (TV EE.T)).map (TV.to EE.toEnc ρ)) [] (fun out H => out = .ret ((ref_CheckLabels_u r).to EE.toEnc ρ) ∧ H = []) :=
  (fn_ok (bodyOf 0 Try.f15) 30 mixed (w15Gok N) Try.func15 (by kernel_rfl) rfl rfl rfl rfl (w15oE0 x0 h) ρ).mono fun out H h => KPost.ret rfl h
def ref_CheckLabels_h (N : Nat) : List (TV EE.T) → PV EE.T
  | [u0] => match argD (.sl (.nam 2)) u0 with
    | some x0 => .opt (ref_CheckLabels N x0) ref_CheckLabels_u
    | _ => .bad
  | _ => .bad
theorem ref_CheckLabels_hok (N : Nat) (us : List (TV EE.T)) : (ref_CheckLabels_h N us).ok fun u => ∀ ρ, ACalls Try.prog 15 (us.map (TV.to EE.toEnc ρ)) [] (fun out H => out = .ret (u.to EE.toEnc ρ) ∧ H = []) := by
  unfold ref_CheckLabels_h
  split
  · split
    · rename_i h0
      intro z hz ρ; refine acalls_le ?_ (ref_CheckLabels_ok _ hz ρ); exact ⟨argD_le h0 ρ, trivial⟩
    · trivial
  · trivial
def ref_IsTime_u (r : Bool) : TV EE.T := .a (.d .bool r)
def w29enc (r : Bool) : RL EE.T := .ret (ref_IsTime_u r) []
def w29lv : Lvs := ⟨[], [], [], [], false, [], []⟩
def w29rs : List ResultVar := [.tmp 2]
def w29G (N : Nat) : Gam EE := ⟨[], EQT, [], []⟩
theorem w29Gok (N : Nat) : GOk Try.prog TT EE (w29G N) := GOk.nil EQT_ok
def w29kE0 (c : Code) : List It2 := [.c c]
def w29sE0 (x0 : Int) : TS EE.T := ⟨9, [(0, .a (.d (.int .i64) x0))], [], []⟩
def w29TE0 (c : Code) (N : Nat) (x0 : Int) : Tree (Lf EE.T × Option Bool) :=
  .cond (decide (x0 ≥ (-9007199254740991)))
  (
    .leaf (.done (w29enc (decide (x0 ≤ 9007199254740991))), some (decide (x0 ≤ 9007199254740991))))
  (
    .leaf (.done (w29enc false), some false))
theorem w29vE0 (N : Nat) (x0 : Int) : evM TT EE (w29G N) w29lv w29rs 4000 true (w29kE0 (bodyOf 0 Try.f29)) (w29sE0 x0) = (w29TE0 (bodyOf 0 Try.f29) N x0).map1 := by kernel_rfl
theorem w29nE0 (N : Nat) (x0 : Int) : ref_IsTime N x0 = (w29TE0 (bodyOf 0 Try.f29) N x0).run := by kernel_rfl
theorem w29oE0 {N : Nat} {r : Bool} (x0 : Int) (h : ref_IsTime N x0 = some r) : Ends (Y := TT) EE (w29G N) w29lv w29rs (fun u => u = w29enc r) (w29kE0 (bodyOf 0 Try.f29)) (w29sE0 x0) :=
  tree_use (w29vE0 N x0) (w29nE0 N x0) h (show (w29TE0 (bodyOf 0 Try.f29) N x0).all _ from ⟨retp (enc := w29enc) rfl, retp (enc := w29enc) rfl⟩)
theorem ref_IsTime_ok {N : Nat} (x0 : Int) {r : Bool} (h : ref_IsTime N x0 = some r) (ρ : Nat → Nat) : ACalls Try.prog 29 (([.a (.d (.int .i64) x0)] : List (TV EE.T)).map (TV.to EE.toEnc ρ)) [] (fun out H => out = .ret ((ref_IsTime_u r).to EE.toEnc ρ) ∧ H = []) :=
  (fn_ok (bodyOf 0 Try.f29) 9 mixed (w29Gok N) Try.func29 (by kernel_rfl) rfl rfl rfl rfl (w29oE0 x0 h) ρ).mono fun out H h => KPost.ret rfl h
def ref_IsTime_h (N : Nat) : List (TV EE.T) → PV EE.T
  | [u0] => match argD (.int .i64) u0 with
    | some x0 => .opt (ref_IsTime N x0) ref_IsTime_u
    | _ => .bad
  | _ => .bad
theorem ref_IsTime_hok (N : Nat) (us : List (TV EE.T)) : (ref_IsTime_h N us).ok fun u => ∀ ρ, ACalls Try.prog 29 (us.map (TV.to EE.toEnc ρ)) [] (fun out H => out = .ret (u.to EE.toEnc ρ) ∧ H = []) := by
  unfold ref_IsTime_h
  split
  · split
    · rename_i h0
      intro z hz ρ; refine acalls_le ?_ (ref_IsTime_ok _ hz ρ); exact ⟨argD_le h0 ρ, trivial⟩
    · trivial
  · trivial
def ref_Order_u (r : Int) : TV EE.T := .a (.d (.int .i64) r)
def w30enc (r : Int) : RL EE.T := .ret (ref_Order_u r) []
def w30lv : Lvs := ⟨[(4, ⟨[(0, false), (1, false), (5, false)], [], []⟩), (6, ⟨[(0, false), (1, false), (5, false)], [], []⟩), (7, ⟨[(0, false), (1, false), (5, false), (6, false), (7, false)], [], []⟩), (11, ⟨[(0, false), (1, false)], [], []⟩)], [(2, ⟨[(0, false), (1, false), (5, false)], [], []⟩)], [7, 11], [], false, [], []⟩
def w30rs : List ResultVar := [.tmp 4]
def w30G (N : Nat) : Gam EE := ⟨[], EQT, [], []⟩
theorem w30Gok (N : Nat) : GOk Try.prog TT EE (w30G N) := GOk.nil EQT_ok
def w30kR7 (c : Code) : List It2 := atR 7 c
def w30sR7 (x0 : List VLabel) (x1 : List VLabel) (x5 : Int) (x6 : List UInt8) (x7 : List UInt8) : TS EE.T := ⟨61, [(0, .a (.d (.sl (.nam 2)) x0)), (1, .a (.d (.sl (.nam 2)) x1)), (5, .a (.d (.int .i64) x5)), (6, .a (.d .str x6)), (7, .a (.d .str x7))], [], []⟩
def w30kR11 (c : Code) : List It2 := atR 11 c
def w30sR11 (x0 : List VLabel) (x1 : List VLabel) : TS EE.T := ⟨61, [(0, .a (.d (.sl (.nam 2)) x0)), (1, .a (.d (.sl (.nam 2)) x1))], [], []⟩
def w30kL2 (c : Code) : List It2 := atL 2 c
def w30sL2 (x0 : List VLabel) (x1 : List VLabel) (x5 : Int) : TS EE.T := ⟨61, [(0, .a (.d (.sl (.nam 2)) x0)), (1, .a (.d (.sl (.nam 2)) x1)), (5, .a (.d (.int .i64) x5))], [], []⟩
def w30kE0 (c : Code) : List It2 := [.c c]
def w30sE0 (x0 : List VLabel) (x1 : List VLabel) : TS EE.T := ⟨61, [(0, .a (.d (.sl (.nam 2)) x0)), (1, .a (.d (.sl (.nam 2)) x1))], [], []⟩
def w30TR7 (c : Code) (N : Nat) (k2 : (List VLabel) → (List VLabel) → Int → Option Int) (n : Nat) (x0 : List VLabel) (x1 : List VLabel) (x5 : Int) (x6 : List UInt8) (x7 : List UInt8) : Tree (Lf EE.T × Option Int) :=
  .cond (Op.bytesLess x6 x7)
  (
    .leaf (.done (w30enc (-1)), some (-1)))
  (
    .cond (!(Op.bytesLess x6 x7 || decide (x6 = x7)))
    (
      .leaf (.done (w30enc 1), some 1))
    (
      .leaf (.go (w30kL2 c) (w30sL2 x0 x1 (w64 (x5 + 1))), k2 x0 x1 (w64 (x5 + 1)))))
theorem w30vR7 (N : Nat) (k2 : (List VLabel) → (List VLabel) → Int → Option Int) (n : Nat) (x0 : List VLabel) (x1 : List VLabel) (x5 : Int) (x6 : List UInt8) (x7 : List UInt8) : evM TT EE (w30G N) w30lv w30rs 4000 true (w30kR7 (bodyOf 0 Try.f30)) (w30sR7 x0 x1 x5 x6 x7) = (w30TR7 (bodyOf 0 Try.f30) N k2 n x0 x1 x5 x6 x7).map1 := by kernel_rfl
theorem w30nR7 (N : Nat) (k2 : (List VLabel) → (List VLabel) → Int → Option Int) (n : Nat) (x0 : List VLabel) (x1 : List VLabel) (x5 : Int) (x6 : List UInt8) (x7 : List UInt8) : ref_Order_R7 N k2 n x0 x1 x5 x6 x7 = (w30TR7 (bodyOf 0 Try.f30) N k2 n x0 x1 x5 x6 x7).run := by kernel_rfl
theorem w30oR7 {N : Nat} {r : Int} {k2 : (List VLabel) → (List VLabel) → Int → Option Int} (hk2 : ∀ x0 x1 x5, k2 x0 x1 x5 = some r → Ends (Y := TT) EE (w30G N) w30lv w30rs (fun u => u = w30enc r) (w30kL2 (bodyOf 0 Try.f30)) (w30sL2 x0 x1 x5)) (n : Nat) (x0 : List VLabel) (x1 : List VLabel) (x5 : Int) (x6 : List UInt8) (x7 : List UInt8) (h : ref_Order_R7 N k2 n x0 x1 x5 x6 x7 = some r) : Ends (Y := TT) EE (w30G N) w30lv w30rs (fun u => u = w30enc r) (w30kR7 (bodyOf 0 Try.f30)) (w30sR7 x0 x1 x5 x6 x7) :=
  tree_use (w30vR7 N k2 n x0 x1 x5 x6 x7) (w30nR7 N k2 n x0 x1 x5 x6 x7) h (show (w30TR7 (bodyOf 0 Try.f30) N k2 n x0 x1 x5 x6 x7).all _ from ⟨retp (enc := w30enc) rfl, ⟨retp (enc := w30enc) rfl, fun h => hk2 _ _ _ h⟩⟩)
def w30TR11 (c : Code) (N : Nat) (n : Nat) (x0 : List VLabel) (x1 : List VLabel) : Tree (Lf EE.T × Option Int) :=
  .cond (decide ((x0.length : Int) < (x1.length : Int)))
  (
    .leaf (.done (w30enc (-1)), some (-1)))
  (
    .cond (decide ((x0.length : Int) > (x1.length : Int)))
    (
      .leaf (.done (w30enc 1), some 1))
    (
      .leaf (.done (w30enc 0), some 0)))
theorem w30vR11 (N : Nat) (n : Nat) (x0 : List VLabel) (x1 : List VLabel) : evM TT EE (w30G N) w30lv w30rs 4000 true (w30kR11 (bodyOf 0 Try.f30)) (w30sR11 x0 x1) = (w30TR11 (bodyOf 0 Try.f30) N n x0 x1).map1 := by kernel_rfl
theorem w30nR11 (N : Nat) (n : Nat) (x0 : List VLabel) (x1 : List VLabel) : ref_Order_R11 N n x0 x1 = (w30TR11 (bodyOf 0 Try.f30) N n x0 x1).run := by kernel_rfl
theorem w30oR11 {N : Nat} {r : Int} (n : Nat) (x0 : List VLabel) (x1 : List VLabel) (h : ref_Order_R11 N n x0 x1 = some r) : Ends (Y := TT) EE (w30G N) w30lv w30rs (fun u => u = w30enc r) (w30kR11 (bodyOf 0 Try.f30)) (w30sR11 x0 x1) :=
  tree_use (w30vR11 N n x0 x1) (w30nR11 N n x0 x1) h (show (w30TR11 (bodyOf 0 Try.f30) N n x0 x1).all _ from ⟨retp (enc := w30enc) rfl, ⟨retp (enc := w30enc) rfl, retp (enc := w30enc) rfl⟩⟩)
def w30TL2 (c : Code) (N : Nat) (n : Nat) (x0 : List VLabel) (x1 : List VLabel) (x5 : Int) : Tree (Lf EE.T × Option Int) :=
  .cond (decide (x5 < (x0.length : Int)))
  (
    .cond (decide (x5 < (x1.length : Int)))
    (
      .bnd (idxC x0 x5) fun z1 =>
      .bnd (idxC x1 x5) fun z2 =>
      .cond (decide (z1.Name = z2.Name))
      (
        .bnd (idxC x0 x5) fun z3 =>
        .bnd (idxC x1 x5) fun z4 =>
        .leaf (.go (w30kR7 c) (w30sR7 x0 x1 x5 z3.Value z4.Value), ref_Order_R7 N (ref_Order_L2 N n) n x0 x1 x5 z3.Value z4.Value))
      (
        .leaf (.go (w30kR7 c) (w30sR7 x0 x1 x5 z1.Name z2.Name), ref_Order_R7 N (ref_Order_L2 N n) n x0 x1 x5 z1.Name z2.Name)))
    (
      .leaf (.go (w30kR11 c) (w30sR11 x0 x1), ref_Order_R11 N n x0 x1)))
  (
    .leaf (.go (w30kR11 c) (w30sR11 x0 x1), ref_Order_R11 N n x0 x1))
theorem w30vL2 (N : Nat) (n : Nat) (x0 : List VLabel) (x1 : List VLabel) (x5 : Int) : evM TT EE (w30G N) w30lv w30rs 4000 true (w30kL2 (bodyOf 0 Try.f30)) (w30sL2 x0 x1 x5) = (w30TL2 (bodyOf 0 Try.f30) N n x0 x1 x5).map1 := by kernel_rfl
theorem w30nL2 (N : Nat) (n : Nat) (x0 : List VLabel) (x1 : List VLabel) (x5 : Int) : ref_Order_L2 N (n + 1) x0 x1 x5 = (w30TL2 (bodyOf 0 Try.f30) N n x0 x1 x5).run := by kernel_rfl
theorem w30oL2 {N : Nat} {r : Int} : ∀ (n : Nat) (x0 : List VLabel) (x1 : List VLabel) (x5 : Int), ref_Order_L2 N n x0 x1 x5 = some r → Ends (Y := TT) EE (w30G N) w30lv w30rs (fun u => u = w30enc r) (w30kL2 (bodyOf 0 Try.f30)) (w30sL2 x0 x1 x5)
  | 0, _, _, _, h => by cases h
  | n + 1, x0, x1, x5, h => tree_use (w30vL2 N n x0 x1 x5) (w30nL2 N n x0 x1 x5) h (show (w30TL2 (bodyOf 0 Try.f30) N n x0 x1 x5).all _ from ⟨⟨fun _ => fun _ => ⟨fun _ => fun _ => fun h => w30oR7 (w30oL2 n) n _ _ _ _ _ h, fun h => w30oR7 (w30oL2 n) n _ _ _ _ _ h⟩, fun h => w30oR11 n _ _ h⟩, fun h => w30oR11 n _ _ h⟩)
def w30TE0 (c : Code) (N : Nat) (x0 : List VLabel) (x1 : List VLabel) : Tree (Lf EE.T × Option Int) :=
  .leaf (.go (w30kL2 c) (w30sL2 x0 x1 0), ref_Order_L2 N N x0 x1 0)
theorem w30vE0 (N : Nat) (x0 : List VLabel) (x1 : List VLabel) : evM TT EE (w30G N) w30lv w30rs 4000 true (w30kE0 (bodyOf 0 Try.f30)) (w30sE0 x0 x1) = (w30TE0 (bodyOf 0 Try.f30) N x0 x1).map1 := by kernel_rfl
theorem w30nE0 (N : Nat) (x0 : List VLabel) (x1 : List VLabel) : ref_Order N x0 x1 = (w30TE0 (bodyOf 0 Try.f30) N x0 x1).run := by kernel_rfl
theorem w30oE0 {N : Nat} {r : Int} (x0 : List VLabel) (x1 : List VLabel) (h : ref_Order N x0 x1 = some r) : Ends (Y := TT) EE (w30G N) w30lv w30rs (fun u => u = w30enc r) (w30kE0 (bodyOf 0 Try.f30)) (w30sE0 x0 x1) :=
  tree_use (w30vE0 N x0 x1) (w30nE0 N x0 x1) h (show (w30TE0 (bodyOf 0 Try.f30) N x0 x1).all _ from fun h => w30oL2 N _ _ _ h)
theorem ref_Order_ok {N : Nat} (x0 : List VLabel) (x1 : List VLabel) {r : Int} (h : ref_Order N x0 x1 = some r) (ρ : Nat → Nat) : ACalls Try.prog 30 (([.a (.d (.sl (.nam 2)) x0), .a (.d (.sl (.nam 2)) x1)] : List (TV EE.T)).map (TV.to EE.toEnc ρ)) [] (fun out H => out = .ret ((ref_Order_u r).to EE.toEnc ρ) ∧ H = []) :=
  (fn_ok (bodyOf 0 Try.f30) 61 mixed (w30Gok N) Try.func30 (by kernel_rfl) rfl rfl rfl rfl (w30oE0 x0 x1 h) ρ).mono fun out H h => KPost.ret rfl h
def ref_Order_h (N : Nat) : List (TV EE.T) → PV EE.T
  | [u0, u1] => match argD (.sl (.nam 2)) u0, argD (.sl (.nam 2)) u1 with
    | some x0, some x1 => .opt (ref_Order N x0 x1) ref_Order_u
    | _, _ => .bad
  | _ => .bad
theorem ref_Order_hok (N : Nat) (us : List (TV EE.T)) : (ref_Order_h N us).ok fun u => ∀ ρ, ACalls Try.prog 30 (us.map (TV.to EE.toEnc ρ)) [] (fun out H => out = .ret (u.to EE.toEnc ρ) ∧ H = []) := by
  unfold ref_Order_h
  split
  · split
    · rename_i h0 h1
      intro z hz ρ; refine acalls_le ?_ (ref_Order_ok _ _ hz ρ); exact ⟨argD_le h0 ρ, argD_le h1 ρ, trivial⟩
    · trivial
  · trivial
def ref_CheckStore_u (r : Int) : TV EE.T := .a (.d (.int .i64) r)
def w10enc (r : Int) : RL EE.T := .ret (ref_CheckStore_u r) []
def w10lv : Lvs := ⟨[(19, ⟨[(0, false), (3, false), (6, false)], [], []⟩), (24, ⟨[(0, false), (7, false)], [], []⟩)], [(4, ⟨[(0, false), (3, false)], [], []⟩), (12, ⟨[(0, false), (3, false), (5, false)], [], []⟩), (17, ⟨[(0, false), (3, false), (6, false)], [], []⟩), (22, ⟨[(0, false), (7, false)], [], []⟩)], [], [], false, [], []⟩
def w10rs : List ResultVar := [.tmp 2]
def w10G (N : Nat) : Gam EE := ⟨[⟨15, ref_CheckLabels_h N⟩, ⟨28, ref_GreatStore_h N⟩, ⟨29, ref_IsTime_h N⟩, ⟨30, ref_Order_h N⟩], EQT, [], []⟩
theorem w10Gok (N : Nat) : GOk Try.prog TT EE (w10G N) := GOk.cons (ref_CheckLabels_hok N) (GOk.cons (ref_GreatStore_hok N) (GOk.cons (ref_IsTime_hok N) (GOk.cons (ref_Order_hok N) (GOk.nil EQT_ok))))
def w10kL17 (c : Code) : List It2 := atL 17 c
def w10sL17 (x0 : List VSeries) (x3 : Int) (x6 : Int) : TS EE.T := ⟨102, [(0, .a (.d (.sl (.nam 4)) x0)), (3, .a (.d (.int .i64) x3)), (6, .a (.d (.int .i64) x6))], [], []⟩
def w10kL12 (c : Code) : List It2 := atL 12 c
def w10sL12 (x0 : List VSeries) (x3 : Int) (x5 : Int) : TS EE.T := ⟨102, [(0, .a (.d (.sl (.nam 4)) x0)), (3, .a (.d (.int .i64) x3)), (5, .a (.d (.int .i64) x5))], [], []⟩
def w10kL22 (c : Code) : List It2 := atL 22 c
def w10sL22 (x0 : List VSeries) (x7 : Int) : TS EE.T := ⟨102, [(0, .a (.d (.sl (.nam 4)) x0)), (7, .a (.d (.int .i64) x7))], [], []⟩
def w10kL4 (c : Code) : List It2 := atL 4 c
def w10sL4 (x0 : List VSeries) (x3 : Int) : TS EE.T := ⟨102, [(0, .a (.d (.sl (.nam 4)) x0)), (3, .a (.d (.int .i64) x3))], [], []⟩
def w10kE0 (c : Code) : List It2 := [.c c]
def w10sE0 (x0 : List VSeries) : TS EE.T := ⟨102, [(0, .a (.d (.sl (.nam 4)) x0))], [], []⟩
def w10TL17 (c : Code) (N : Nat) (k4 : (List VSeries) → Int → Option Int) (n : Nat) (x0 : List VSeries) (x3 : Int) (x6 : Int) : Tree (Lf EE.T × Option Int) :=
  .bnd (idxC x0 x3) fun z12 =>
  .cond (decide (x6 < (z12.Samples.length : Int)))
  (
    .bnd (idxC x0 x3) fun z13 =>
    .bnd (idxC z13.Samples x6) fun z14 =>
    .bnd (idxC x0 x3) fun z15 =>
    .bnd (idxC z15.Samples (w64 (x6 - 1))) fun z16 =>
    .cond (decide (z14.Time ≤ z16.Time))
    (
      .leaf (.done (w10enc 4), some 4))
    (
      .leaf (.go (w10kL17 c) (w10sL17 x0 x3 (w64 (x6 + 1))), ref_CheckStore_L17 N k4 n x0 x3 (w64 (x6 + 1)))))
  (
    .leaf (.go (w10kL4 c) (w10sL4 x0 (w64 (x3 + 1))), k4 x0 (w64 (x3 + 1))))
theorem w10vL17 (N : Nat) (k4 : (List VSeries) → Int → Option Int) (n : Nat) (x0 : List VSeries) (x3 : Int) (x6 : Int) : evM TT EE (w10G N) w10lv w10rs 4000 true (w10kL17 (bodyOf 0 Try.f10)) (w10sL17 x0 x3 x6) = (w10TL17 (bodyOf 0 Try.f10) N k4 n x0 x3 x6).map1 := by kernel_rfl
theorem w10nL17 (N : Nat) (k4 : (List VSeries) → Int → Option Int) (n : Nat) (x0 : List VSeries) (x3 : Int) (x6 : Int) : ref_CheckStore_L17 N k4 (n + 1) x0 x3 x6 = (w10TL17 (bodyOf 0 Try.f10) N k4 n x0 x3 x6).run := by kernel_rfl
theorem w10oL17 {N : Nat} {r : Int} {k4 : (List VSeries) → Int → Option Int} (hk4 : ∀ x0 x3, k4 x0 x3 = some r → Ends (Y := TT) EE (w10G N) w10lv w10rs (fun u => u = w10enc r) (w10kL4 (bodyOf 0 Try.f10)) (w10sL4 x0 x3)) : ∀ (n : Nat) (x0 : List VSeries) (x3 : Int) (x6 : Int), ref_CheckStore_L17 N k4 n x0 x3 x6 = some r → Ends (Y := TT) EE (w10G N) w10lv w10rs (fun u => u = w10enc r) (w10kL17 (bodyOf 0 Try.f10)) (w10sL17 x0 x3 x6)
  | 0, _, _, _, h => by cases h
  | n + 1, x0, x3, x6, h => tree_use (w10vL17 N k4 n x0 x3 x6) (w10nL17 N k4 n x0 x3 x6) h (show (w10TL17 (bodyOf 0 Try.f10) N k4 n x0 x3 x6).all _ from fun _ => ⟨fun _ => fun _ => fun _ => fun _ => ⟨retp (enc := w10enc) rfl, fun h => (w10oL17 hk4 n) _ _ _ h⟩, fun h => hk4 _ _ h⟩)
def w10TL12 (c : Code) (N : Nat) (k4 : (List VSeries) → Int → Option Int) (n : Nat) (x0 : List VSeries) (x3 : Int) (x5 : Int) : Tree (Lf EE.T × Option Int) :=
  .bnd (idxC x0 x3) fun z5 =>
  .cond (decide (x5 < (z5.Samples.length : Int)))
  (
    .bnd (idxC x0 x3) fun z6 =>
    .bnd (idxC z6.Samples x5) fun z7 =>
    .bnd (ref_IsTime N z7.Time) fun z8 =>
    .cond (!z8)
    (
      .leaf (.done (w10enc 3), some 3))
    (
      .leaf (.go (w10kL12 c) (w10sL12 x0 x3 (w64 (x5 + 1))), ref_CheckStore_L12 N k4 n x0 x3 (w64 (x5 + 1)))))
  (
    .leaf (.go (w10kL17 c) (w10sL17 x0 x3 1), ref_CheckStore_L17 N k4 n x0 x3 1))
theorem w10vL12 (N : Nat) (k4 : (List VSeries) → Int → Option Int) (n : Nat) (x0 : List VSeries) (x3 : Int) (x5 : Int) : evM TT EE (w10G N) w10lv w10rs 4000 true (w10kL12 (bodyOf 0 Try.f10)) (w10sL12 x0 x3 x5) = (w10TL12 (bodyOf 0 Try.f10) N k4 n x0 x3 x5).map1 := by kernel_rfl
theorem w10nL12 (N : Nat) (k4 : (List VSeries) → Int → Option Int) (n : Nat) (x0 : List VSeries) (x3 : Int) (x5 : Int) : ref_CheckStore_L12 N k4 (n + 1) x0 x3 x5 = (w10TL12 (bodyOf 0 Try.f10) N k4 n x0 x3 x5).run := by kernel_rfl
theorem w10oL12 {N : Nat} {r : Int} {k4 : (List VSeries) → Int → Option Int} (hk4 : ∀ x0 x3, k4 x0 x3 = some r → Ends (Y := TT) EE (w10G N) w10lv w10rs (fun u => u = w10enc r) (w10kL4 (bodyOf 0 Try.f10)) (w10sL4 x0 x3)) : ∀ (n : Nat) (x0 : List VSeries) (x3 : Int) (x5 : Int), ref_CheckStore_L12 N k4 n x0 x3 x5 = some r → Ends (Y := TT) EE (w10G N) w10lv w10rs (fun u => u = w10enc r) (w10kL12 (bodyOf 0 Try.f10)) (w10sL12 x0 x3 x5)
  | 0, _, _, _, h => by cases h
  | n + 1, x0, x3, x5, h => tree_use (w10vL12 N k4 n x0 x3 x5) (w10nL12 N k4 n x0 x3 x5) h (show (w10TL12 (bodyOf 0 Try.f10) N k4 n x0 x3 x5).all _ from fun _ => ⟨fun _ => fun _ => fun _ => ⟨retp (enc := w10enc) rfl, fun h => (w10oL12 hk4 n) _ _ _ h⟩, fun h => w10oL17 hk4 n _ _ _ h⟩)
def w10TL22 (c : Code) (N : Nat) (n : Nat) (x0 : List VSeries) (x7 : Int) : Tree (Lf EE.T × Option Int) :=
  .cond (decide (x7 < (x0.length : Int)))
  (
    .bnd (idxC x0 (w64 (x7 - 1))) fun z9 =>
    .bnd (idxC x0 x7) fun z10 =>
    .bnd (ref_Order N z9.Labels z10.Labels) fun z11 =>
    .cond (decide (z11 ≥ 0))
    (
      .leaf (.done (w10enc 4), some 4))
    (
      .leaf (.go (w10kL22 c) (w10sL22 x0 (w64 (x7 + 1))), ref_CheckStore_L22 N n x0 (w64 (x7 + 1)))))
  (
    .leaf (.done (w10enc 0), some 0))
theorem w10vL22 (N : Nat) (n : Nat) (x0 : List VSeries) (x7 : Int) : evM TT EE (w10G N) w10lv w10rs 4000 true (w10kL22 (bodyOf 0 Try.f10)) (w10sL22 x0 x7) = (w10TL22 (bodyOf 0 Try.f10) N n x0 x7).map1 := by kernel_rfl
theorem w10nL22 (N : Nat) (n : Nat) (x0 : List VSeries) (x7 : Int) : ref_CheckStore_L22 N (n + 1) x0 x7 = (w10TL22 (bodyOf 0 Try.f10) N n x0 x7).run := by kernel_rfl
theorem w10oL22 {N : Nat} {r : Int} : ∀ (n : Nat) (x0 : List VSeries) (x7 : Int), ref_CheckStore_L22 N n x0 x7 = some r → Ends (Y := TT) EE (w10G N) w10lv w10rs (fun u => u = w10enc r) (w10kL22 (bodyOf 0 Try.f10)) (w10sL22 x0 x7)
  | 0, _, _, h => by cases h
  | n + 1, x0, x7, h => tree_use (w10vL22 N n x0 x7) (w10nL22 N n x0 x7) h (show (w10TL22 (bodyOf 0 Try.f10) N n x0 x7).all _ from ⟨fun _ => fun _ => fun _ => ⟨retp (enc := w10enc) rfl, fun h => (w10oL22 n) _ _ h⟩, retp (enc := w10enc) rfl⟩)
def w10TL4 (c : Code) (N : Nat) (n : Nat) (x0 : List VSeries) (x3 : Int) : Tree (Lf EE.T × Option Int) :=
  .cond (decide (x3 < (x0.length : Int)))
  (
    .bnd (idxC x0 x3) fun z2 =>
    .bnd (ref_CheckLabels N z2.Labels) fun z3 =>
    .cond (z3 != 0)
    (
      .leaf (.done (w10enc z3), some z3))
    (
      .bnd (idxC x0 x3) fun z4 =>
      .cond ((z4.Samples.length : Int) == 0)
      (
        .leaf (.done (w10enc 3), some 3))
      (
        .leaf (.go (w10kL12 c) (w10sL12 x0 x3 0), ref_CheckStore_L12 N (ref_CheckStore_L4 N n) n x0 x3 0))))
  (
    .leaf (.go (w10kL22 c) (w10sL22 x0 1), ref_CheckStore_L22 N n x0 1))
theorem w10vL4 (N : Nat) (n : Nat) (x0 : List VSeries) (x3 : Int) : evM TT EE (w10G N) w10lv w10rs 4000 true (w10kL4 (bodyOf 0 Try.f10)) (w10sL4 x0 x3) = (w10TL4 (bodyOf 0 Try.f10) N n x0 x3).map1 := by kernel_rfl
theorem w10nL4 (N : Nat) (n : Nat) (x0 : List VSeries) (x3 : Int) : ref_CheckStore_L4 N (n + 1) x0 x3 = (w10TL4 (bodyOf 0 Try.f10) N n x0 x3).run := by kernel_rfl
theorem w10oL4 {N : Nat} {r : Int} : ∀ (n : Nat) (x0 : List VSeries) (x3 : Int), ref_CheckStore_L4 N n x0 x3 = some r → Ends (Y := TT) EE (w10G N) w10lv w10rs (fun u => u = w10enc r) (w10kL4 (bodyOf 0 Try.f10)) (w10sL4 x0 x3)
  | 0, _, _, h => by cases h
  | n + 1, x0, x3, h => tree_use (w10vL4 N n x0 x3) (w10nL4 N n x0 x3) h (show (w10TL4 (bodyOf 0 Try.f10) N n x0 x3).all _ from ⟨fun _ => fun _ => ⟨retp (enc := w10enc) rfl, fun _ => ⟨retp (enc := w10enc) rfl, fun h => w10oL12 (w10oL4 n) n _ _ _ h⟩⟩, fun h => w10oL22 n _ _ h⟩)
def w10TE0 (c : Code) (N : Nat) (x0 : List VSeries) : Tree (Lf EE.T × Option Int) :=
  .bnd (ref_GreatStore N x0) fun z1 =>
  .cond (z1)
  (
    .leaf (.done (w10enc 2), some 2))
  (
    .leaf (.go (w10kL4 c) (w10sL4 x0 0), ref_CheckStore_L4 N N x0 0))
theorem w10vE0 (N : Nat) (x0 : List VSeries) : evM TT EE (w10G N) w10lv w10rs 4000 true (w10kE0 (bodyOf 0 Try.f10)) (w10sE0 x0) = (w10TE0 (bodyOf 0 Try.f10) N x0).map1 := by kernel_rfl
theorem w10nE0 (N : Nat) (x0 : List VSeries) : ref_CheckStore N x0 = (w10TE0 (bodyOf 0 Try.f10) N x0).run := by kernel_rfl
theorem w10oE0 {N : Nat} {r : Int} (x0 : List VSeries) (h : ref_CheckStore N x0 = some r) : Ends (Y := TT) EE (w10G N) w10lv w10rs (fun u => u = w10enc r) (w10kE0 (bodyOf 0 Try.f10)) (w10sE0 x0) :=
  tree_use (w10vE0 N x0) (w10nE0 N x0) h (show (w10TE0 (bodyOf 0 Try.f10) N x0).all _ from fun _ => ⟨retp (enc := w10enc) rfl, fun h => w10oL4 N _ _ h⟩)
theorem ref_CheckStore_ok {N : Nat} (x0 : List VSeries) {r : Int} (h : ref_CheckStore N x0 = some r) (ρ : Nat → Nat) : ACalls Try.prog 10 (([.a (.d (.sl (.nam 4)) x0)] : List (TV EE.T)).map (TV.to EE.toEnc ρ)) [] (fun out H => out = .ret ((ref_CheckStore_u r).to EE.toEnc ρ) ∧ H = []) :=
  (fn_ok (bodyOf 0 Try.f10) 102 mixed (w10Gok N) Try.func10 (by kernel_rfl) rfl rfl rfl rfl (w10oE0 x0 h) ρ).mono fun out H h => KPost.ret rfl h
def ref_CheckStore_h (N : Nat) : List (TV EE.T) → PV EE.T
  | [u0] => match argD (.sl (.nam 4)) u0 with
    | some x0 => .opt (ref_CheckStore N x0) ref_CheckStore_u
    | _ => .bad
  | _ => .bad
theorem ref_CheckStore_hok (N : Nat) (us : List (TV EE.T)) : (ref_CheckStore_h N us).ok fun u => ∀ ρ, ACalls Try.prog 10 (us.map (TV.to EE.toEnc ρ)) [] (fun out H => out = .ret (u.to EE.toEnc ρ) ∧ H = []) := by
  unfold ref_CheckStore_h
  split
  · split
    · rename_i h0
      intro z hz ρ; refine acalls_le ?_ (ref_CheckStore_ok _ hz ρ); exact ⟨argD_le h0 ρ, trivial⟩
    · trivial
  · trivial
def law_TakeChecks_u (r : Bool) : TV EE.T := .a (.d .bool r)
def w3enc (r : Bool) : RL EE.T := .ret (law_TakeChecks_u r) []
def w3lv : Lvs := ⟨[], [], [], [], false, [], []⟩
def w3rs : List ResultVar := [.tmp 2]
def w3G (N : Nat) : Gam EE := ⟨[⟨8, law_takeBegun_h N⟩, ⟨10, ref_CheckStore_h N⟩, ⟨9, take_Check_h N⟩], EQT, [], []⟩
theorem w3Gok (N : Nat) : GOk Try.prog TT EE (w3G N) := GOk.cons (law_takeBegun_hok N) (GOk.cons (ref_CheckStore_hok N) (GOk.cons (take_Check_hok N) (GOk.nil EQT_ok)))
def w3kE0 (c : Code) : List It2 := [.c c]
def w3sE0 (x0 : List VSeries) : TS EE.T := ⟨11, [(0, .a (.d (.sl (.nam 4)) x0))], [], []⟩
def w3TE0 (c : Code) (N : Nat) (x0 : List VSeries) : Tree (Lf EE.T × Option Bool) :=
  .bnd (law_takeBegun N) fun z1 =>
  .cond (z1)
  (
    .bnd (take_Check N x0) fun z2 =>
    .bnd (ref_CheckStore N x0) fun z3 =>
    .leaf (.done (w3enc (z2 == z3)), some (z2 == z3)))
  (
    .leaf (.done (w3enc false), some false))
theorem w3vE0 (N : Nat) (x0 : List VSeries) : evM TT EE (w3G N) w3lv w3rs 4000 true (w3kE0 (bodyOf 0 Try.f3)) (w3sE0 x0) = (w3TE0 (bodyOf 0 Try.f3) N x0).map1 := by kernel_rfl
theorem w3nE0 (N : Nat) (x0 : List VSeries) : law_TakeChecks N x0 = (w3TE0 (bodyOf 0 Try.f3) N x0).run := by kernel_rfl
theorem w3oE0 {N : Nat} {r : Bool} (x0 : List VSeries) (h : law_TakeChecks N x0 = some r) : Ends (Y := TT) EE (w3G N) w3lv w3rs (fun u => u = w3enc r) (w3kE0 (bodyOf 0 Try.f3)) (w3sE0 x0) :=
  tree_use (w3vE0 N x0) (w3nE0 N x0) h (show (w3TE0 (bodyOf 0 Try.f3) N x0).all _ from fun _ => ⟨fun _ => fun _ => retp (enc := w3enc) rfl, retp (enc := w3enc) rfl⟩)
theorem law_TakeChecks_ok {N : Nat} (x0 : List VSeries) {r : Bool} (h : law_TakeChecks N x0 = some r) (ρ : Nat → Nat) : ACalls Try.prog 3 (([.a (.d (.sl (.nam 4)) x0)] : List (TV EE.T)).map (TV.to EE.toEnc ρ)) [] (fun out H => out = .ret ((law_TakeChecks_u r).to EE.toEnc ρ) ∧ H = []) :=
  (fn_ok (bodyOf 0 Try.f3) 11 mixed (w3Gok N) Try.func3 (by kernel_rfl) rfl rfl rfl rfl (w3oE0 x0 h) ρ).mono fun out H h => KPost.ret rfl h
def law_TakeChecks_h (N : Nat) : List (TV EE.T) → PV EE.T
  | [u0] => match argD (.sl (.nam 4)) u0 with
    | some x0 => .opt (law_TakeChecks N x0) law_TakeChecks_u
    | _ => .bad
  | _ => .bad
theorem law_TakeChecks_hok (N : Nat) (us : List (TV EE.T)) : (law_TakeChecks_h N us).ok fun u => ∀ ρ, ACalls Try.prog 3 (us.map (TV.to EE.toEnc ρ)) [] (fun out H => out = .ret (u.to EE.toEnc ρ) ∧ H = []) := by
  unfold law_TakeChecks_h
  split
  · split
    · rename_i h0
      intro z hz ρ; refine acalls_le ?_ (law_TakeChecks_ok _ hz ρ); exact ⟨argD_le h0 ρ, trivial⟩
    · trivial
  · trivial
def take_find_1_u (r : Int) : TV EE.T := .a (.d (.int .i64) r)
def w62enc (r : Int) : RL EE.T := .ret (take_find_1_u r) []
def w62lv : Lvs := ⟨[], [], [], [], false, [], []⟩
def w62rs : List ResultVar := [.tmp 4]
def w62G (N : Nat) : Gam EE := ⟨[⟨27, labels_Order_h N⟩], EQT, [], []⟩
theorem w62Gok (N : Nat) : GOk Try.prog TT EE (w62G N) := GOk.cons (labels_Order_hok N) (GOk.nil EQT_ok)
def w62kE0 (c : Code) : List It2 := [.c c]
def w62sE0 (x0 : VSeries) (x1 : List VLabel) : TS EE.T := ⟨9, [(0, .ag (unpT EE (.nam 4) x0)), (1, .a (.d (.sl (.nam 2)) x1))], [], []⟩
def w62TE0 (c : Code) (N : Nat) (x0 : VSeries) (x1 : List VLabel) : Tree (Lf EE.T × Option Int) :=
  .bnd (labels_Order N x0.Labels x1) fun z1 =>
  .leaf (.done (w62enc z1), some z1)
theorem w62vE0 (N : Nat) (x0 : VSeries) (x1 : List VLabel) : evM TT EE (w62G N) w62lv w62rs 4000 true (w62kE0 (bodyOf 0 Try.f62)) (w62sE0 x0 x1) = (w62TE0 (bodyOf 0 Try.f62) N x0 x1).map1 := by kernel_rfl
theorem w62nE0 (N : Nat) (x0 : VSeries) (x1 : List VLabel) : take_find_1 N x0 x1 = (w62TE0 (bodyOf 0 Try.f62) N x0 x1).run := by kernel_rfl
theorem w62oE0 {N : Nat} {r : Int} (x0 : VSeries) (x1 : List VLabel) (h : take_find_1 N x0 x1 = some r) : Ends (Y := TT) EE (w62G N) w62lv w62rs (fun u => u = w62enc r) (w62kE0 (bodyOf 0 Try.f62)) (w62sE0 x0 x1) :=
  tree_use (w62vE0 N x0 x1) (w62nE0 N x0 x1) h (show (w62TE0 (bodyOf 0 Try.f62) N x0 x1).all _ from fun _ => retp (enc := w62enc) rfl)
theorem take_find_1_ok {N : Nat} (x0 : VSeries) (x1 : List VLabel) {r : Int} (h : take_find_1 N x0 x1 = some r) (ρ : Nat → Nat) : ACalls Try.prog 62 (([.ag (unpT EE (.nam 4) x0), .a (.d (.sl (.nam 2)) x1)] : List (TV EE.T)).map (TV.to EE.toEnc ρ)) [] (fun out H => out = .ret ((take_find_1_u r).to EE.toEnc ρ) ∧ H = []) :=
  (fn_ok (bodyOf 0 Try.f62) 9 mixed (w62Gok N) Try.func62 (by kernel_rfl) rfl rfl rfl rfl (w62oE0 x0 x1 h) ρ).mono fun out H h => KPost.ret rfl h
def take_find_1_h (N : Nat) : List (TV EE.T) → PV EE.T
  | [u0, u1] => match argS EE 4 u0, argD (.sl (.nam 2)) u1 with
    | some x0, some x1 => .opt (take_find_1 N x0 x1) take_find_1_u
    | _, _ => .bad
  | _ => .bad
theorem take_find_1_hok (N : Nat) (us : List (TV EE.T)) : (take_find_1_h N us).ok fun u => ∀ ρ, ACalls Try.prog 62 (us.map (TV.to EE.toEnc ρ)) [] (fun out H => out = .ret (u.to EE.toEnc ρ) ∧ H = []) := by
  unfold take_find_1_h
  split
  · split
    · rename_i h0 h1
      intro z hz ρ; refine acalls_le ?_ (take_find_1_ok _ _ hz ρ); exact ⟨argS_le h0 ρ, argD_le h1 ρ, trivial⟩
    · trivial
  · trivial
def slices_BinarySearchFunc_api_Series_api_Series_api_Label__i0_u (r : Int × Bool) : TV EE.T := .tu [.a (.d (.int .i64) r.1), .a (.d .bool r.2)]
def w61i0hh (r : Int × Bool) : List (Nat × TB EE.T) := []
def w61i0enc (r : Int × Bool) : RL EE.T := .ret (slices_BinarySearchFunc_api_Series_api_Series_api_Label__i0_u r) (w61i0hh r)
def w61i0lv : Lvs := ⟨[], [(3, ⟨[(0, false), (1, false), (2, false), (8, false), (9, false), (10, false)], [], []⟩)], [], [], false, [], []⟩
def w61i0rs : List ResultVar := [.tmp 6, .tmp 7]
def w61i0G (N : Nat) : Gam EE := ⟨[], EQT, [⟨62, xOf (take_find_1_h N)⟩], []⟩
theorem w61i0Gok (N : Nat) : GOk Try.prog TT EE (w61i0G N) := GOk.consx (xOf_ok (take_find_1_hok N)) (GOk.nil EQT_ok)
def w61i0kL3 (c : Code) : List It2 := atL 3 c
def w61i0sL3 (x0 : List VSeries) (x1 : List VLabel) (x8 : Int) (x9 : Int) (x10 : Int) : TS EE.T := ⟨49, [(0, .a (.d (.sl (.nam 4)) x0)), (1, .a (.d (.sl (.nam 2)) x1)), (2, .fn 62 []), (8, .a (.d (.int .i64) x8)), (9, .a (.d (.int .i64) x9)), (10, .a (.d (.int .i64) x10))], [], []⟩
def w61i0kE0 (c : Code) : List It2 := [.c c]
def w61i0sE0 (x0 : List VSeries) (x1 : List VLabel) : TS EE.T := ⟨49, [(0, .a (.d (.sl (.nam 4)) x0)), (1, .a (.d (.sl (.nam 2)) x1)), (2, .fn 62 [])], [], []⟩
def w61i0TL3 (c : Code) (N : Nat) (n : Nat) (x0 : List VSeries) (x1 : List VLabel) (x8 : Int) (x9 : Int) (x10 : Int) : Tree (Lf EE.T × Option (Int × Bool)) :=
  .cond (decide (x9 < x10))
  (
    .bnd (shrC .u64 (IntKind.wrap .u64 (w64 (x9 + x10))) 1) fun z1 =>
    .bnd (idxC x0 (w64 z1)) fun z2 =>
    .bnd (take_find_1 N z2 x1) fun z3 =>
    .cond (decide (z3 < 0))
    (
      .leaf (.go (w61i0kL3 c) (w61i0sL3 x0 x1 x8 (w64 ((w64 z1) + 1)) x10), slices_BinarySearchFunc_api_Series_api_Series_api_Label__i0_L3 N n x0 x1 x8 (w64 ((w64 z1) + 1)) x10))
    (
      .leaf (.go (w61i0kL3 c) (w61i0sL3 x0 x1 x8 x9 (w64 z1)), slices_BinarySearchFunc_api_Series_api_Series_api_Label__i0_L3 N n x0 x1 x8 x9 (w64 z1))))
  (
    .cond (decide (x9 < x8))
    (
      .bnd (idxC x0 x9) fun z4 =>
      .bnd (take_find_1 N z4 x1) fun z5 =>
      .leaf (.done (w61i0enc (x9, z5 == 0)), some (x9, z5 == 0)))
    (
      .leaf (.done (w61i0enc (x9, false)), some (x9, false))))
theorem w61i0vL3 (N : Nat) (n : Nat) (x0 : List VSeries) (x1 : List VLabel) (x8 : Int) (x9 : Int) (x10 : Int) : evM TT EE (w61i0G N) w61i0lv w61i0rs 4000 true (w61i0kL3 (bodyOf 0 Try.f61)) (w61i0sL3 x0 x1 x8 x9 x10) = (w61i0TL3 (bodyOf 0 Try.f61) N n x0 x1 x8 x9 x10).map1 := by kernel_rfl
theorem w61i0nL3 (N : Nat) (n : Nat) (x0 : List VSeries) (x1 : List VLabel) (x8 : Int) (x9 : Int) (x10 : Int) : slices_BinarySearchFunc_api_Series_api_Series_api_Label__i0_L3 N (n + 1) x0 x1 x8 x9 x10 = (w61i0TL3 (bodyOf 0 Try.f61) N n x0 x1 x8 x9 x10).run := by kernel_rfl
theorem w61i0oL3 {N : Nat} {r : Int × Bool} : ∀ (n : Nat) (x0 : List VSeries) (x1 : List VLabel) (x8 : Int) (x9 : Int) (x10 : Int), slices_BinarySearchFunc_api_Series_api_Series_api_Label__i0_L3 N n x0 x1 x8 x9 x10 = some r → Ends (Y := TT) EE (w61i0G N) w61i0lv w61i0rs (fun u => u = w61i0enc r) (w61i0kL3 (bodyOf 0 Try.f61)) (w61i0sL3 x0 x1 x8 x9 x10)
  | 0, _, _, _, _, _, h => by cases h
  | n + 1, x0, x1, x8, x9, x10, h => tree_use (w61i0vL3 N n x0 x1 x8 x9 x10) (w61i0nL3 N n x0 x1 x8 x9 x10) h (show (w61i0TL3 (bodyOf 0 Try.f61) N n x0 x1 x8 x9 x10).all _ from ⟨fun _ => fun _ => fun _ => ⟨fun h => (w61i0oL3 n) _ _ _ _ _ h, fun h => (w61i0oL3 n) _ _ _ _ _ h⟩, ⟨fun _ => fun _ => retp (enc := w61i0enc) rfl, retp (enc := w61i0enc) rfl⟩⟩)
def w61i0TE0 (c : Code) (N : Nat) (x0 : List VSeries) (x1 : List VLabel) : Tree (Lf EE.T × Option (Int × Bool)) :=
  .leaf (.go (w61i0kL3 c) (w61i0sL3 x0 x1 (x0.length : Int) 0 (x0.length : Int)), slices_BinarySearchFunc_api_Series_api_Series_api_Label__i0_L3 N N x0 x1 (x0.length : Int) 0 (x0.length : Int))
theorem w61i0vE0 (N : Nat) (x0 : List VSeries) (x1 : List VLabel) : evM TT EE (w61i0G N) w61i0lv w61i0rs 4000 true (w61i0kE0 (bodyOf 0 Try.f61)) (w61i0sE0 x0 x1) = (w61i0TE0 (bodyOf 0 Try.f61) N x0 x1).map1 := by kernel_rfl
theorem w61i0nE0 (N : Nat) (x0 : List VSeries) (x1 : List VLabel) : slices_BinarySearchFunc_api_Series_api_Series_api_Label__i0 N x0 x1 = (w61i0TE0 (bodyOf 0 Try.f61) N x0 x1).run := by kernel_rfl
theorem w61i0oE0 {N : Nat} {r : Int × Bool} (x0 : List VSeries) (x1 : List VLabel) (h : slices_BinarySearchFunc_api_Series_api_Series_api_Label__i0 N x0 x1 = some r) : Ends (Y := TT) EE (w61i0G N) w61i0lv w61i0rs (fun u => u = w61i0enc r) (w61i0kE0 (bodyOf 0 Try.f61)) (w61i0sE0 x0 x1) :=
  tree_use (w61i0vE0 N x0 x1) (w61i0nE0 N x0 x1) h (show (w61i0TE0 (bodyOf 0 Try.f61) N x0 x1).all _ from fun h => w61i0oL3 N _ _ _ _ _ h)
def w61i0us (x0 : List VSeries) (x1 : List VLabel) : List (TV EE.T) := [.a (.d (.sl (.nam 4)) x0), .a (.d (.sl (.nam 2)) x1), .fn 62 []]
def w61i0h0 (x0 : List VSeries) (x1 : List VLabel) : List (Nat × TB EE.T) := []
theorem slices_BinarySearchFunc_api_Series_api_Series_api_Label__i0_ok {N : Nat} (x0 : List VSeries) (x1 : List VLabel) {r : Int × Bool} (h : slices_BinarySearchFunc_api_Series_api_Series_api_Label__i0 N x0 x1 = some r) (ρ : Nat → Nat) (hi : Inj ρ (w61i0h0 x0 x1)) : ACalls Try.prog 61 ((w61i0us x0 x1).map (TV.to EE.toEnc ρ)) (hTo EE.toEnc ρ (w61i0h0 x0 x1)) (fun out H => out = .ret ((slices_BinarySearchFunc_api_Series_api_Series_api_Label__i0_u r).to EE.toEnc ρ) ∧ H = hTo EE.toEnc ρ (w61i0hh r)) :=
  (fn_okH (bodyOf 0 Try.f61) 49 mixed (w61i0Gok N) Try.func61 (by kernel_rfl) rfl rfl rfl rfl (w61i0oE0 x0 x1 h) ρ hi).mono fun out H h => KPost.retH rfl rfl h
def slices_BinarySearchFunc_api_Series_api_Series_api_Label__i0_h (N : Nat) (us : List (TV EE.T)) (hs : List (Nat × TB EE.T)) : XR EE.T :=
  gdX (lenX us 3) <|
  bnX (aD (.sl (.nam 4)) us 0) fun x0 =>
  bnX (aD (.sl (.nam 2)) us 1) fun x1 =>
  bnX (aF 62 us 2) fun c2 =>
  bnX (cbs c2) fun s2 =>
  gdX (lenX s2 0) <|
  gdX (goodIds hs []) <|
  .ret (slices_BinarySearchFunc_api_Series_api_Series_api_Label__i0 N x0 x1) [] slices_BinarySearchFunc_api_Series_api_Series_api_Label__i0_u (w61i0hh)
theorem slices_BinarySearchFunc_api_Series_api_Series_api_Label__i0_hok (N : Nat) : XOk Try.prog EE 61 (slices_BinarySearchFunc_api_Series_api_Series_api_Label__i0_h N) := fun us hs =>
  gdX_ok fun h1 => bnX_ok fun x0 h2 => bnX_ok fun x1 h3 => bnX_ok fun c2 h4 => bnX_ok fun s2 h5 => gdX_ok fun h6 => gdX_ok fun h7 => fun z hz => ⟨rfl, fun ρ hi => xcall (us' := w61i0us x0 x1) (h0 := w61i0h0 x0 x1) (ρ' := rhoS ρ []) ⟨aD_le h2, aD_le h3, aF_le (js := []) h4 h5 (by rw [lis0 (lenX_ok h6)];  kernel_rfl), lenX_ok h1⟩ trivial (slices_BinarySearchFunc_api_Series_api_Series_api_Label__i0_ok x0 x1 hz _ (rhoS_inj hi h7 _ (by kernel_rfl))) (fun out H h => ⟨h.1.trans (by kernel_rfl), h.2.trans (by kernel_rfl)⟩)⟩
def take_find_u (r : Int × Bool) : TV EE.T := .tu [.a (.d (.int .i64) r.1), .a (.d .bool r.2)]
def w33enc (r : Int × Bool) : RL EE.T := .ret (take_find_u r) []
def w33lv : Lvs := ⟨[], [], [], [], false, [], []⟩
def w33rs : List ResultVar := [.tmp 4, .tmp 5]
def w33G (N : Nat) : Gam EE := ⟨[], EQT, [⟨61, slices_BinarySearchFunc_api_Series_api_Series_api_Label__i0_h N⟩], []⟩
theorem w33Gok (N : Nat) : GOk Try.prog TT EE (w33G N) := GOk.consx (slices_BinarySearchFunc_api_Series_api_Series_api_Label__i0_hok N) (GOk.nil EQT_ok)
def w33kE0 (c : Code) : List It2 := [.c c]
def w33sE0 (x0 : List VSeries) (x1 : List VLabel) : TS EE.T := ⟨11, [(0, .a (.d (.sl (.nam 4)) x0)), (1, .a (.d (.sl (.nam 2)) x1))], [], []⟩
def w33TE0 (c : Code) (N : Nat) (x0 : List VSeries) (x1 : List VLabel) : Tree (Lf EE.T × Option (Int × Bool)) :=
  .bnd (slices_BinarySearchFunc_api_Series_api_Series_api_Label__i0 N x0 x1) fun z1 =>
  .leaf (.done (w33enc (z1.1, z1.2)), some (z1.1, z1.2))
theorem w33vE0 (N : Nat) (x0 : List VSeries) (x1 : List VLabel) : evM TT EE (w33G N) w33lv w33rs 4000 true (w33kE0 (bodyOf 0 Try.f33)) (w33sE0 x0 x1) = (w33TE0 (bodyOf 0 Try.f33) N x0 x1).map1 := by kernel_rfl
theorem w33nE0 (N : Nat) (x0 : List VSeries) (x1 : List VLabel) : take_find N x0 x1 = (w33TE0 (bodyOf 0 Try.f33) N x0 x1).run := by kernel_rfl
theorem w33oE0 {N : Nat} {r : Int × Bool} (x0 : List VSeries) (x1 : List VLabel) (h : take_find N x0 x1 = some r) : Ends (Y := TT) EE (w33G N) w33lv w33rs (fun u => u = w33enc r) (w33kE0 (bodyOf 0 Try.f33)) (w33sE0 x0 x1) :=
  tree_use (w33vE0 N x0 x1) (w33nE0 N x0 x1) h (show (w33TE0 (bodyOf 0 Try.f33) N x0 x1).all _ from fun _ => retp (enc := w33enc) rfl)
theorem take_find_ok {N : Nat} (x0 : List VSeries) (x1 : List VLabel) {r : Int × Bool} (h : take_find N x0 x1 = some r) (ρ : Nat → Nat) : ACalls Try.prog 33 (([.a (.d (.sl (.nam 4)) x0), .a (.d (.sl (.nam 2)) x1)] : List (TV EE.T)).map (TV.to EE.toEnc ρ)) [] (fun out H => out = .ret ((take_find_u r).to EE.toEnc ρ) ∧ H = []) :=
  (fn_ok (bodyOf 0 Try.f33) 11 mixed (w33Gok N) Try.func33 (by kernel_rfl) rfl rfl rfl rfl (w33oE0 x0 x1 h) ρ).mono fun out H h => KPost.ret rfl h
def take_find_h (N : Nat) : List (TV EE.T) → PV EE.T
  | [u0, u1] => match argD (.sl (.nam 4)) u0, argD (.sl (.nam 2)) u1 with
    | some x0, some x1 => .opt (take_find N x0 x1) take_find_u
    | _, _ => .bad
  | _ => .bad
theorem take_find_hok (N : Nat) (us : List (TV EE.T)) : (take_find_h N us).ok fun u => ∀ ρ, ACalls Try.prog 33 (us.map (TV.to EE.toEnc ρ)) [] (fun out H => out = .ret (u.to EE.toEnc ρ) ∧ H = []) := by
  unfold take_find_h
  split
  · split
    · rename_i h0 h1
      intro z hz ρ; refine acalls_le ?_ (take_find_ok _ _ hz ρ); exact ⟨argD_le h0 ρ, argD_le h1 ρ, trivial⟩
    · trivial
  · trivial
def take_Get_u (r : (List VSample) × Int) : TV EE.T := .tu [.a (.d (.sl (.nam 3)) r.1), .a (.d (.int .i64) r.2)]
def w14enc (r : (List VSample) × Int) : RL EE.T := .ret (take_Get_u r) []
def w14lv : Lvs := ⟨[(4, ⟨[(0, false), (1, false), (6, false)], [], []⟩)], [], [4], [], false, [], []⟩
def w14rs : List ResultVar := [.tmp 4, .tmp 5]
def w14G (N : Nat) : Gam EE := ⟨[⟨23, labels_Check_h N⟩, ⟨9, take_Check_h N⟩, ⟨33, take_find_h N⟩, ⟨38, slices_Clone_api_Sample_api_Sample__h N⟩], EQT, [], []⟩
theorem w14Gok (N : Nat) : GOk Try.prog TT EE (w14G N) := GOk.cons (labels_Check_hok N) (GOk.cons (take_Check_hok N) (GOk.cons (take_find_hok N) (GOk.cons (slices_Clone_api_Sample_api_Sample__hok N) (GOk.nil EQT_ok))))
def w14kR4 (c : Code) : List It2 := atR 4 c
def w14sR4 (x0 : List VSeries) (x1 : List VLabel) (x6 : Int) : TS EE.T := ⟨32, [(0, .a (.d (.sl (.nam 4)) x0)), (1, .a (.d (.sl (.nam 2)) x1)), (6, .a (.d (.int .i64) x6))], [], []⟩
def w14kE0 (c : Code) : List It2 := [.c c]
def w14sE0 (x0 : List VSeries) (x1 : List VLabel) : TS EE.T := ⟨32, [(0, .a (.d (.sl (.nam 4)) x0)), (1, .a (.d (.sl (.nam 2)) x1))], [], []⟩
def w14TR4 (c : Code) (N : Nat) (n : Nat) (x0 : List VSeries) (x1 : List VLabel) (x6 : Int) : Tree (Lf EE.T × Option ((List VSample) × Int)) :=
  .cond (x6 != 0)
  (
    .leaf (.done (w14enc (([] : List VSample), x6)), some (([] : List VSample), x6)))
  (
    .bnd (take_find N x0 x1) fun z3 =>
    .cond (!z3.2)
    (
      .leaf (.done (w14enc (([] : List VSample), 5)), some (([] : List VSample), 5)))
    (
      .bnd (idxC x0 z3.1) fun z4 =>
      .bnd (slices_Clone_api_Sample_api_Sample_ N z4.Samples) fun z5 =>
      .leaf (.done (w14enc (z5, 0)), some (z5, 0))))
theorem w14vR4 (N : Nat) (n : Nat) (x0 : List VSeries) (x1 : List VLabel) (x6 : Int) : evM TT EE (w14G N) w14lv w14rs 4000 true (w14kR4 (bodyOf 0 Try.f14)) (w14sR4 x0 x1 x6) = (w14TR4 (bodyOf 0 Try.f14) N n x0 x1 x6).map1 := by kernel_rfl
theorem w14nR4 (N : Nat) (n : Nat) (x0 : List VSeries) (x1 : List VLabel) (x6 : Int) : take_Get_R4 N n x0 x1 x6 = (w14TR4 (bodyOf 0 Try.f14) N n x0 x1 x6).run := by kernel_rfl
theorem w14oR4 {N : Nat} {r : (List VSample) × Int} (n : Nat) (x0 : List VSeries) (x1 : List VLabel) (x6 : Int) (h : take_Get_R4 N n x0 x1 x6 = some r) : Ends (Y := TT) EE (w14G N) w14lv w14rs (fun u => u = w14enc r) (w14kR4 (bodyOf 0 Try.f14)) (w14sR4 x0 x1 x6) :=
  tree_use (w14vR4 N n x0 x1 x6) (w14nR4 N n x0 x1 x6) h (show (w14TR4 (bodyOf 0 Try.f14) N n x0 x1 x6).all _ from ⟨retp (enc := w14enc) rfl, fun _ => ⟨retp (enc := w14enc) rfl, fun _ => fun _ => retp (enc := w14enc) rfl⟩⟩)
def w14TE0 (c : Code) (N : Nat) (x0 : List VSeries) (x1 : List VLabel) : Tree (Lf EE.T × Option ((List VSample) × Int)) :=
  .bnd (take_Check N x0) fun z1 =>
  .cond (z1 == 0)
  (
    .bnd (labels_Check N x1) fun z2 =>
    .leaf (.go (w14kR4 c) (w14sR4 x0 x1 z2), take_Get_R4 N N x0 x1 z2))
  (
    .leaf (.go (w14kR4 c) (w14sR4 x0 x1 z1), take_Get_R4 N N x0 x1 z1))
theorem w14vE0 (N : Nat) (x0 : List VSeries) (x1 : List VLabel) : evM TT EE (w14G N) w14lv w14rs 4000 true (w14kE0 (bodyOf 0 Try.f14)) (w14sE0 x0 x1) = (w14TE0 (bodyOf 0 Try.f14) N x0 x1).map1 := by kernel_rfl
theorem w14nE0 (N : Nat) (x0 : List VSeries) (x1 : List VLabel) : take_Get N x0 x1 = (w14TE0 (bodyOf 0 Try.f14) N x0 x1).run := by kernel_rfl
theorem w14oE0 {N : Nat} {r : (List VSample) × Int} (x0 : List VSeries) (x1 : List VLabel) (h : take_Get N x0 x1 = some r) : Ends (Y := TT) EE (w14G N) w14lv w14rs (fun u => u = w14enc r) (w14kE0 (bodyOf 0 Try.f14)) (w14sE0 x0 x1) :=
  tree_use (w14vE0 N x0 x1) (w14nE0 N x0 x1) h (show (w14TE0 (bodyOf 0 Try.f14) N x0 x1).all _ from fun _ => ⟨fun _ => fun h => w14oR4 N _ _ _ h, fun h => w14oR4 N _ _ _ h⟩)
theorem take_Get_ok {N : Nat} (x0 : List VSeries) (x1 : List VLabel) {r : (List VSample) × Int} (h : take_Get N x0 x1 = some r) (ρ : Nat → Nat) : ACalls Try.prog 14 (([.a (.d (.sl (.nam 4)) x0), .a (.d (.sl (.nam 2)) x1)] : List (TV EE.T)).map (TV.to EE.toEnc ρ)) [] (fun out H => out = .ret ((take_Get_u r).to EE.toEnc ρ) ∧ H = []) :=
  (fn_ok (bodyOf 0 Try.f14) 32 mixed (w14Gok N) Try.func14 (by kernel_rfl) rfl rfl rfl rfl (w14oE0 x0 x1 h) ρ).mono fun out H h => KPost.ret rfl h
def take_Get_h (N : Nat) : List (TV EE.T) → PV EE.T
  | [u0, u1] => match argD (.sl (.nam 4)) u0, argD (.sl (.nam 2)) u1 with
    | some x0, some x1 => .opt (take_Get N x0 x1) take_Get_u
    | _, _ => .bad
  | _ => .bad
theorem take_Get_hok (N : Nat) (us : List (TV EE.T)) : (take_Get_h N us).ok fun u => ∀ ρ, ACalls Try.prog 14 (us.map (TV.to EE.toEnc ρ)) [] (fun out H => out = .ret (u.to EE.toEnc ρ) ∧ H = []) := by
  unfold take_Get_h
  split
  · split
    · rename_i h0 h1
      intro z hz ρ; refine acalls_le ?_ (take_Get_ok _ _ hz ρ); exact ⟨argD_le h0 ρ, argD_le h1 ρ, trivial⟩
    · trivial
  · trivial
def ref_SameLabels_u (r : Bool) : TV EE.T := .a (.d .bool r)
def w16enc (r : Bool) : RL EE.T := .ret (ref_SameLabels_u r) []
def w16lv : Lvs := ⟨[(6, ⟨[(0, false), (1, false), (5, false)], [], []⟩)], [(4, ⟨[(0, false), (1, false), (5, false)], [], []⟩)], [], [], false, [], []⟩
def w16rs : List ResultVar := [.tmp 4]
def w16G (N : Nat) : Gam EE := ⟨[], EQT, [], []⟩
theorem w16Gok (N : Nat) : GOk Try.prog TT EE (w16G N) := GOk.nil EQT_ok
def w16kL4 (c : Code) : List It2 := atL 4 c
def w16sL4 (x0 : List VLabel) (x1 : List VLabel) (x5 : Int) : TS EE.T := ⟨26, [(0, .a (.d (.sl (.nam 2)) x0)), (1, .a (.d (.sl (.nam 2)) x1)), (5, .a (.d (.int .i64) x5))], [], []⟩
def w16kE0 (c : Code) : List It2 := [.c c]
def w16sE0 (x0 : List VLabel) (x1 : List VLabel) : TS EE.T := ⟨26, [(0, .a (.d (.sl (.nam 2)) x0)), (1, .a (.d (.sl (.nam 2)) x1))], [], []⟩
def w16TL4 (c : Code) (N : Nat) (n : Nat) (x0 : List VLabel) (x1 : List VLabel) (x5 : Int) : Tree (Lf EE.T × Option Bool) :=
  .cond (decide (x5 < (x0.length : Int)))
  (
    .bnd (idxC x0 x5) fun z1 =>
    .bnd (idxC x1 x5) fun z2 =>
    .cond (!(beqS z1.Name z2.Name && (beqS z1.Value z2.Value && true)))
    (
      .leaf (.done (w16enc false), some false))
    (
      .leaf (.go (w16kL4 c) (w16sL4 x0 x1 (w64 (x5 + 1))), ref_SameLabels_L4 N n x0 x1 (w64 (x5 + 1)))))
  (
    .leaf (.done (w16enc true), some true))
theorem w16vL4 (N : Nat) (n : Nat) (x0 : List VLabel) (x1 : List VLabel) (x5 : Int) : evM TT EE (w16G N) w16lv w16rs 4000 true (w16kL4 (bodyOf 0 Try.f16)) (w16sL4 x0 x1 x5) = (w16TL4 (bodyOf 0 Try.f16) N n x0 x1 x5).map1 := by kernel_rfl
theorem w16nL4 (N : Nat) (n : Nat) (x0 : List VLabel) (x1 : List VLabel) (x5 : Int) : ref_SameLabels_L4 N (n + 1) x0 x1 x5 = (w16TL4 (bodyOf 0 Try.f16) N n x0 x1 x5).run := by kernel_rfl
theorem w16oL4 {N : Nat} {r : Bool} : ∀ (n : Nat) (x0 : List VLabel) (x1 : List VLabel) (x5 : Int), ref_SameLabels_L4 N n x0 x1 x5 = some r → Ends (Y := TT) EE (w16G N) w16lv w16rs (fun u => u = w16enc r) (w16kL4 (bodyOf 0 Try.f16)) (w16sL4 x0 x1 x5)
  | 0, _, _, _, h => by cases h
  | n + 1, x0, x1, x5, h => tree_use (w16vL4 N n x0 x1 x5) (w16nL4 N n x0 x1 x5) h (show (w16TL4 (bodyOf 0 Try.f16) N n x0 x1 x5).all _ from ⟨fun _ => fun _ => ⟨retp (enc := w16enc) rfl, fun h => (w16oL4 n) _ _ _ h⟩, retp (enc := w16enc) rfl⟩)
def w16TE0 (c : Code) (N : Nat) (x0 : List VLabel) (x1 : List VLabel) : Tree (Lf EE.T × Option Bool) :=
  .cond ((x0.length : Int) != (x1.length : Int))
  (
    .leaf (.done (w16enc false), some false))
  (
    .leaf (.go (w16kL4 c) (w16sL4 x0 x1 0), ref_SameLabels_L4 N N x0 x1 0))
theorem w16vE0 (N : Nat) (x0 : List VLabel) (x1 : List VLabel) : evM TT EE (w16G N) w16lv w16rs 4000 true (w16kE0 (bodyOf 0 Try.f16)) (w16sE0 x0 x1) = (w16TE0 (bodyOf 0 Try.f16) N x0 x1).map1 := by kernel_rfl
theorem w16nE0 (N : Nat) (x0 : List VLabel) (x1 : List VLabel) : ref_SameLabels N x0 x1 = (w16TE0 (bodyOf 0 Try.f16) N x0 x1).run := by kernel_rfl
theorem w16oE0 {N : Nat} {r : Bool} (x0 : List VLabel) (x1 : List VLabel) (h : ref_SameLabels N x0 x1 = some r) : Ends (Y := TT) EE (w16G N) w16lv w16rs (fun u => u = w16enc r) (w16kE0 (bodyOf 0 Try.f16)) (w16sE0 x0 x1) :=
  tree_use (w16vE0 N x0 x1) (w16nE0 N x0 x1) h (show (w16TE0 (bodyOf 0 Try.f16) N x0 x1).all _ from ⟨retp (enc := w16enc) rfl, fun h => w16oL4 N _ _ _ h⟩)
theorem ref_SameLabels_ok {N : Nat} (x0 : List VLabel) (x1 : List VLabel) {r : Bool} (h : ref_SameLabels N x0 x1 = some r) (ρ : Nat → Nat) : ACalls Try.prog 16 (([.a (.d (.sl (.nam 2)) x0), .a (.d (.sl (.nam 2)) x1)] : List (TV EE.T)).map (TV.to EE.toEnc ρ)) [] (fun out H => out = .ret ((ref_SameLabels_u r).to EE.toEnc ρ) ∧ H = []) :=
  (fn_ok (bodyOf 0 Try.f16) 26 mixed (w16Gok N) Try.func16 (by kernel_rfl) rfl rfl rfl rfl (w16oE0 x0 x1 h) ρ).mono fun out H h => KPost.ret rfl h
def ref_SameLabels_h (N : Nat) : List (TV EE.T) → PV EE.T
  | [u0, u1] => match argD (.sl (.nam 2)) u0, argD (.sl (.nam 2)) u1 with
    | some x0, some x1 => .opt (ref_SameLabels N x0 x1) ref_SameLabels_u
    | _, _ => .bad
  | _ => .bad
theorem ref_SameLabels_hok (N : Nat) (us : List (TV EE.T)) : (ref_SameLabels_h N us).ok fun u => ∀ ρ, ACalls Try.prog 16 (us.map (TV.to EE.toEnc ρ)) [] (fun out H => out = .ret (u.to EE.toEnc ρ) ∧ H = []) := by
  unfold ref_SameLabels_h
  split
  · split
    · rename_i h0 h1
      intro z hz ρ; refine acalls_le ?_ (ref_SameLabels_ok _ _ hz ρ); exact ⟨argD_le h0 ρ, argD_le h1 ρ, trivial⟩
    · trivial
  · trivial
def ref_SameSamples_u (r : Bool) : TV EE.T := .a (.d .bool r)
def w17enc (r : Bool) : RL EE.T := .ret (ref_SameSamples_u r) []
def w17lv : Lvs := ⟨[(6, ⟨[(0, false), (1, false), (5, false)], [], []⟩)], [(4, ⟨[(0, false), (1, false), (5, false)], [], []⟩)], [], [], false, [], []⟩
def w17rs : List ResultVar := [.tmp 4]
def w17G (N : Nat) : Gam EE := ⟨[], EQT, [], []⟩
theorem w17Gok (N : Nat) : GOk Try.prog TT EE (w17G N) := GOk.nil EQT_ok
def w17kL4 (c : Code) : List It2 := atL 4 c
def w17sL4 (x0 : List VSample) (x1 : List VSample) (x5 : Int) : TS EE.T := ⟨26, [(0, .a (.d (.sl (.nam 3)) x0)), (1, .a (.d (.sl (.nam 3)) x1)), (5, .a (.d (.int .i64) x5))], [], []⟩
def w17kE0 (c : Code) : List It2 := [.c c]
def w17sE0 (x0 : List VSample) (x1 : List VSample) : TS EE.T := ⟨26, [(0, .a (.d (.sl (.nam 3)) x0)), (1, .a (.d (.sl (.nam 3)) x1))], [], []⟩
def w17TL4 (c : Code) (N : Nat) (n : Nat) (x0 : List VSample) (x1 : List VSample) (x5 : Int) : Tree (Lf EE.T × Option Bool) :=
  .cond (decide (x5 < (x0.length : Int)))
  (
    .bnd (idxC x0 x5) fun z1 =>
    .bnd (idxC x1 x5) fun z2 =>
    .cond (!(beqI z1.Time z2.Time && (beqI z1.Bits z2.Bits && true)))
    (
      .leaf (.done (w17enc false), some false))
    (
      .leaf (.go (w17kL4 c) (w17sL4 x0 x1 (w64 (x5 + 1))), ref_SameSamples_L4 N n x0 x1 (w64 (x5 + 1)))))
  (
    .leaf (.done (w17enc true), some true))
theorem w17vL4 (N : Nat) (n : Nat) (x0 : List VSample) (x1 : List VSample) (x5 : Int) : evM TT EE (w17G N) w17lv w17rs 4000 true (w17kL4 (bodyOf 0 Try.f17)) (w17sL4 x0 x1 x5) = (w17TL4 (bodyOf 0 Try.f17) N n x0 x1 x5).map1 := by kernel_rfl
theorem w17nL4 (N : Nat) (n : Nat) (x0 : List VSample) (x1 : List VSample) (x5 : Int) : ref_SameSamples_L4 N (n + 1) x0 x1 x5 = (w17TL4 (bodyOf 0 Try.f17) N n x0 x1 x5).run := by kernel_rfl
theorem w17oL4 {N : Nat} {r : Bool} : ∀ (n : Nat) (x0 : List VSample) (x1 : List VSample) (x5 : Int), ref_SameSamples_L4 N n x0 x1 x5 = some r → Ends (Y := TT) EE (w17G N) w17lv w17rs (fun u => u = w17enc r) (w17kL4 (bodyOf 0 Try.f17)) (w17sL4 x0 x1 x5)
  | 0, _, _, _, h => by cases h
  | n + 1, x0, x1, x5, h => tree_use (w17vL4 N n x0 x1 x5) (w17nL4 N n x0 x1 x5) h (show (w17TL4 (bodyOf 0 Try.f17) N n x0 x1 x5).all _ from ⟨fun _ => fun _ => ⟨retp (enc := w17enc) rfl, fun h => (w17oL4 n) _ _ _ h⟩, retp (enc := w17enc) rfl⟩)
def w17TE0 (c : Code) (N : Nat) (x0 : List VSample) (x1 : List VSample) : Tree (Lf EE.T × Option Bool) :=
  .cond ((x0.length : Int) != (x1.length : Int))
  (
    .leaf (.done (w17enc false), some false))
  (
    .leaf (.go (w17kL4 c) (w17sL4 x0 x1 0), ref_SameSamples_L4 N N x0 x1 0))
theorem w17vE0 (N : Nat) (x0 : List VSample) (x1 : List VSample) : evM TT EE (w17G N) w17lv w17rs 4000 true (w17kE0 (bodyOf 0 Try.f17)) (w17sE0 x0 x1) = (w17TE0 (bodyOf 0 Try.f17) N x0 x1).map1 := by kernel_rfl
theorem w17nE0 (N : Nat) (x0 : List VSample) (x1 : List VSample) : ref_SameSamples N x0 x1 = (w17TE0 (bodyOf 0 Try.f17) N x0 x1).run := by kernel_rfl
theorem w17oE0 {N : Nat} {r : Bool} (x0 : List VSample) (x1 : List VSample) (h : ref_SameSamples N x0 x1 = some r) : Ends (Y := TT) EE (w17G N) w17lv w17rs (fun u => u = w17enc r) (w17kE0 (bodyOf 0 Try.f17)) (w17sE0 x0 x1) :=
  tree_use (w17vE0 N x0 x1) (w17nE0 N x0 x1) h (show (w17TE0 (bodyOf 0 Try.f17) N x0 x1).all _ from ⟨retp (enc := w17enc) rfl, fun h => w17oL4 N _ _ _ h⟩)
theorem ref_SameSamples_ok {N : Nat} (x0 : List VSample) (x1 : List VSample) {r : Bool} (h : ref_SameSamples N x0 x1 = some r) (ρ : Nat → Nat) : ACalls Try.prog 17 (([.a (.d (.sl (.nam 3)) x0), .a (.d (.sl (.nam 3)) x1)] : List (TV EE.T)).map (TV.to EE.toEnc ρ)) [] (fun out H => out = .ret ((ref_SameSamples_u r).to EE.toEnc ρ) ∧ H = []) :=
  (fn_ok (bodyOf 0 Try.f17) 26 mixed (w17Gok N) Try.func17 (by kernel_rfl) rfl rfl rfl rfl (w17oE0 x0 x1 h) ρ).mono fun out H h => KPost.ret rfl h
def ref_SameSamples_h (N : Nat) : List (TV EE.T) → PV EE.T
  | [u0, u1] => match argD (.sl (.nam 3)) u0, argD (.sl (.nam 3)) u1 with
    | some x0, some x1 => .opt (ref_SameSamples N x0 x1) ref_SameSamples_u
    | _, _ => .bad
  | _ => .bad
theorem ref_SameSamples_hok (N : Nat) (us : List (TV EE.T)) : (ref_SameSamples_h N us).ok fun u => ∀ ρ, ACalls Try.prog 17 (us.map (TV.to EE.toEnc ρ)) [] (fun out H => out = .ret (u.to EE.toEnc ρ) ∧ H = []) := by
  unfold ref_SameSamples_h
  split
  · split
    · rename_i h0 h1
      intro z hz ρ; refine acalls_le ?_ (ref_SameSamples_ok _ _ hz ρ); exact ⟨argD_le h0 ρ, argD_le h1 ρ, trivial⟩
    · trivial
  · trivial
def law_TakeGets_u (r : Bool) : TV EE.T := .a (.d .bool r)
def w5enc (r : Bool) : RL EE.T := .ret (law_TakeGets_u r) []
def w5lv : Lvs := ⟨[(5, ⟨[(0, false), (1, false), (5, false), (6, false), (7, false)], [], []⟩), (10, ⟨[(0, false), (1, false), (5, false), (6, false), (7, false), (8, true), (9, false)], [], []⟩)], [(9, ⟨[(0, false), (1, false), (5, false), (6, false), (7, false), (8, true), (9, false)], [], []⟩)], [5, 10], [], false, [], []⟩
def w5rs : List ResultVar := [.tmp 4]
def w5G (N : Nat) : Gam EE := ⟨[⟨8, law_takeBegun_h N⟩, ⟨15, ref_CheckLabels_h N⟩, ⟨10, ref_CheckStore_h N⟩, ⟨16, ref_SameLabels_h N⟩, ⟨17, ref_SameSamples_h N⟩, ⟨14, take_Get_h N⟩], EQT, [], []⟩
theorem w5Gok (N : Nat) : GOk Try.prog TT EE (w5G N) := GOk.cons (law_takeBegun_hok N) (GOk.cons (ref_CheckLabels_hok N) (GOk.cons (ref_CheckStore_hok N) (GOk.cons (ref_SameLabels_hok N) (GOk.cons (ref_SameSamples_hok N) (GOk.cons (take_Get_hok N) (GOk.nil EQT_ok))))))
def w5kR10 (c : Code) : List It2 := atR 10 c
def w5sR10 (x0 : List VSeries) (x1 : List VLabel) (x5 : List VSample) (x6 : Int) (x7 : Int) (x8 : List VSample) (x9 : Int) : TS EE.T := ⟨53, [(0, .a (.d (.sl (.nam 4)) x0)), (1, .a (.d (.sl (.nam 2)) x1)), (5, .a (.d (.sl (.nam 3)) x5)), (6, .a (.d (.int .i64) x6)), (7, .a (.d (.int .i64) x7)), (8, .a (.d (.sl (.nam 3)) x8)), (9, .a (.d (.int .i64) x9))], [], []⟩
def w5kL9 (c : Code) : List It2 := atL 9 c
def w5sL9 (x0 : List VSeries) (x1 : List VLabel) (x5 : List VSample) (x6 : Int) (x7 : Int) (x8 : List VSample) (x9 : Int) : TS EE.T := ⟨53, [(0, .a (.d (.sl (.nam 4)) x0)), (1, .a (.d (.sl (.nam 2)) x1)), (5, .a (.d (.sl (.nam 3)) x5)), (6, .a (.d (.int .i64) x6)), (7, .a (.d (.int .i64) x7)), (8, .a (.d (.sl (.nam 3)) x8)), (9, .a (.d (.int .i64) x9))], [], []⟩
def w5kR5 (c : Code) : List It2 := atR 5 c
def w5sR5 (x0 : List VSeries) (x1 : List VLabel) (x5 : List VSample) (x6 : Int) (x7 : Int) : TS EE.T := ⟨53, [(0, .a (.d (.sl (.nam 4)) x0)), (1, .a (.d (.sl (.nam 2)) x1)), (5, .a (.d (.sl (.nam 3)) x5)), (6, .a (.d (.int .i64) x6)), (7, .a (.d (.int .i64) x7))], [], []⟩
def w5kE0 (c : Code) : List It2 := [.c c]
def w5sE0 (x0 : List VSeries) (x1 : List VLabel) : TS EE.T := ⟨53, [(0, .a (.d (.sl (.nam 4)) x0)), (1, .a (.d (.sl (.nam 2)) x1))], [], []⟩
def w5TR10 (c : Code) (N : Nat) (k9 : (List VSeries) → (List VLabel) → (List VSample) → Int → Int → (List VSample) → Int → Option Bool) (n : Nat) (x0 : List VSeries) (x1 : List VLabel) (x5 : List VSample) (x6 : Int) (x7 : Int) (x8 : List VSample) (x9 : Int) : Tree (Lf EE.T × Option Bool) :=
  .leaf (.go (w5kL9 c) (w5sL9 x0 x1 x5 x6 x7 x8 (w64 (x9 + 1))), k9 x0 x1 x5 x6 x7 x8 (w64 (x9 + 1)))
theorem w5vR10 (N : Nat) (k9 : (List VSeries) → (List VLabel) → (List VSample) → Int → Int → (List VSample) → Int → Option Bool) (n : Nat) (x0 : List VSeries) (x1 : List VLabel) (x5 : List VSample) (x6 : Int) (x7 : Int) (x8 : List VSample) (x9 : Int) : evM TT EE (w5G N) w5lv w5rs 4000 true (w5kR10 (bodyOf 0 Try.f5)) (w5sR10 x0 x1 x5 x6 x7 x8 x9) = (w5TR10 (bodyOf 0 Try.f5) N k9 n x0 x1 x5 x6 x7 x8 x9).map1 := by kernel_rfl
theorem w5nR10 (N : Nat) (k9 : (List VSeries) → (List VLabel) → (List VSample) → Int → Int → (List VSample) → Int → Option Bool) (n : Nat) (x0 : List VSeries) (x1 : List VLabel) (x5 : List VSample) (x6 : Int) (x7 : Int) (x8 : List VSample) (x9 : Int) : law_TakeGets_R10 N k9 n x0 x1 x5 x6 x7 x8 x9 = (w5TR10 (bodyOf 0 Try.f5) N k9 n x0 x1 x5 x6 x7 x8 x9).run := by kernel_rfl
theorem w5oR10 {N : Nat} {r : Bool} {k9 : (List VSeries) → (List VLabel) → (List VSample) → Int → Int → (List VSample) → Int → Option Bool} (hk9 : ∀ x0 x1 x5 x6 x7 x8 x9, k9 x0 x1 x5 x6 x7 x8 x9 = some r → Ends (Y := TT) EE (w5G N) w5lv w5rs (fun u => u = w5enc r) (w5kL9 (bodyOf 0 Try.f5)) (w5sL9 x0 x1 x5 x6 x7 x8 x9)) (n : Nat) (x0 : List VSeries) (x1 : List VLabel) (x5 : List VSample) (x6 : Int) (x7 : Int) (x8 : List VSample) (x9 : Int) (h : law_TakeGets_R10 N k9 n x0 x1 x5 x6 x7 x8 x9 = some r) : Ends (Y := TT) EE (w5G N) w5lv w5rs (fun u => u = w5enc r) (w5kR10 (bodyOf 0 Try.f5)) (w5sR10 x0 x1 x5 x6 x7 x8 x9) :=
  tree_use (w5vR10 N k9 n x0 x1 x5 x6 x7 x8 x9) (w5nR10 N k9 n x0 x1 x5 x6 x7 x8 x9) h (show (w5TR10 (bodyOf 0 Try.f5) N k9 n x0 x1 x5 x6 x7 x8 x9).all _ from fun h => hk9 _ _ _ _ _ _ _ h)
def w5TL9 (c : Code) (N : Nat) (n : Nat) (x0 : List VSeries) (x1 : List VLabel) (x5 : List VSample) (x6 : Int) (x7 : Int) (x8 : List VSample) (x9 : Int) : Tree (Lf EE.T × Option Bool) :=
  .cond (decide (x9 < (x0.length : Int)))
  (
    .bnd (idxC x0 x9) fun z6 =>
    .bnd (ref_SameLabels N z6.Labels x1) fun z7 =>
    .cond (z7)
    (
      .bnd (idxC x0 x9) fun z8 =>
      .leaf (.go (w5kR10 c) (w5sR10 x0 x1 x5 x6 0 z8.Samples x9), law_TakeGets_R10 N (law_TakeGets_L9 N n) n x0 x1 x5 x6 0 z8.Samples x9))
    (
      .leaf (.go (w5kR10 c) (w5sR10 x0 x1 x5 x6 x7 x8 x9), law_TakeGets_R10 N (law_TakeGets_L9 N n) n x0 x1 x5 x6 x7 x8 x9)))
  (
    .bnd (law_takeBegun N) fun z9 =>
    .cond (z9)
    (
      .cond (x6 == x7)
      (
        .bnd (ref_SameSamples N x5 x8) fun z10 =>
        .leaf (.done (w5enc z10), some z10))
      (
        .leaf (.done (w5enc false), some false)))
    (
      .leaf (.done (w5enc false), some false)))
theorem w5vL9 (N : Nat) (n : Nat) (x0 : List VSeries) (x1 : List VLabel) (x5 : List VSample) (x6 : Int) (x7 : Int) (x8 : List VSample) (x9 : Int) : evM TT EE (w5G N) w5lv w5rs 4000 true (w5kL9 (bodyOf 0 Try.f5)) (w5sL9 x0 x1 x5 x6 x7 x8 x9) = (w5TL9 (bodyOf 0 Try.f5) N n x0 x1 x5 x6 x7 x8 x9).map1 := by kernel_rfl
theorem w5nL9 (N : Nat) (n : Nat) (x0 : List VSeries) (x1 : List VLabel) (x5 : List VSample) (x6 : Int) (x7 : Int) (x8 : List VSample) (x9 : Int) : law_TakeGets_L9 N (n + 1) x0 x1 x5 x6 x7 x8 x9 = (w5TL9 (bodyOf 0 Try.f5) N n x0 x1 x5 x6 x7 x8 x9).run := by kernel_rfl
theorem w5oL9 {N : Nat} {r : Bool} : ∀ (n : Nat) (x0 : List VSeries) (x1 : List VLabel) (x5 : List VSample) (x6 : Int) (x7 : Int) (x8 : List VSample) (x9 : Int), law_TakeGets_L9 N n x0 x1 x5 x6 x7 x8 x9 = some r → Ends (Y := TT) EE (w5G N) w5lv w5rs (fun u => u = w5enc r) (w5kL9 (bodyOf 0 Try.f5)) (w5sL9 x0 x1 x5 x6 x7 x8 x9)
  | 0, _, _, _, _, _, _, _, h => by cases h
  | n + 1, x0, x1, x5, x6, x7, x8, x9, h => tree_use (w5vL9 N n x0 x1 x5 x6 x7 x8 x9) (w5nL9 N n x0 x1 x5 x6 x7 x8 x9) h (show (w5TL9 (bodyOf 0 Try.f5) N n x0 x1 x5 x6 x7 x8 x9).all _ from ⟨fun _ => fun _ => ⟨fun _ => fun h => w5oR10 (w5oL9 n) n _ _ _ _ _ _ _ h, fun h => w5oR10 (w5oL9 n) n _ _ _ _ _ _ _ h⟩, fun _ => ⟨⟨fun _ => retp (enc := w5enc) rfl, retp (enc := w5enc) rfl⟩, retp (enc := w5enc) rfl⟩⟩)
def w5TR5 (c : Code) (N : Nat) (n : Nat) (x0 : List VSeries) (x1 : List VLabel) (x5 : List VSample) (x6 : Int) (x7 : Int) : Tree (Lf EE.T × Option Bool) :=
  .cond (x7 == 0)
  (
    .leaf (.go (w5kL9 c) (w5sL9 x0 x1 x5 x6 5 ([] : List VSample) 0), law_TakeGets_L9 N n x0 x1 x5 x6 5 ([] : List VSample) 0))
  (
    .bnd (law_takeBegun N) fun z4 =>
    .cond (z4)
    (
      .cond (x6 == x7)
      (
        .bnd (ref_SameSamples N x5 ([] : List VSample)) fun z5 =>
        .leaf (.done (w5enc z5), some z5))
      (
        .leaf (.done (w5enc false), some false)))
    (
      .leaf (.done (w5enc false), some false)))
theorem w5vR5 (N : Nat) (n : Nat) (x0 : List VSeries) (x1 : List VLabel) (x5 : List VSample) (x6 : Int) (x7 : Int) : evM TT EE (w5G N) w5lv w5rs 4000 true (w5kR5 (bodyOf 0 Try.f5)) (w5sR5 x0 x1 x5 x6 x7) = (w5TR5 (bodyOf 0 Try.f5) N n x0 x1 x5 x6 x7).map1 := by kernel_rfl
theorem w5nR5 (N : Nat) (n : Nat) (x0 : List VSeries) (x1 : List VLabel) (x5 : List VSample) (x6 : Int) (x7 : Int) : law_TakeGets_R5 N n x0 x1 x5 x6 x7 = (w5TR5 (bodyOf 0 Try.f5) N n x0 x1 x5 x6 x7).run := by kernel_rfl
theorem w5oR5 {N : Nat} {r : Bool} (n : Nat) (x0 : List VSeries) (x1 : List VLabel) (x5 : List VSample) (x6 : Int) (x7 : Int) (h : law_TakeGets_R5 N n x0 x1 x5 x6 x7 = some r) : Ends (Y := TT) EE (w5G N) w5lv w5rs (fun u => u = w5enc r) (w5kR5 (bodyOf 0 Try.f5)) (w5sR5 x0 x1 x5 x6 x7) :=
  tree_use (w5vR5 N n x0 x1 x5 x6 x7) (w5nR5 N n x0 x1 x5 x6 x7) h (show (w5TR5 (bodyOf 0 Try.f5) N n x0 x1 x5 x6 x7).all _ from ⟨fun h => w5oL9 n _ _ _ _ _ _ _ h, fun _ => ⟨⟨fun _ => retp (enc := w5enc) rfl, retp (enc := w5enc) rfl⟩, retp (enc := w5enc) rfl⟩⟩)
def w5TE0 (c : Code) (N : Nat) (x0 : List VSeries) (x1 : List VLabel) : Tree (Lf EE.T × Option Bool) :=
  .bnd (take_Get N x0 x1) fun z1 =>
  .bnd (ref_CheckStore N x0) fun z2 =>
  .cond (z2 == 0)
  (
    .bnd (ref_CheckLabels N x1) fun z3 =>
    .leaf (.go (w5kR5 c) (w5sR5 x0 x1 z1.1 z1.2 z3), law_TakeGets_R5 N N x0 x1 z1.1 z1.2 z3))
  (
    .leaf (.go (w5kR5 c) (w5sR5 x0 x1 z1.1 z1.2 z2), law_TakeGets_R5 N N x0 x1 z1.1 z1.2 z2))
theorem w5vE0 (N : Nat) (x0 : List VSeries) (x1 : List VLabel) : evM TT EE (w5G N) w5lv w5rs 4000 true (w5kE0 (bodyOf 0 Try.f5)) (w5sE0 x0 x1) = (w5TE0 (bodyOf 0 Try.f5) N x0 x1).map1 := by kernel_rfl
theorem w5nE0 (N : Nat) (x0 : List VSeries) (x1 : List VLabel) : law_TakeGets N x0 x1 = (w5TE0 (bodyOf 0 Try.f5) N x0 x1).run := by kernel_rfl
theorem w5oE0 {N : Nat} {r : Bool} (x0 : List VSeries) (x1 : List VLabel) (h : law_TakeGets N x0 x1 = some r) : Ends (Y := TT) EE (w5G N) w5lv w5rs (fun u => u = w5enc r) (w5kE0 (bodyOf 0 Try.f5)) (w5sE0 x0 x1) :=
  tree_use (w5vE0 N x0 x1) (w5nE0 N x0 x1) h (show (w5TE0 (bodyOf 0 Try.f5) N x0 x1).all _ from fun _ => fun _ => ⟨fun _ => fun h => w5oR5 N _ _ _ _ _ h, fun h => w5oR5 N _ _ _ _ _ h⟩)
theorem law_TakeGets_ok {N : Nat} (x0 : List VSeries) (x1 : List VLabel) {r : Bool} (h : law_TakeGets N x0 x1 = some r) (ρ : Nat → Nat) : ACalls Try.prog 5 (([.a (.d (.sl (.nam 4)) x0), .a (.d (.sl (.nam 2)) x1)] : List (TV EE.T)).map (TV.to EE.toEnc ρ)) [] (fun out H => out = .ret ((law_TakeGets_u r).to EE.toEnc ρ) ∧ H = []) :=
  (fn_ok (bodyOf 0 Try.f5) 53 mixed (w5Gok N) Try.func5 (by kernel_rfl) rfl rfl rfl rfl (w5oE0 x0 x1 h) ρ).mono fun out H h => KPost.ret rfl h
def law_TakeGets_h (N : Nat) : List (TV EE.T) → PV EE.T
  | [u0, u1] => match argD (.sl (.nam 4)) u0, argD (.sl (.nam 2)) u1 with
    | some x0, some x1 => .opt (law_TakeGets N x0 x1) law_TakeGets_u
    | _, _ => .bad
  | _ => .bad
theorem law_TakeGets_hok (N : Nat) (us : List (TV EE.T)) : (law_TakeGets_h N us).ok fun u => ∀ ρ, ACalls Try.prog 5 (us.map (TV.to EE.toEnc ρ)) [] (fun out H => out = .ret (u.to EE.toEnc ρ) ∧ H = []) := by
  unfold law_TakeGets_h
  split
  · split
    · rename_i h0 h1
      intro z hz ρ; refine acalls_le ?_ (law_TakeGets_ok _ _ hz ρ); exact ⟨argD_le h0 ρ, argD_le h1 ρ, trivial⟩
    · trivial
  · trivial
end Go.Proofs.Ytmoehipmpchofaa
