/- The walks that prove plain functions right, written by gen/tgl.py. -/
import Derived.Test.YtofidfkojmbdoaaFS1p
import Derived.Test.YtofidfkojmbdoaaIN2
import Derived.Test.YtofidfkojmbdoaaPH
import Derived.Test.YtofidfkojmbdoaaCL
namespace Go.Proofs.Ytofidfkojmbdoaa
open Go.RowKit P
set_option linter.unusedVariables false
set_option linter.unusedSimpArgs false
set_option maxRecDepth 100000
/-! ### gleaner/gleanerref.CheckShard$1 -/
def ref_CheckShard_1_u (r : Bool) : TV EE.T := .a (.d .bool r)
def w57enc (r : Bool) : RL EE.T := .ret (ref_CheckShard_1_u r) []
def w57lv : Lvs := ⟨[], [], [], [], false, [], []⟩
def w57rs : List ResultVar := [.tmp 6]
def w57G (N : Nat) : Gam EE := ⟨[], EQT, [], []⟩
theorem w57Gok (N : Nat) : GOk Try.prog TT EE (w57G N) := GOk.nil EQT_ok
def w57kE0 (c : Code) : List It2 := [.c c]
def w57sE0 (x0 : Int) (x1 : Int) (x2 : Int) : TS EE.T := ⟨15, [(0, .a (.d (.int .i64) x0)), (1, .a (.d (.int .i64) x1)), (2, .a (.d (.int .i64) x2))], [], []⟩
def w57TE0 (c : Code) (N : Nat) (x0 : Int) (x1 : Int) (x2 : Int) : Tree (Lf EE.T × Option Bool) :=
  .cond (decide (x0 ≥ x1))
  (
    .leaf (.done (w57enc (decide (x0 ≤ x2))), some (decide (x0 ≤ x2))))
  (
    .leaf (.done (w57enc false), some false))
theorem w57vE0 (N : Nat) (x0 : Int) (x1 : Int) (x2 : Int) : evM TT EE (w57G N) w57lv w57rs 4000 true (w57kE0 (bodyOf 0 Try.f57)) (w57sE0 x0 x1 x2) = (w57TE0 (bodyOf 0 Try.f57) N x0 x1 x2).map1 := by kernel_rfl
theorem w57nE0 (N : Nat) (x0 : Int) (x1 : Int) (x2 : Int) : ref_CheckShard_1 N x0 x1 x2 = (w57TE0 (bodyOf 0 Try.f57) N x0 x1 x2).run := by kernel_rfl
theorem w57oE0 {N : Nat} {r : Bool} (x0 : Int) (x1 : Int) (x2 : Int) (h : ref_CheckShard_1 N x0 x1 x2 = some r) : Ends (Y := TT) EE (w57G N) w57lv w57rs (fun u => u = w57enc r) (w57kE0 (bodyOf 0 Try.f57)) (w57sE0 x0 x1 x2) :=
  tree_use (w57vE0 N x0 x1 x2) (w57nE0 N x0 x1 x2) h (show (w57TE0 (bodyOf 0 Try.f57) N x0 x1 x2).all _ from ⟨retp (enc := w57enc) rfl, retp (enc := w57enc) rfl⟩)
theorem ref_CheckShard_1_ok {N : Nat} (x0 : Int) (x1 : Int) (x2 : Int) {r : Bool} (h : ref_CheckShard_1 N x0 x1 x2 = some r) (ρ : Nat → Nat) : ACalls Try.prog 57 (([.a (.d (.int .i64) x0), .a (.d (.int .i64) x1), .a (.d (.int .i64) x2)] : List (TV EE.T)).map (TV.to EE.toEnc ρ)) [] (fun out H => out = .ret ((ref_CheckShard_1_u r).to EE.toEnc ρ) ∧ H = []) :=
  (fn_ok (bodyOf 0 Try.f57) 15 mixed (w57Gok N) Try.func57 (by kernel_rfl) rfl rfl rfl rfl (w57oE0 x0 x1 x2 h) ρ).mono fun out H h => KPost.ret rfl h
def ref_CheckShard_1_h (N : Nat) : List (TV EE.T) → PV EE.T
  | [u0, u1, u2] => match argD (.int .i64) u0, argD (.int .i64) u1, argD (.int .i64) u2 with
    | some x0, some x1, some x2 => .opt (ref_CheckShard_1 N x0 x1 x2) ref_CheckShard_1_u
    | _, _, _ => .bad
  | _ => .bad
theorem ref_CheckShard_1_hok (N : Nat) (us : List (TV EE.T)) : (ref_CheckShard_1_h N us).ok fun u => ∀ ρ, ACalls Try.prog 57 (us.map (TV.to EE.toEnc ρ)) [] (fun out H => out = .ret (u.to EE.toEnc ρ) ∧ H = []) := by
  unfold ref_CheckShard_1_h
  split
  · split
    · rename_i h0 h1 h2
      intro z hz ρ; refine acalls_le ?_ (ref_CheckShard_1_ok _ _ _ hz ρ); exact ⟨argD_le h0 ρ, argD_le h1 ρ, argD_le h2 ρ, trivial⟩
    · trivial
  · trivial
/-! ### gleaner/gleanerref.IsTime -/
def ref_IsTime_u (r : Bool) : TV EE.T := .a (.d .bool r)
def w46enc (r : Bool) : RL EE.T := .ret (ref_IsTime_u r) []
def w46lv : Lvs := ⟨[], [], [], [], false, [], []⟩
def w46rs : List ResultVar := [.tmp 2]
def w46G (N : Nat) : Gam EE := ⟨[], EQT, [], []⟩
theorem w46Gok (N : Nat) : GOk Try.prog TT EE (w46G N) := GOk.nil EQT_ok
def w46kE0 (c : Code) : List It2 := [.c c]
def w46sE0 (x0 : Int) : TS EE.T := ⟨9, [(0, .a (.d (.int .i64) x0))], [], []⟩
def w46TE0 (c : Code) (N : Nat) (x0 : Int) : Tree (Lf EE.T × Option Bool) :=
  .cond (decide (x0 ≥ (-9007199254740991)))
  (
    .leaf (.done (w46enc (decide (x0 ≤ 9007199254740991))), some (decide (x0 ≤ 9007199254740991))))
  (
    .leaf (.done (w46enc false), some false))
theorem w46vE0 (N : Nat) (x0 : Int) : evM TT EE (w46G N) w46lv w46rs 4000 true (w46kE0 (bodyOf 0 Try.f46)) (w46sE0 x0) = (w46TE0 (bodyOf 0 Try.f46) N x0).map1 := by kernel_rfl
theorem w46nE0 (N : Nat) (x0 : Int) : ref_IsTime N x0 = (w46TE0 (bodyOf 0 Try.f46) N x0).run := by kernel_rfl
theorem w46oE0 {N : Nat} {r : Bool} (x0 : Int) (h : ref_IsTime N x0 = some r) : Ends (Y := TT) EE (w46G N) w46lv w46rs (fun u => u = w46enc r) (w46kE0 (bodyOf 0 Try.f46)) (w46sE0 x0) :=
  tree_use (w46vE0 N x0) (w46nE0 N x0) h (show (w46TE0 (bodyOf 0 Try.f46) N x0).all _ from ⟨retp (enc := w46enc) rfl, retp (enc := w46enc) rfl⟩)
theorem ref_IsTime_ok {N : Nat} (x0 : Int) {r : Bool} (h : ref_IsTime N x0 = some r) (ρ : Nat → Nat) : ACalls Try.prog 46 (([.a (.d (.int .i64) x0)] : List (TV EE.T)).map (TV.to EE.toEnc ρ)) [] (fun out H => out = .ret ((ref_IsTime_u r).to EE.toEnc ρ) ∧ H = []) :=
  (fn_ok (bodyOf 0 Try.f46) 9 mixed (w46Gok N) Try.func46 (by kernel_rfl) rfl rfl rfl rfl (w46oE0 x0 h) ρ).mono fun out H h => KPost.ret rfl h
def ref_IsTime_h (N : Nat) : List (TV EE.T) → PV EE.T
  | [u0] => match argD (.int .i64) u0 with
    | some x0 => .opt (ref_IsTime N x0) ref_IsTime_u
    | _ => .bad
  | _ => .bad
theorem ref_IsTime_hok (N : Nat) (us : List (TV EE.T)) : (ref_IsTime_h N us).ok fun u => ∀ ρ, ACalls Try.prog 46 (us.map (TV.to EE.toEnc ρ)) [] (fun out H => out = .ret (u.to EE.toEnc ρ) ∧ H = []) := by
  unfold ref_IsTime_h
  split
  · split
    · rename_i h0
      intro z hz ρ; refine acalls_le ?_ (ref_IsTime_ok _ hz ρ); exact ⟨argD_le h0 ρ, trivial⟩
    · trivial
  · trivial
/-! ### gleaner/gleanerref.IsLetter -/
def ref_IsLetter_u (r : Bool) : TV EE.T := .a (.d .bool r)
def w102enc (r : Bool) : RL EE.T := .ret (ref_IsLetter_u r) []
def w102lv : Lvs := ⟨[], [], [], [], false, [], []⟩
def w102rs : List ResultVar := [.tmp 2]
def w102G (N : Nat) : Gam EE := ⟨[], EQT, [], []⟩
theorem w102Gok (N : Nat) : GOk Try.prog TT EE (w102G N) := GOk.nil EQT_ok
def w102kE0 (c : Code) : List It2 := [.c c]
def w102sE0 (x0 : UInt8) : TS EE.T := ⟨21, [(0, .a (.d .byte x0))], [], []⟩
def w102TE0 (c : Code) (N : Nat) (x0 : UInt8) : Tree (Lf EE.T × Option Bool) :=
  .cond (decide ((b2i x0) ≥ (b2i 97)))
  (
    .cond (decide ((b2i x0) ≤ (b2i 122)))
    (
      .leaf (.done (w102enc true), some true))
    (
      .cond (decide ((b2i x0) ≥ (b2i 65)))
      (
        .cond (decide ((b2i x0) ≤ (b2i 90)))
        (
          .leaf (.done (w102enc true), some true))
        (
          .leaf (.done (w102enc ((b2i x0) == (b2i 95))), some ((b2i x0) == (b2i 95)))))
      (
        .leaf (.done (w102enc ((b2i x0) == (b2i 95))), some ((b2i x0) == (b2i 95))))))
  (
    .cond (decide ((b2i x0) ≥ (b2i 65)))
    (
      .cond (decide ((b2i x0) ≤ (b2i 90)))
      (
        .leaf (.done (w102enc true), some true))
      (
        .leaf (.done (w102enc ((b2i x0) == (b2i 95))), some ((b2i x0) == (b2i 95)))))
    (
      .leaf (.done (w102enc ((b2i x0) == (b2i 95))), some ((b2i x0) == (b2i 95)))))
theorem w102vE0 (N : Nat) (x0 : UInt8) : evM TT EE (w102G N) w102lv w102rs 4000 true (w102kE0 (bodyOf 0 Try.f102)) (w102sE0 x0) = (w102TE0 (bodyOf 0 Try.f102) N x0).map1 := by kernel_rfl
theorem w102nE0 (N : Nat) (x0 : UInt8) : ref_IsLetter N x0 = (w102TE0 (bodyOf 0 Try.f102) N x0).run := by kernel_rfl
theorem w102oE0 {N : Nat} {r : Bool} (x0 : UInt8) (h : ref_IsLetter N x0 = some r) : Ends (Y := TT) EE (w102G N) w102lv w102rs (fun u => u = w102enc r) (w102kE0 (bodyOf 0 Try.f102)) (w102sE0 x0) :=
  tree_use (w102vE0 N x0) (w102nE0 N x0) h (show (w102TE0 (bodyOf 0 Try.f102) N x0).all _ from ⟨⟨retp (enc := w102enc) rfl, ⟨⟨retp (enc := w102enc) rfl, retp (enc := w102enc) rfl⟩, retp (enc := w102enc) rfl⟩⟩, ⟨⟨retp (enc := w102enc) rfl, retp (enc := w102enc) rfl⟩, retp (enc := w102enc) rfl⟩⟩)
theorem ref_IsLetter_ok {N : Nat} (x0 : UInt8) {r : Bool} (h : ref_IsLetter N x0 = some r) (ρ : Nat → Nat) : ACalls Try.prog 102 (([.a (.d .byte x0)] : List (TV EE.T)).map (TV.to EE.toEnc ρ)) [] (fun out H => out = .ret ((ref_IsLetter_u r).to EE.toEnc ρ) ∧ H = []) :=
  (fn_ok (bodyOf 0 Try.f102) 21 mixed (w102Gok N) Try.func102 (by kernel_rfl) rfl rfl rfl rfl (w102oE0 x0 h) ρ).mono fun out H h => KPost.ret rfl h
def ref_IsLetter_h (N : Nat) : List (TV EE.T) → PV EE.T
  | [u0] => match argD .byte u0 with
    | some x0 => .opt (ref_IsLetter N x0) ref_IsLetter_u
    | _ => .bad
  | _ => .bad
theorem ref_IsLetter_hok (N : Nat) (us : List (TV EE.T)) : (ref_IsLetter_h N us).ok fun u => ∀ ρ, ACalls Try.prog 102 (us.map (TV.to EE.toEnc ρ)) [] (fun out H => out = .ret (u.to EE.toEnc ρ) ∧ H = []) := by
  unfold ref_IsLetter_h
  split
  · split
    · rename_i h0
      intro z hz ρ; refine acalls_le ?_ (ref_IsLetter_ok _ hz ρ); exact ⟨argD_le h0 ρ, trivial⟩
    · trivial
  · trivial
/-! ### gleaner/gleanerref.IsNumeral -/
def ref_IsNumeral_u (r : Bool) : TV EE.T := .a (.d .bool r)
def w103enc (r : Bool) : RL EE.T := .ret (ref_IsNumeral_u r) []
def w103lv : Lvs := ⟨[], [], [], [], false, [], []⟩
def w103rs : List ResultVar := [.tmp 2]
def w103G (N : Nat) : Gam EE := ⟨[], EQT, [], []⟩
theorem w103Gok (N : Nat) : GOk Try.prog TT EE (w103G N) := GOk.nil EQT_ok
def w103kE0 (c : Code) : List It2 := [.c c]
def w103sE0 (x0 : UInt8) : TS EE.T := ⟨9, [(0, .a (.d .byte x0))], [], []⟩
def w103TE0 (c : Code) (N : Nat) (x0 : UInt8) : Tree (Lf EE.T × Option Bool) :=
  .cond (decide ((b2i x0) ≥ (b2i 48)))
  (
    .leaf (.done (w103enc (decide ((b2i x0) ≤ (b2i 57)))), some (decide ((b2i x0) ≤ (b2i 57)))))
  (
    .leaf (.done (w103enc false), some false))
theorem w103vE0 (N : Nat) (x0 : UInt8) : evM TT EE (w103G N) w103lv w103rs 4000 true (w103kE0 (bodyOf 0 Try.f103)) (w103sE0 x0) = (w103TE0 (bodyOf 0 Try.f103) N x0).map1 := by kernel_rfl
theorem w103nE0 (N : Nat) (x0 : UInt8) : ref_IsNumeral N x0 = (w103TE0 (bodyOf 0 Try.f103) N x0).run := by kernel_rfl
theorem w103oE0 {N : Nat} {r : Bool} (x0 : UInt8) (h : ref_IsNumeral N x0 = some r) : Ends (Y := TT) EE (w103G N) w103lv w103rs (fun u => u = w103enc r) (w103kE0 (bodyOf 0 Try.f103)) (w103sE0 x0) :=
  tree_use (w103vE0 N x0) (w103nE0 N x0) h (show (w103TE0 (bodyOf 0 Try.f103) N x0).all _ from ⟨retp (enc := w103enc) rfl, retp (enc := w103enc) rfl⟩)
theorem ref_IsNumeral_ok {N : Nat} (x0 : UInt8) {r : Bool} (h : ref_IsNumeral N x0 = some r) (ρ : Nat → Nat) : ACalls Try.prog 103 (([.a (.d .byte x0)] : List (TV EE.T)).map (TV.to EE.toEnc ρ)) [] (fun out H => out = .ret ((ref_IsNumeral_u r).to EE.toEnc ρ) ∧ H = []) :=
  (fn_ok (bodyOf 0 Try.f103) 9 mixed (w103Gok N) Try.func103 (by kernel_rfl) rfl rfl rfl rfl (w103oE0 x0 h) ρ).mono fun out H h => KPost.ret rfl h
def ref_IsNumeral_h (N : Nat) : List (TV EE.T) → PV EE.T
  | [u0] => match argD .byte u0 with
    | some x0 => .opt (ref_IsNumeral N x0) ref_IsNumeral_u
    | _ => .bad
  | _ => .bad
theorem ref_IsNumeral_hok (N : Nat) (us : List (TV EE.T)) : (ref_IsNumeral_h N us).ok fun u => ∀ ρ, ACalls Try.prog 103 (us.map (TV.to EE.toEnc ρ)) [] (fun out H => out = .ret (u.to EE.toEnc ρ) ∧ H = []) := by
  unfold ref_IsNumeral_h
  split
  · split
    · rename_i h0
      intro z hz ρ; refine acalls_le ?_ (ref_IsNumeral_ok _ hz ρ); exact ⟨argD_le h0 ρ, trivial⟩
    · trivial
  · trivial
/-! ### gleaner/gleanerref.IsName -/
def ref_IsName_u (r : Bool) : TV EE.T := .a (.d .bool r)
def w91enc (r : Bool) : RL EE.T := .ret (ref_IsName_u r) []
def w91lv : Lvs := ⟨[(3, ⟨[(0, false), (3, false)], [], []⟩)], [(2, ⟨[(0, false), (3, false)], [], []⟩)], [3], [], false, [], []⟩
def w91rs : List ResultVar := [.tmp 2]
def w91G (N : Nat) : Gam EE := ⟨[⟨102, ref_IsLetter_h N⟩, ⟨103, ref_IsNumeral_h N⟩], EQT, [], []⟩
theorem w91Gok (N : Nat) : GOk Try.prog TT EE (w91G N) := GOk.cons (ref_IsLetter_hok N) (GOk.cons (ref_IsNumeral_hok N) (GOk.nil EQT_ok))
def w91kR3 (c : Code) : List It2 := atR 3 c
def w91sR3 (x0 : List UInt8) (x3 : Int) : TS EE.T := ⟨34, [(0, .a (.d .str x0)), (3, .a (.d (.int .i64) x3))], [], []⟩
def w91kL2 (c : Code) : List It2 := atL 2 c
def w91sL2 (x0 : List UInt8) (x3 : Int) : TS EE.T := ⟨34, [(0, .a (.d .str x0)), (3, .a (.d (.int .i64) x3))], [], []⟩
def w91kE0 (c : Code) : List It2 := [.c c]
def w91sE0 (x0 : List UInt8) : TS EE.T := ⟨34, [(0, .a (.d .str x0))], [], []⟩
def w91TR3 (c : Code) (N : Nat) (k2 : (List UInt8) → Int → Option Bool) (n : Nat) (x0 : List UInt8) (x3 : Int) : Tree (Lf EE.T × Option Bool) :=
  .leaf (.go (w91kL2 c) (w91sL2 x0 (w64 (x3 + 1))), k2 x0 (w64 (x3 + 1)))
theorem w91vR3 (N : Nat) (k2 : (List UInt8) → Int → Option Bool) (n : Nat) (x0 : List UInt8) (x3 : Int) : evM TT EE (w91G N) w91lv w91rs 4000 true (w91kR3 (bodyOf 0 Try.f91)) (w91sR3 x0 x3) = (w91TR3 (bodyOf 0 Try.f91) N k2 n x0 x3).map1 := by kernel_rfl
theorem w91nR3 (N : Nat) (k2 : (List UInt8) → Int → Option Bool) (n : Nat) (x0 : List UInt8) (x3 : Int) : ref_IsName_R3 N k2 n x0 x3 = (w91TR3 (bodyOf 0 Try.f91) N k2 n x0 x3).run := by kernel_rfl
theorem w91oR3 {N : Nat} {r : Bool} {k2 : (List UInt8) → Int → Option Bool} (hk2 : ∀ x0 x3, k2 x0 x3 = some r → Ends (Y := TT) EE (w91G N) w91lv w91rs (fun u => u = w91enc r) (w91kL2 (bodyOf 0 Try.f91)) (w91sL2 x0 x3)) (n : Nat) (x0 : List UInt8) (x3 : Int) (h : ref_IsName_R3 N k2 n x0 x3 = some r) : Ends (Y := TT) EE (w91G N) w91lv w91rs (fun u => u = w91enc r) (w91kR3 (bodyOf 0 Try.f91)) (w91sR3 x0 x3) :=
  tree_use (w91vR3 N k2 n x0 x3) (w91nR3 N k2 n x0 x3) h (show (w91TR3 (bodyOf 0 Try.f91) N k2 n x0 x3).all _ from fun h => hk2 _ _ h)
def w91TL2 (c : Code) (N : Nat) (n : Nat) (x0 : List UInt8) (x3 : Int) : Tree (Lf EE.T × Option Bool) :=
  .cond (decide (x3 < (x0.length : Int)))
  (
    .bnd (idxC x0 x3) fun z1 =>
    .bnd (ref_IsLetter N z1) fun z2 =>
    .cond (!z2)
    (
      .cond (x3 == 0)
      (
        .leaf (.done (w91enc false), some false))
      (
        .bnd (idxC x0 x3) fun z3 =>
        .bnd (ref_IsNumeral N z3) fun z4 =>
        .cond (!z4)
        (
          .leaf (.done (w91enc false), some false))
        (
          .leaf (.go (w91kR3 c) (w91sR3 x0 x3), ref_IsName_R3 N (ref_IsName_L2 N n) n x0 x3))))
    (
      .leaf (.go (w91kR3 c) (w91sR3 x0 x3), ref_IsName_R3 N (ref_IsName_L2 N n) n x0 x3)))
  (
    .cond (decide ((x0.length : Int) ≥ 1))
    (
      .leaf (.done (w91enc (decide ((x0.length : Int) ≤ 40))), some (decide ((x0.length : Int) ≤ 40))))
    (
      .leaf (.done (w91enc false), some false)))
theorem w91vL2 (N : Nat) (n : Nat) (x0 : List UInt8) (x3 : Int) : evM TT EE (w91G N) w91lv w91rs 4000 true (w91kL2 (bodyOf 0 Try.f91)) (w91sL2 x0 x3) = (w91TL2 (bodyOf 0 Try.f91) N n x0 x3).map1 := by kernel_rfl
theorem w91nL2 (N : Nat) (n : Nat) (x0 : List UInt8) (x3 : Int) : ref_IsName_L2 N (n + 1) x0 x3 = (w91TL2 (bodyOf 0 Try.f91) N n x0 x3).run := by kernel_rfl
theorem w91oL2 {N : Nat} {r : Bool} : ∀ (n : Nat) (x0 : List UInt8) (x3 : Int), ref_IsName_L2 N n x0 x3 = some r → Ends (Y := TT) EE (w91G N) w91lv w91rs (fun u => u = w91enc r) (w91kL2 (bodyOf 0 Try.f91)) (w91sL2 x0 x3)
  | 0, _, _, h => by cases h
  | n + 1, x0, x3, h => tree_use (w91vL2 N n x0 x3) (w91nL2 N n x0 x3) h (show (w91TL2 (bodyOf 0 Try.f91) N n x0 x3).all _ from ⟨fun _ => fun _ => ⟨⟨retp (enc := w91enc) rfl, fun _ => fun _ => ⟨retp (enc := w91enc) rfl, fun h => w91oR3 (w91oL2 n) n _ _ h⟩⟩, fun h => w91oR3 (w91oL2 n) n _ _ h⟩, ⟨retp (enc := w91enc) rfl, retp (enc := w91enc) rfl⟩⟩)
def w91TE0 (c : Code) (N : Nat) (x0 : List UInt8) : Tree (Lf EE.T × Option Bool) :=
  .leaf (.go (w91kL2 c) (w91sL2 x0 0), ref_IsName_L2 N N x0 0)
theorem w91vE0 (N : Nat) (x0 : List UInt8) : evM TT EE (w91G N) w91lv w91rs 4000 true (w91kE0 (bodyOf 0 Try.f91)) (w91sE0 x0) = (w91TE0 (bodyOf 0 Try.f91) N x0).map1 := by kernel_rfl
theorem w91nE0 (N : Nat) (x0 : List UInt8) : ref_IsName N x0 = (w91TE0 (bodyOf 0 Try.f91) N x0).run := by kernel_rfl
theorem w91oE0 {N : Nat} {r : Bool} (x0 : List UInt8) (h : ref_IsName N x0 = some r) : Ends (Y := TT) EE (w91G N) w91lv w91rs (fun u => u = w91enc r) (w91kE0 (bodyOf 0 Try.f91)) (w91sE0 x0) :=
  tree_use (w91vE0 N x0) (w91nE0 N x0) h (show (w91TE0 (bodyOf 0 Try.f91) N x0).all _ from fun h => w91oL2 N _ _ h)
theorem ref_IsName_ok {N : Nat} (x0 : List UInt8) {r : Bool} (h : ref_IsName N x0 = some r) (ρ : Nat → Nat) : ACalls Try.prog 91 (([.a (.d .str x0)] : List (TV EE.T)).map (TV.to EE.toEnc ρ)) [] (fun out H => out = .ret ((ref_IsName_u r).to EE.toEnc ρ) ∧ H = []) :=
  (fn_ok (bodyOf 0 Try.f91) 34 mixed (w91Gok N) Try.func91 (by kernel_rfl) rfl rfl rfl rfl (w91oE0 x0 h) ρ).mono fun out H h => KPost.ret rfl h
def ref_IsName_h (N : Nat) : List (TV EE.T) → PV EE.T
  | [u0] => match argD .str u0 with
    | some x0 => .opt (ref_IsName N x0) ref_IsName_u
    | _ => .bad
  | _ => .bad
theorem ref_IsName_hok (N : Nat) (us : List (TV EE.T)) : (ref_IsName_h N us).ok fun u => ∀ ρ, ACalls Try.prog 91 (us.map (TV.to EE.toEnc ρ)) [] (fun out H => out = .ret (u.to EE.toEnc ρ) ∧ H = []) := by
  unfold ref_IsName_h
  split
  · split
    · rename_i h0
      intro z hz ρ; refine acalls_le ?_ (ref_IsName_ok _ hz ρ); exact ⟨argD_le h0 ρ, trivial⟩
    · trivial
  · trivial
/-! ### gleaner/gleanerref.EachLabel -/
def ref_EachLabel_u (r : Int) : TV EE.T := .a (.d (.int .i64) r)
def w69enc (r : Int) : RL EE.T := .ret (ref_EachLabel_u r) []
def w69lv : Lvs := ⟨[(8, ⟨[(0, false), (1, false), (5, false)], [], []⟩), (16, ⟨[(0, false), (6, false), (7, false)], [], []⟩)], [(4, ⟨[(0, false), (1, false), (5, false)], [], []⟩), (11, ⟨[(0, false), (6, false)], [], []⟩), (14, ⟨[(0, false), (6, false), (7, false)], [], []⟩)], [8], [], false, [], []⟩
def w69rs : List ResultVar := [.tmp 4]
def w69G (N : Nat) : Gam EE := ⟨[⟨91, ref_IsName_h N⟩], EQT, [], []⟩
theorem w69Gok (N : Nat) : GOk Try.prog TT EE (w69G N) := GOk.cons (ref_IsName_hok N) (GOk.nil EQT_ok)
def w69kR8 (c : Code) : List It2 := atR 8 c
def w69sR8 (x0 : List VLabel) (x1 : Bool) (x5 : Int) : TS EE.T := ⟨65, [(0, .a (.d (.sl (.nam 2)) x0)), (1, .a (.d .bool x1)), (5, .a (.d (.int .i64) x5))], [], []⟩
def w69kL14 (c : Code) : List It2 := atL 14 c
def w69sL14 (x0 : List VLabel) (x6 : Int) (x7 : Int) : TS EE.T := ⟨65, [(0, .a (.d (.sl (.nam 2)) x0)), (6, .a (.d (.int .i64) x6)), (7, .a (.d (.int .i64) x7))], [], []⟩
def w69kL11 (c : Code) : List It2 := atL 11 c
def w69sL11 (x0 : List VLabel) (x6 : Int) : TS EE.T := ⟨65, [(0, .a (.d (.sl (.nam 2)) x0)), (6, .a (.d (.int .i64) x6))], [], []⟩
def w69kL4 (c : Code) : List It2 := atL 4 c
def w69sL4 (x0 : List VLabel) (x1 : Bool) (x5 : Int) : TS EE.T := ⟨65, [(0, .a (.d (.sl (.nam 2)) x0)), (1, .a (.d .bool x1)), (5, .a (.d (.int .i64) x5))], [], []⟩
def w69kE0 (c : Code) : List It2 := [.c c]
def w69sE0 (x0 : List VLabel) (x1 : Bool) : TS EE.T := ⟨65, [(0, .a (.d (.sl (.nam 2)) x0)), (1, .a (.d .bool x1))], [], []⟩
def w69TR8 (c : Code) (N : Nat) (k4 : (List VLabel) → Bool → Int → Option Int) (n : Nat) (x0 : List VLabel) (x1 : Bool) (x5 : Int) : Tree (Lf EE.T × Option Int) :=
  .bnd (idxC x0 x5) fun z4 =>
  .cond (decide ((z4.Value.length : Int) > 100))
  (
    .leaf (.done (w69enc 2), some 2))
  (
    .leaf (.go (w69kL4 c) (w69sL4 x0 x1 (w64 (x5 + 1))), k4 x0 x1 (w64 (x5 + 1))))
theorem w69vR8 (N : Nat) (k4 : (List VLabel) → Bool → Int → Option Int) (n : Nat) (x0 : List VLabel) (x1 : Bool) (x5 : Int) : evM TT EE (w69G N) w69lv w69rs 4000 true (w69kR8 (bodyOf 0 Try.f69)) (w69sR8 x0 x1 x5) = (w69TR8 (bodyOf 0 Try.f69) N k4 n x0 x1 x5).map1 := by kernel_rfl
theorem w69nR8 (N : Nat) (k4 : (List VLabel) → Bool → Int → Option Int) (n : Nat) (x0 : List VLabel) (x1 : Bool) (x5 : Int) : ref_EachLabel_R8 N k4 n x0 x1 x5 = (w69TR8 (bodyOf 0 Try.f69) N k4 n x0 x1 x5).run := by kernel_rfl
theorem w69oR8 {N : Nat} {r : Int} {k4 : (List VLabel) → Bool → Int → Option Int} (hk4 : ∀ x0 x1 x5, k4 x0 x1 x5 = some r → Ends (Y := TT) EE (w69G N) w69lv w69rs (fun u => u = w69enc r) (w69kL4 (bodyOf 0 Try.f69)) (w69sL4 x0 x1 x5)) (n : Nat) (x0 : List VLabel) (x1 : Bool) (x5 : Int) (h : ref_EachLabel_R8 N k4 n x0 x1 x5 = some r) : Ends (Y := TT) EE (w69G N) w69lv w69rs (fun u => u = w69enc r) (w69kR8 (bodyOf 0 Try.f69)) (w69sR8 x0 x1 x5) :=
  tree_use (w69vR8 N k4 n x0 x1 x5) (w69nR8 N k4 n x0 x1 x5) h (show (w69TR8 (bodyOf 0 Try.f69) N k4 n x0 x1 x5).all _ from fun _ => ⟨retp (enc := w69enc) rfl, fun h => hk4 _ _ _ h⟩)
def w69TL14 (c : Code) (N : Nat) (k11 : (List VLabel) → Int → Option Int) (n : Nat) (x0 : List VLabel) (x6 : Int) (x7 : Int) : Tree (Lf EE.T × Option Int) :=
  .cond (decide (x7 < x6))
  (
    .bnd (idxC x0 x7) fun z5 =>
    .bnd (idxC x0 x6) fun z6 =>
    .cond (decide (z5.Name = z6.Name))
    (
      .leaf (.done (w69enc 6), some 6))
    (
      .leaf (.go (w69kL14 c) (w69sL14 x0 x6 (w64 (x7 + 1))), ref_EachLabel_L14 N k11 n x0 x6 (w64 (x7 + 1)))))
  (
    .leaf (.go (w69kL11 c) (w69sL11 x0 (w64 (x6 + 1))), k11 x0 (w64 (x6 + 1))))
theorem w69vL14 (N : Nat) (k11 : (List VLabel) → Int → Option Int) (n : Nat) (x0 : List VLabel) (x6 : Int) (x7 : Int) : evM TT EE (w69G N) w69lv w69rs 4000 true (w69kL14 (bodyOf 0 Try.f69)) (w69sL14 x0 x6 x7) = (w69TL14 (bodyOf 0 Try.f69) N k11 n x0 x6 x7).map1 := by kernel_rfl
theorem w69nL14 (N : Nat) (k11 : (List VLabel) → Int → Option Int) (n : Nat) (x0 : List VLabel) (x6 : Int) (x7 : Int) : ref_EachLabel_L14 N k11 (n + 1) x0 x6 x7 = (w69TL14 (bodyOf 0 Try.f69) N k11 n x0 x6 x7).run := by kernel_rfl
theorem w69oL14 {N : Nat} {r : Int} {k11 : (List VLabel) → Int → Option Int} (hk11 : ∀ x0 x6, k11 x0 x6 = some r → Ends (Y := TT) EE (w69G N) w69lv w69rs (fun u => u = w69enc r) (w69kL11 (bodyOf 0 Try.f69)) (w69sL11 x0 x6)) : ∀ (n : Nat) (x0 : List VLabel) (x6 : Int) (x7 : Int), ref_EachLabel_L14 N k11 n x0 x6 x7 = some r → Ends (Y := TT) EE (w69G N) w69lv w69rs (fun u => u = w69enc r) (w69kL14 (bodyOf 0 Try.f69)) (w69sL14 x0 x6 x7)
  | 0, _, _, _, h => by cases h
  | n + 1, x0, x6, x7, h => tree_use (w69vL14 N k11 n x0 x6 x7) (w69nL14 N k11 n x0 x6 x7) h (show (w69TL14 (bodyOf 0 Try.f69) N k11 n x0 x6 x7).all _ from ⟨fun _ => fun _ => ⟨retp (enc := w69enc) rfl, fun h => (w69oL14 hk11 n) _ _ _ h⟩, fun h => hk11 _ _ h⟩)
def w69TL11 (c : Code) (N : Nat) (n : Nat) (x0 : List VLabel) (x6 : Int) : Tree (Lf EE.T × Option Int) :=
  .cond (decide (x6 < (x0.length : Int)))
  (
    .leaf (.go (w69kL14 c) (w69sL14 x0 x6 0), ref_EachLabel_L14 N (ref_EachLabel_L11 N n) n x0 x6 0))
  (
    .leaf (.done (w69enc 0), some 0))
theorem w69vL11 (N : Nat) (n : Nat) (x0 : List VLabel) (x6 : Int) : evM TT EE (w69G N) w69lv w69rs 4000 true (w69kL11 (bodyOf 0 Try.f69)) (w69sL11 x0 x6) = (w69TL11 (bodyOf 0 Try.f69) N n x0 x6).map1 := by kernel_rfl
theorem w69nL11 (N : Nat) (n : Nat) (x0 : List VLabel) (x6 : Int) : ref_EachLabel_L11 N (n + 1) x0 x6 = (w69TL11 (bodyOf 0 Try.f69) N n x0 x6).run := by kernel_rfl
theorem w69oL11 {N : Nat} {r : Int} : ∀ (n : Nat) (x0 : List VLabel) (x6 : Int), ref_EachLabel_L11 N n x0 x6 = some r → Ends (Y := TT) EE (w69G N) w69lv w69rs (fun u => u = w69enc r) (w69kL11 (bodyOf 0 Try.f69)) (w69sL11 x0 x6)
  | 0, _, _, h => by cases h
  | n + 1, x0, x6, h => tree_use (w69vL11 N n x0 x6) (w69nL11 N n x0 x6) h (show (w69TL11 (bodyOf 0 Try.f69) N n x0 x6).all _ from ⟨fun h => w69oL14 (w69oL11 n) n _ _ _ h, retp (enc := w69enc) rfl⟩)
def w69TL4 (c : Code) (N : Nat) (n : Nat) (x0 : List VLabel) (x1 : Bool) (x5 : Int) : Tree (Lf EE.T × Option Int) :=
  .cond (decide (x5 < (x0.length : Int)))
  (
    .bnd (idxC x0 x5) fun z1 =>
    .bnd (ref_IsName N z1.Name) fun z2 =>
    .cond (!z2)
    (
      .leaf (.done (w69enc 1), some 1))
    (
      .bnd (idxC x0 x5) fun z3 =>
      .cond (decide (z3.Value = ([] : List UInt8)))
      (
        .cond (!x1)
        (
          .leaf (.done (w69enc 1), some 1))
        (
          .leaf (.go (w69kR8 c) (w69sR8 x0 x1 x5), ref_EachLabel_R8 N (ref_EachLabel_L4 N n) n x0 x1 x5)))
      (
        .leaf (.go (w69kR8 c) (w69sR8 x0 x1 x5), ref_EachLabel_R8 N (ref_EachLabel_L4 N n) n x0 x1 x5))))
  (
    .leaf (.go (w69kL11 c) (w69sL11 x0 0), ref_EachLabel_L11 N n x0 0))
theorem w69vL4 (N : Nat) (n : Nat) (x0 : List VLabel) (x1 : Bool) (x5 : Int) : evM TT EE (w69G N) w69lv w69rs 4000 true (w69kL4 (bodyOf 0 Try.f69)) (w69sL4 x0 x1 x5) = (w69TL4 (bodyOf 0 Try.f69) N n x0 x1 x5).map1 := by kernel_rfl
theorem w69nL4 (N : Nat) (n : Nat) (x0 : List VLabel) (x1 : Bool) (x5 : Int) : ref_EachLabel_L4 N (n + 1) x0 x1 x5 = (w69TL4 (bodyOf 0 Try.f69) N n x0 x1 x5).run := by kernel_rfl
theorem w69oL4 {N : Nat} {r : Int} : ∀ (n : Nat) (x0 : List VLabel) (x1 : Bool) (x5 : Int), ref_EachLabel_L4 N n x0 x1 x5 = some r → Ends (Y := TT) EE (w69G N) w69lv w69rs (fun u => u = w69enc r) (w69kL4 (bodyOf 0 Try.f69)) (w69sL4 x0 x1 x5)
  | 0, _, _, _, h => by cases h
  | n + 1, x0, x1, x5, h => tree_use (w69vL4 N n x0 x1 x5) (w69nL4 N n x0 x1 x5) h (show (w69TL4 (bodyOf 0 Try.f69) N n x0 x1 x5).all _ from ⟨fun _ => fun _ => ⟨retp (enc := w69enc) rfl, fun _ => ⟨⟨retp (enc := w69enc) rfl, fun h => w69oR8 (w69oL4 n) n _ _ _ h⟩, fun h => w69oR8 (w69oL4 n) n _ _ _ h⟩⟩, fun h => w69oL11 n _ _ h⟩)
def w69TE0 (c : Code) (N : Nat) (x0 : List VLabel) (x1 : Bool) : Tree (Lf EE.T × Option Int) :=
  .cond (decide ((x0.length : Int) > 20))
  (
    .leaf (.done (w69enc 2), some 2))
  (
    .leaf (.go (w69kL4 c) (w69sL4 x0 x1 0), ref_EachLabel_L4 N N x0 x1 0))
theorem w69vE0 (N : Nat) (x0 : List VLabel) (x1 : Bool) : evM TT EE (w69G N) w69lv w69rs 4000 true (w69kE0 (bodyOf 0 Try.f69)) (w69sE0 x0 x1) = (w69TE0 (bodyOf 0 Try.f69) N x0 x1).map1 := by kernel_rfl
theorem w69nE0 (N : Nat) (x0 : List VLabel) (x1 : Bool) : ref_EachLabel N x0 x1 = (w69TE0 (bodyOf 0 Try.f69) N x0 x1).run := by kernel_rfl
theorem w69oE0 {N : Nat} {r : Int} (x0 : List VLabel) (x1 : Bool) (h : ref_EachLabel N x0 x1 = some r) : Ends (Y := TT) EE (w69G N) w69lv w69rs (fun u => u = w69enc r) (w69kE0 (bodyOf 0 Try.f69)) (w69sE0 x0 x1) :=
  tree_use (w69vE0 N x0 x1) (w69nE0 N x0 x1) h (show (w69TE0 (bodyOf 0 Try.f69) N x0 x1).all _ from ⟨retp (enc := w69enc) rfl, fun h => w69oL4 N _ _ _ h⟩)
theorem ref_EachLabel_ok {N : Nat} (x0 : List VLabel) (x1 : Bool) {r : Int} (h : ref_EachLabel N x0 x1 = some r) (ρ : Nat → Nat) : ACalls Try.prog 69 (([.a (.d (.sl (.nam 2)) x0), .a (.d .bool x1)] : List (TV EE.T)).map (TV.to EE.toEnc ρ)) [] (fun out H => out = .ret ((ref_EachLabel_u r).to EE.toEnc ρ) ∧ H = []) :=
  (fn_ok (bodyOf 0 Try.f69) 65 mixed (w69Gok N) Try.func69 (by kernel_rfl) rfl rfl rfl rfl (w69oE0 x0 x1 h) ρ).mono fun out H h => KPost.ret rfl h
def ref_EachLabel_h (N : Nat) : List (TV EE.T) → PV EE.T
  | [u0, u1] => match argD (.sl (.nam 2)) u0, argD .bool u1 with
    | some x0, some x1 => .opt (ref_EachLabel N x0 x1) ref_EachLabel_u
    | _, _ => .bad
  | _ => .bad
theorem ref_EachLabel_hok (N : Nat) (us : List (TV EE.T)) : (ref_EachLabel_h N us).ok fun u => ∀ ρ, ACalls Try.prog 69 (us.map (TV.to EE.toEnc ρ)) [] (fun out H => out = .ret (u.to EE.toEnc ρ) ∧ H = []) := by
  unfold ref_EachLabel_h
  split
  · split
    · rename_i h0 h1
      intro z hz ρ; refine acalls_le ?_ (ref_EachLabel_ok _ _ hz ρ); exact ⟨argD_le h0 ρ, argD_le h1 ρ, trivial⟩
    · trivial
  · trivial
/-! ### gleaner/gleanerref.CheckLabels -/
def ref_CheckLabels_u (r : Int) : TV EE.T := .a (.d (.int .i64) r)
def w37enc (r : Int) : RL EE.T := .ret (ref_CheckLabels_u r) []
def w37lv : Lvs := ⟨[(4, ⟨[(0, false), (3, false), (4, false)], [], []⟩), (5, ⟨[(0, false), (3, false), (4, false)], [], []⟩)], [(3, ⟨[(0, false), (3, false), (4, false)], [], []⟩)], [4], [], false, [], []⟩
def w37rs : List ResultVar := [.tmp 2]
def w37G (N : Nat) : Gam EE := ⟨[⟨69, ref_EachLabel_h N⟩], EQT, [], []⟩
theorem w37Gok (N : Nat) : GOk Try.prog TT EE (w37G N) := GOk.cons (ref_EachLabel_hok N) (GOk.nil EQT_ok)
def w37kR4 (c : Code) : List It2 := atR 4 c
def w37sR4 (x0 : List VLabel) (x3 : Int) (x4 : Int) : TS EE.T := ⟨30, [(0, .a (.d (.sl (.nam 2)) x0)), (3, .a (.d (.int .i64) x3)), (4, .a (.d (.int .i64) x4))], [], []⟩
def w37kL3 (c : Code) : List It2 := atL 3 c
def w37sL3 (x0 : List VLabel) (x3 : Int) (x4 : Int) : TS EE.T := ⟨30, [(0, .a (.d (.sl (.nam 2)) x0)), (3, .a (.d (.int .i64) x3)), (4, .a (.d (.int .i64) x4))], [], []⟩
def w37kE0 (c : Code) : List It2 := [.c c]
def w37sE0 (x0 : List VLabel) : TS EE.T := ⟨30, [(0, .a (.d (.sl (.nam 2)) x0))], [], []⟩
def w37TR4 (c : Code) (N : Nat) (k3 : (List VLabel) → Int → Int → Option Int) (n : Nat) (x0 : List VLabel) (x3 : Int) (x4 : Int) : Tree (Lf EE.T × Option Int) :=
  .leaf (.go (w37kL3 c) (w37sL3 x0 x3 (w64 (x4 + 1))), k3 x0 x3 (w64 (x4 + 1)))
theorem w37vR4 (N : Nat) (k3 : (List VLabel) → Int → Int → Option Int) (n : Nat) (x0 : List VLabel) (x3 : Int) (x4 : Int) : evM TT EE (w37G N) w37lv w37rs 4000 true (w37kR4 (bodyOf 0 Try.f37)) (w37sR4 x0 x3 x4) = (w37TR4 (bodyOf 0 Try.f37) N k3 n x0 x3 x4).map1 := by kernel_rfl
theorem w37nR4 (N : Nat) (k3 : (List VLabel) → Int → Int → Option Int) (n : Nat) (x0 : List VLabel) (x3 : Int) (x4 : Int) : ref_CheckLabels_R4 N k3 n x0 x3 x4 = (w37TR4 (bodyOf 0 Try.f37) N k3 n x0 x3 x4).run := by kernel_rfl
theorem w37oR4 {N : Nat} {r : Int} {k3 : (List VLabel) → Int → Int → Option Int} (hk3 : ∀ x0 x3 x4, k3 x0 x3 x4 = some r → Ends (Y := TT) EE (w37G N) w37lv w37rs (fun u => u = w37enc r) (w37kL3 (bodyOf 0 Try.f37)) (w37sL3 x0 x3 x4)) (n : Nat) (x0 : List VLabel) (x3 : Int) (x4 : Int) (h : ref_CheckLabels_R4 N k3 n x0 x3 x4 = some r) : Ends (Y := TT) EE (w37G N) w37lv w37rs (fun u => u = w37enc r) (w37kR4 (bodyOf 0 Try.f37)) (w37sR4 x0 x3 x4) :=
  tree_use (w37vR4 N k3 n x0 x3 x4) (w37nR4 N k3 n x0 x3 x4) h (show (w37TR4 (bodyOf 0 Try.f37) N k3 n x0 x3 x4).all _ from fun h => hk3 _ _ _ h)
def w37TL3 (c : Code) (N : Nat) (n : Nat) (x0 : List VLabel) (x3 : Int) (x4 : Int) : Tree (Lf EE.T × Option Int) :=
  .cond (decide (x4 < (x0.length : Int)))
  (
    .cond (x3 == 0)
    (
      .bnd (idxC x0 x4) fun z2 =>
      .bnd (idxC x0 (w64 (x4 - 1))) fun z3 =>
      .cond (Op.bytesLess z2.Name z3.Name)
      (
        .leaf (.go (w37kR4 c) (w37sR4 x0 4 x4), ref_CheckLabels_R4 N (ref_CheckLabels_L3 N n) n x0 4 x4))
      (
        .leaf (.go (w37kR4 c) (w37sR4 x0 x3 x4), ref_CheckLabels_R4 N (ref_CheckLabels_L3 N n) n x0 x3 x4)))
    (
      .leaf (.done (w37enc x3), some x3)))
  (
    .leaf (.done (w37enc x3), some x3))
theorem w37vL3 (N : Nat) (n : Nat) (x0 : List VLabel) (x3 : Int) (x4 : Int) : evM TT EE (w37G N) w37lv w37rs 4000 true (w37kL3 (bodyOf 0 Try.f37)) (w37sL3 x0 x3 x4) = (w37TL3 (bodyOf 0 Try.f37) N n x0 x3 x4).map1 := by kernel_rfl
theorem w37nL3 (N : Nat) (n : Nat) (x0 : List VLabel) (x3 : Int) (x4 : Int) : ref_CheckLabels_L3 N (n + 1) x0 x3 x4 = (w37TL3 (bodyOf 0 Try.f37) N n x0 x3 x4).run := by kernel_rfl
theorem w37oL3 {N : Nat} {r : Int} : ∀ (n : Nat) (x0 : List VLabel) (x3 : Int) (x4 : Int), ref_CheckLabels_L3 N n x0 x3 x4 = some r → Ends (Y := TT) EE (w37G N) w37lv w37rs (fun u => u = w37enc r) (w37kL3 (bodyOf 0 Try.f37)) (w37sL3 x0 x3 x4)
  | 0, _, _, _, h => by cases h
  | n + 1, x0, x3, x4, h => tree_use (w37vL3 N n x0 x3 x4) (w37nL3 N n x0 x3 x4) h (show (w37TL3 (bodyOf 0 Try.f37) N n x0 x3 x4).all _ from ⟨⟨fun _ => fun _ => ⟨fun h => w37oR4 (w37oL3 n) n _ _ _ h, fun h => w37oR4 (w37oL3 n) n _ _ _ h⟩, retp (enc := w37enc) rfl⟩, retp (enc := w37enc) rfl⟩)
def w37TE0 (c : Code) (N : Nat) (x0 : List VLabel) : Tree (Lf EE.T × Option Int) :=
  .bnd (ref_EachLabel N x0 false) fun z1 =>
  .leaf (.go (w37kL3 c) (w37sL3 x0 z1 1), ref_CheckLabels_L3 N N x0 z1 1)
theorem w37vE0 (N : Nat) (x0 : List VLabel) : evM TT EE (w37G N) w37lv w37rs 4000 true (w37kE0 (bodyOf 0 Try.f37)) (w37sE0 x0) = (w37TE0 (bodyOf 0 Try.f37) N x0).map1 := by kernel_rfl
theorem w37nE0 (N : Nat) (x0 : List VLabel) : ref_CheckLabels N x0 = (w37TE0 (bodyOf 0 Try.f37) N x0).run := by kernel_rfl
theorem w37oE0 {N : Nat} {r : Int} (x0 : List VLabel) (h : ref_CheckLabels N x0 = some r) : Ends (Y := TT) EE (w37G N) w37lv w37rs (fun u => u = w37enc r) (w37kE0 (bodyOf 0 Try.f37)) (w37sE0 x0) :=
  tree_use (w37vE0 N x0) (w37nE0 N x0) h (show (w37TE0 (bodyOf 0 Try.f37) N x0).all _ from fun _ => fun h => w37oL3 N _ _ _ h)
theorem ref_CheckLabels_ok {N : Nat} (x0 : List VLabel) {r : Int} (h : ref_CheckLabels N x0 = some r) (ρ : Nat → Nat) : ACalls Try.prog 37 (([.a (.d (.sl (.nam 2)) x0)] : List (TV EE.T)).map (TV.to EE.toEnc ρ)) [] (fun out H => out = .ret ((ref_CheckLabels_u r).to EE.toEnc ρ) ∧ H = []) :=
  (fn_ok (bodyOf 0 Try.f37) 30 mixed (w37Gok N) Try.func37 (by kernel_rfl) rfl rfl rfl rfl (w37oE0 x0 h) ρ).mono fun out H h => KPost.ret rfl h
def ref_CheckLabels_h (N : Nat) : List (TV EE.T) → PV EE.T
  | [u0] => match argD (.sl (.nam 2)) u0 with
    | some x0 => .opt (ref_CheckLabels N x0) ref_CheckLabels_u
    | _ => .bad
  | _ => .bad
theorem ref_CheckLabels_hok (N : Nat) (us : List (TV EE.T)) : (ref_CheckLabels_h N us).ok fun u => ∀ ρ, ACalls Try.prog 37 (us.map (TV.to EE.toEnc ρ)) [] (fun out H => out = .ret (u.to EE.toEnc ρ) ∧ H = []) := by
  unfold ref_CheckLabels_h
  split
  · split
    · rename_i h0
      intro z hz ρ; refine acalls_le ?_ (ref_CheckLabels_ok _ hz ρ); exact ⟨argD_le h0 ρ, trivial⟩
    · trivial
  · trivial
/-! ### gleaner/gleanerref.CheckItem -/
def ref_CheckItem_u (r : Int) : TV EE.T := .a (.d (.int .i64) r)
def w25enc (r : Int) : RL EE.T := .ret (ref_CheckItem_u r) []
def w25lv : Lvs := ⟨[], [], [], [], false, [], []⟩
def w25rs : List ResultVar := [.tmp 2]
def w25G (N : Nat) : Gam EE := ⟨[⟨37, ref_CheckLabels_h N⟩, ⟨46, ref_IsTime_h N⟩], EQT, [], []⟩
theorem w25Gok (N : Nat) : GOk Try.prog TT EE (w25G N) := GOk.cons (ref_CheckLabels_hok N) (GOk.cons (ref_IsTime_hok N) (GOk.nil EQT_ok))
def w25kE0 (c : Code) : List It2 := [.c c]
def w25sE0 (x0 : VItem) : TS EE.T := ⟨16, [(0, .ag (unpT EE (.nam 7) x0))], [], []⟩
def w25TE0 (c : Code) (N : Nat) (x0 : VItem) : Tree (Lf EE.T × Option Int) :=
  .cond (decide (x0.Number < 0))
  (
    .leaf (.done (w25enc 3), some 3))
  (
    .bnd (ref_IsTime N x0.Sample.Time) fun z1 =>
    .cond (!z1)
    (
      .leaf (.done (w25enc 3), some 3))
    (
      .bnd (ref_CheckLabels N x0.Labels) fun z2 =>
      .leaf (.done (w25enc z2), some z2)))
theorem w25vE0 (N : Nat) (x0 : VItem) : evM TT EE (w25G N) w25lv w25rs 4000 true (w25kE0 (bodyOf 0 Try.f25)) (w25sE0 x0) = (w25TE0 (bodyOf 0 Try.f25) N x0).map1 := by kernel_rfl
theorem w25nE0 (N : Nat) (x0 : VItem) : ref_CheckItem N x0 = (w25TE0 (bodyOf 0 Try.f25) N x0).run := by kernel_rfl
theorem w25oE0 {N : Nat} {r : Int} (x0 : VItem) (h : ref_CheckItem N x0 = some r) : Ends (Y := TT) EE (w25G N) w25lv w25rs (fun u => u = w25enc r) (w25kE0 (bodyOf 0 Try.f25)) (w25sE0 x0) :=
  tree_use (w25vE0 N x0) (w25nE0 N x0) h (show (w25TE0 (bodyOf 0 Try.f25) N x0).all _ from ⟨retp (enc := w25enc) rfl, fun _ => ⟨retp (enc := w25enc) rfl, fun _ => retp (enc := w25enc) rfl⟩⟩)
theorem ref_CheckItem_ok {N : Nat} (x0 : VItem) {r : Int} (h : ref_CheckItem N x0 = some r) (ρ : Nat → Nat) : ACalls Try.prog 25 (([.ag (unpT EE (.nam 7) x0)] : List (TV EE.T)).map (TV.to EE.toEnc ρ)) [] (fun out H => out = .ret ((ref_CheckItem_u r).to EE.toEnc ρ) ∧ H = []) :=
  (fn_ok (bodyOf 0 Try.f25) 16 mixed (w25Gok N) Try.func25 (by kernel_rfl) rfl rfl rfl rfl (w25oE0 x0 h) ρ).mono fun out H h => KPost.ret rfl h
def ref_CheckItem_h (N : Nat) : List (TV EE.T) → PV EE.T
  | [u0] => match argS EE 7 u0 with
    | some x0 => .opt (ref_CheckItem N x0) ref_CheckItem_u
    | _ => .bad
  | _ => .bad
theorem ref_CheckItem_hok (N : Nat) (us : List (TV EE.T)) : (ref_CheckItem_h N us).ok fun u => ∀ ρ, ACalls Try.prog 25 (us.map (TV.to EE.toEnc ρ)) [] (fun out H => out = .ret (u.to EE.toEnc ρ) ∧ H = []) := by
  unfold ref_CheckItem_h
  split
  · split
    · rename_i h0
      intro z hz ρ; refine acalls_le ?_ (ref_CheckItem_ok _ hz ρ); exact ⟨argS_le h0 ρ, trivial⟩
    · trivial
  · trivial
/-! ### gleaner/gleanerref.CheckShard -/
def ref_CheckShard_u (r : Int) : TV EE.T := .a (.d (.int .i64) r)
def w23enc (r : Int) : RL EE.T := .ret (ref_CheckShard_u r) []
def w23lv : Lvs := ⟨[(3, ⟨[], [], []⟩), (4, ⟨[(1, false)], [], [(1, (some 8, []))]⟩), (15, ⟨[(1, false), (6, false)], [], [(1, (some 8, []))]⟩)], [(7, ⟨[(1, false), (4, false)], [], [(1, (some 8, []))]⟩), (13, ⟨[(1, false), (6, false)], [], [(1, (some 8, []))]⟩)], [3, 4], [], false, [], []⟩
def w23rs : List ResultVar := [.tmp 2]
def w23G (N : Nat) : Gam EE := ⟨[⟨25, ref_CheckItem_h N⟩, ⟨46, ref_IsTime_h N⟩], EQT, [⟨57, xOf (ref_CheckShard_1_h N)⟩], []⟩
theorem w23Gok (N : Nat) : GOk Try.prog TT EE (w23G N) := GOk.cons (ref_CheckItem_hok N) (GOk.cons (ref_IsTime_hok N) (GOk.consx (xOf_ok (ref_CheckShard_1_hok N)) (GOk.nil EQT_ok)))
def w23kR3 (c : Code) : List It2 := atR 3 c
def w23sR3 : TS EE.T := ⟨98, [], [], []⟩
def w23kL13 (c : Code) : List It2 := atL 13 c
def w23sL13 (x6 : Int) (b1 : VShard) : TS EE.T := ⟨98, [(1, .a (.box 1 0)), (6, .a (.d (.int .i64) x6))], [(1, .cs (unpT EE (.nam 8) b1))], []⟩
def w23kL7 (c : Code) : List It2 := atL 7 c
def w23sL7 (x4 : Int) (b1 : VShard) : TS EE.T := ⟨98, [(1, .a (.box 1 0)), (4, .a (.d (.int .i64) x4))], [(1, .cs (unpT EE (.nam 8) b1))], []⟩
def w23kR4 (c : Code) : List It2 := atR 4 c
def w23sR4 (b1 : VShard) : TS EE.T := ⟨98, [(1, .a (.box 1 0))], [(1, .cs (unpT EE (.nam 8) b1))], []⟩
def w23kE0 (c : Code) : List It2 := [.c c]
def w23sE0 (x0 : VShard) : TS EE.T := ⟨98, [(0, .ag (unpT EE (.nam 8) x0))], [], []⟩
def w23TR3 (c : Code) (N : Nat) (n : Nat) : Tree (Lf EE.T × Option Int) :=
  .leaf (.done (w23enc 3), some 3)
theorem w23vR3 (N : Nat) (n : Nat) : evM TT EE (w23G N) w23lv w23rs 4000 true (w23kR3 (bodyOf 0 Try.f23)) (w23sR3) = (w23TR3 (bodyOf 0 Try.f23) N n).map1 := by kernel_rfl
theorem w23nR3 (N : Nat) (n : Nat) : ref_CheckShard_R3 N n = (w23TR3 (bodyOf 0 Try.f23) N n).run := by kernel_rfl
theorem w23oR3 {N : Nat} {r : Int} (n : Nat) (h : ref_CheckShard_R3 N n = some r) : Ends (Y := TT) EE (w23G N) w23lv w23rs (fun u => u = w23enc r) (w23kR3 (bodyOf 0 Try.f23)) (w23sR3) :=
  tree_use (w23vR3 N n) (w23nR3 N n) h (show (w23TR3 (bodyOf 0 Try.f23) N n).all _ from retp (enc := w23enc) rfl)
def w23TL13 (c : Code) (N : Nat) (n : Nat) (x6 : Int) (b1 : VShard) : Tree (Lf EE.T × Option Int) :=
  .cond (decide (x6 < (b1.Items.length : Int)))
  (
    .bnd (idxC b1.Items x6) fun z9 =>
    .bnd (idxC b1.Items (w64 (x6 - 1))) fun z10 =>
    .cond (decide (z9.Number ≤ z10.Number))
    (
      .leaf (.done (w23enc 4), some 4))
    (
      .leaf (.go (w23kL13 c) (w23sL13 (w64 (x6 + 1)) b1), ref_CheckShard_L13 N n (w64 (x6 + 1)) b1)))
  (
    .leaf (.done (w23enc 0), some 0))
theorem w23vL13 (N : Nat) (n : Nat) (x6 : Int) (b1 : VShard) : evM TT EE (w23G N) w23lv w23rs 4000 true (w23kL13 (bodyOf 0 Try.f23)) (w23sL13 x6 b1) = (w23TL13 (bodyOf 0 Try.f23) N n x6 b1).map1 := by kernel_rfl
theorem w23nL13 (N : Nat) (n : Nat) (x6 : Int) (b1 : VShard) : ref_CheckShard_L13 N (n + 1) x6 b1 = (w23TL13 (bodyOf 0 Try.f23) N n x6 b1).run := by kernel_rfl
theorem w23oL13 {N : Nat} {r : Int} : ∀ (n : Nat) (x6 : Int) (b1 : VShard), ref_CheckShard_L13 N n x6 b1 = some r → Ends (Y := TT) EE (w23G N) w23lv w23rs (fun u => u = w23enc r) (w23kL13 (bodyOf 0 Try.f23)) (w23sL13 x6 b1)
  | 0, _, _, h => by cases h
  | n + 1, x6, b1, h => tree_use (w23vL13 N n x6 b1) (w23nL13 N n x6 b1) h (show (w23TL13 (bodyOf 0 Try.f23) N n x6 b1).all _ from ⟨fun _ => fun _ => ⟨retp (enc := w23enc) rfl, fun h => (w23oL13 n) _ _ h⟩, retp (enc := w23enc) rfl⟩)
def w23TL7 (c : Code) (N : Nat) (n : Nat) (x4 : Int) (b1 : VShard) : Tree (Lf EE.T × Option Int) :=
  .cond (decide (x4 < (b1.Items.length : Int)))
  (
    .bnd (idxC b1.Items x4) fun z7 =>
    .bnd (ref_CheckItem N z7) fun z8 =>
    .cond (z8 != 0)
    (
      .leaf (.done (w23enc z8), some z8))
    (
      .leaf (.go (w23kL7 c) (w23sL7 (w64 (x4 + 1)) b1), ref_CheckShard_L7 N n (w64 (x4 + 1)) b1)))
  (
    .leaf (.go (w23kL13 c) (w23sL13 1 b1), ref_CheckShard_L13 N n 1 b1))
theorem w23vL7 (N : Nat) (n : Nat) (x4 : Int) (b1 : VShard) : evM TT EE (w23G N) w23lv w23rs 4000 true (w23kL7 (bodyOf 0 Try.f23)) (w23sL7 x4 b1) = (w23TL7 (bodyOf 0 Try.f23) N n x4 b1).map1 := by kernel_rfl
theorem w23nL7 (N : Nat) (n : Nat) (x4 : Int) (b1 : VShard) : ref_CheckShard_L7 N (n + 1) x4 b1 = (w23TL7 (bodyOf 0 Try.f23) N n x4 b1).run := by kernel_rfl
theorem w23oL7 {N : Nat} {r : Int} : ∀ (n : Nat) (x4 : Int) (b1 : VShard), ref_CheckShard_L7 N n x4 b1 = some r → Ends (Y := TT) EE (w23G N) w23lv w23rs (fun u => u = w23enc r) (w23kL7 (bodyOf 0 Try.f23)) (w23sL7 x4 b1)
  | 0, _, _, h => by cases h
  | n + 1, x4, b1, h => tree_use (w23vL7 N n x4 b1) (w23nL7 N n x4 b1) h (show (w23TL7 (bodyOf 0 Try.f23) N n x4 b1).all _ from ⟨fun _ => fun _ => ⟨retp (enc := w23enc) rfl, fun h => (w23oL7 n) _ _ h⟩, fun h => w23oL13 n _ _ h⟩)
def w23TR4 (c : Code) (N : Nat) (n : Nat) (b1 : VShard) : Tree (Lf EE.T × Option Int) :=
  .cond (decide ((b1.Items.length : Int) > b1.Room))
  (
    .leaf (.done (w23enc 2), some 2))
  (
    .leaf (.go (w23kL7 c) (w23sL7 0 b1), ref_CheckShard_L7 N n 0 b1))
theorem w23vR4 (N : Nat) (n : Nat) (b1 : VShard) : evM TT EE (w23G N) w23lv w23rs 4000 true (w23kR4 (bodyOf 0 Try.f23)) (w23sR4 b1) = (w23TR4 (bodyOf 0 Try.f23) N n b1).map1 := by kernel_rfl
theorem w23nR4 (N : Nat) (n : Nat) (b1 : VShard) : ref_CheckShard_R4 N n b1 = (w23TR4 (bodyOf 0 Try.f23) N n b1).run := by kernel_rfl
theorem w23oR4 {N : Nat} {r : Int} (n : Nat) (b1 : VShard) (h : ref_CheckShard_R4 N n b1 = some r) : Ends (Y := TT) EE (w23G N) w23lv w23rs (fun u => u = w23enc r) (w23kR4 (bodyOf 0 Try.f23)) (w23sR4 b1) :=
  tree_use (w23vR4 N n b1) (w23nR4 N n b1) h (show (w23TR4 (bodyOf 0 Try.f23) N n b1).all _ from ⟨retp (enc := w23enc) rfl, fun h => w23oL7 n _ _ h⟩)
def w23TE0 (c : Code) (N : Nat) (x0 : VShard) : Tree (Lf EE.T × Option Int) :=
  .bnd (ref_CheckShard_1 N x0.Batch 1 200) fun z1 =>
  .cond (!z1)
  (
    .leaf (.go (w23kR3 c) (w23sR3), ref_CheckShard_R3 N N))
  (
    .bnd (ref_CheckShard_1 N x0.Room 1 100) fun z2 =>
    .cond (!z2)
    (
      .leaf (.go (w23kR3 c) (w23sR3), ref_CheckShard_R3 N N))
    (
      .bnd (ref_CheckShard_1 N x0.First 1 x0.Most) fun z3 =>
      .cond (!z3)
      (
        .leaf (.go (w23kR3 c) (w23sR3), ref_CheckShard_R3 N N))
      (
        .cond (decide (x0.Most > 100000))
        (
          .leaf (.go (w23kR3 c) (w23sR3), ref_CheckShard_R3 N N))
        (
          .cond (x0.Waits != 0)
          (
            .bnd (ref_CheckShard_1 N x0.Waits x0.First x0.Most) fun z4 =>
            .cond (!z4)
            (
              .leaf (.go (w23kR3 c) (w23sR3), ref_CheckShard_R3 N N))
            (
              .bnd (ref_IsTime N x0.Till) fun z5 =>
              .cond (!z5)
              (
                .leaf (.go (w23kR3 c) (w23sR3), ref_CheckShard_R3 N N))
              (
                .leaf (.go (w23kR4 c) (w23sR4 x0), ref_CheckShard_R4 N N x0))))
          (
            .bnd (ref_IsTime N x0.Till) fun z6 =>
            .cond (!z6)
            (
              .leaf (.go (w23kR3 c) (w23sR3), ref_CheckShard_R3 N N))
            (
              .leaf (.go (w23kR4 c) (w23sR4 x0), ref_CheckShard_R4 N N x0)))))))
theorem w23vE0 (N : Nat) (x0 : VShard) : evM TT EE (w23G N) w23lv w23rs 4000 true (w23kE0 (bodyOf 0 Try.f23)) (w23sE0 x0) = (w23TE0 (bodyOf 0 Try.f23) N x0).map1 := by kernel_rfl
theorem w23nE0 (N : Nat) (x0 : VShard) : ref_CheckShard N x0 = (w23TE0 (bodyOf 0 Try.f23) N x0).run := by kernel_rfl
theorem w23oE0 {N : Nat} {r : Int} (x0 : VShard) (h : ref_CheckShard N x0 = some r) : Ends (Y := TT) EE (w23G N) w23lv w23rs (fun u => u = w23enc r) (w23kE0 (bodyOf 0 Try.f23)) (w23sE0 x0) :=
  tree_use (w23vE0 N x0) (w23nE0 N x0) h (show (w23TE0 (bodyOf 0 Try.f23) N x0).all _ from fun _ => ⟨fun h => w23oR3 N h, fun _ => ⟨fun h => w23oR3 N h, fun _ => ⟨fun h => w23oR3 N h, ⟨fun h => w23oR3 N h, ⟨fun _ => ⟨fun h => w23oR3 N h, fun _ => ⟨fun h => w23oR3 N h, fun h => w23oR4 N _ h⟩⟩, fun _ => ⟨fun h => w23oR3 N h, fun h => w23oR4 N _ h⟩⟩⟩⟩⟩⟩)
theorem ref_CheckShard_ok {N : Nat} (x0 : VShard) {r : Int} (h : ref_CheckShard N x0 = some r) (ρ : Nat → Nat) : ACalls Try.prog 23 (([.ag (unpT EE (.nam 8) x0)] : List (TV EE.T)).map (TV.to EE.toEnc ρ)) [] (fun out H => out = .ret ((ref_CheckShard_u r).to EE.toEnc ρ) ∧ H = []) :=
  (fn_ok (bodyOf 0 Try.f23) 98 mixed (w23Gok N) Try.func23 (by kernel_rfl) rfl rfl rfl rfl (w23oE0 x0 h) ρ).mono fun out H h => KPost.ret rfl h
def ref_CheckShard_h (N : Nat) : List (TV EE.T) → PV EE.T
  | [u0] => match argS EE 8 u0 with
    | some x0 => .opt (ref_CheckShard N x0) ref_CheckShard_u
    | _ => .bad
  | _ => .bad
theorem ref_CheckShard_hok (N : Nat) (us : List (TV EE.T)) : (ref_CheckShard_h N us).ok fun u => ∀ ρ, ACalls Try.prog 23 (us.map (TV.to EE.toEnc ρ)) [] (fun out H => out = .ret (u.to EE.toEnc ρ) ∧ H = []) := by
  unfold ref_CheckShard_h
  split
  · split
    · rename_i h0
      intro z hz ρ; refine acalls_le ?_ (ref_CheckShard_ok _ hz ρ); exact ⟨argS_le h0 ρ, trivial⟩
    · trivial
  · trivial
/-! ### gleaner/shard.within -/
def shard_within_u (r : Bool) : TV EE.T := .a (.d .bool r)
def w54enc (r : Bool) : RL EE.T := .ret (shard_within_u r) []
def w54lv : Lvs := ⟨[], [], [], [], false, [], []⟩
def w54rs : List ResultVar := [.tmp 6]
def w54G (N : Nat) : Gam EE := ⟨[], EQT, [], []⟩
theorem w54Gok (N : Nat) : GOk Try.prog TT EE (w54G N) := GOk.nil EQT_ok
def w54kE0 (c : Code) : List It2 := [.c c]
def w54sE0 (x0 : Int) (x1 : Int) (x2 : Int) : TS EE.T := ⟨15, [(0, .a (.d (.int .i64) x0)), (1, .a (.d (.int .i64) x1)), (2, .a (.d (.int .i64) x2))], [], []⟩
def w54TE0 (c : Code) (N : Nat) (x0 : Int) (x1 : Int) (x2 : Int) : Tree (Lf EE.T × Option Bool) :=
  .cond (decide (x0 ≥ x1))
  (
    .leaf (.done (w54enc (decide (x0 ≤ x2))), some (decide (x0 ≤ x2))))
  (
    .leaf (.done (w54enc false), some false))
theorem w54vE0 (N : Nat) (x0 : Int) (x1 : Int) (x2 : Int) : evM TT EE (w54G N) w54lv w54rs 4000 true (w54kE0 (bodyOf 0 Try.f54)) (w54sE0 x0 x1 x2) = (w54TE0 (bodyOf 0 Try.f54) N x0 x1 x2).map1 := by kernel_rfl
theorem w54nE0 (N : Nat) (x0 : Int) (x1 : Int) (x2 : Int) : shard_within N x0 x1 x2 = (w54TE0 (bodyOf 0 Try.f54) N x0 x1 x2).run := by kernel_rfl
theorem w54oE0 {N : Nat} {r : Bool} (x0 : Int) (x1 : Int) (x2 : Int) (h : shard_within N x0 x1 x2 = some r) : Ends (Y := TT) EE (w54G N) w54lv w54rs (fun u => u = w54enc r) (w54kE0 (bodyOf 0 Try.f54)) (w54sE0 x0 x1 x2) :=
  tree_use (w54vE0 N x0 x1 x2) (w54nE0 N x0 x1 x2) h (show (w54TE0 (bodyOf 0 Try.f54) N x0 x1 x2).all _ from ⟨retp (enc := w54enc) rfl, retp (enc := w54enc) rfl⟩)
theorem shard_within_ok {N : Nat} (x0 : Int) (x1 : Int) (x2 : Int) {r : Bool} (h : shard_within N x0 x1 x2 = some r) (ρ : Nat → Nat) : ACalls Try.prog 54 (([.a (.d (.int .i64) x0), .a (.d (.int .i64) x1), .a (.d (.int .i64) x2)] : List (TV EE.T)).map (TV.to EE.toEnc ρ)) [] (fun out H => out = .ret ((shard_within_u r).to EE.toEnc ρ) ∧ H = []) :=
  (fn_ok (bodyOf 0 Try.f54) 15 mixed (w54Gok N) Try.func54 (by kernel_rfl) rfl rfl rfl rfl (w54oE0 x0 x1 x2 h) ρ).mono fun out H h => KPost.ret rfl h
def shard_within_h (N : Nat) : List (TV EE.T) → PV EE.T
  | [u0, u1, u2] => match argD (.int .i64) u0, argD (.int .i64) u1, argD (.int .i64) u2 with
    | some x0, some x1, some x2 => .opt (shard_within N x0 x1 x2) shard_within_u
    | _, _, _ => .bad
  | _ => .bad
theorem shard_within_hok (N : Nat) (us : List (TV EE.T)) : (shard_within_h N us).ok fun u => ∀ ρ, ACalls Try.prog 54 (us.map (TV.to EE.toEnc ρ)) [] (fun out H => out = .ret (u.to EE.toEnc ρ) ∧ H = []) := by
  unfold shard_within_h
  split
  · split
    · rename_i h0 h1 h2
      intro z hz ρ; refine acalls_le ?_ (shard_within_ok _ _ _ hz ρ); exact ⟨argD_le h0 ρ, argD_le h1 ρ, argD_le h2 ρ, trivial⟩
    · trivial
  · trivial
/-! ### gleaner/labels.each -/
def labels_each_u (r : Int) : TV EE.T := .a (.d (.int .i64) r)
def w93enc (r : Int) : RL EE.T := .ret (labels_each_u r) []
def w93lv : Lvs := ⟨[(9, ⟨[(0, false), (1, false), (6, false), (13, false), (14, false), (15, false)], [], [(6, (some 2, []))]⟩)], [(4, ⟨[(0, false), (1, false), (13, false), (14, false), (15, false)], [], []⟩), (14, ⟨[(7, false), (38, false), (39, false), (40, false)], [], [(37, (none, []))]⟩)], [9], [], false, [], []⟩
def w93rs : List ResultVar := [.tmp 4]
def w93G (N : Nat) : Gam EE := ⟨[⟨104, labels_IsName_h N⟩], EQT, [], []⟩
theorem w93Gok (N : Nat) : GOk Try.prog TT EE (w93G N) := GOk.cons (labels_IsName_hok N) (GOk.nil EQT_ok)
def w93kR9 (c : Code) : List It2 := atR 9 c
def w93sR9 (x0 : List VLabel) (x1 : Bool) (x13 : List VLabel) (x14 : Int) (x15 : Int) (b6 : VLabel) : TS EE.T := ⟨52, [(0, .a (.d (.sl (.nam 2)) x0)), (1, .a (.d .bool x1)), (6, .a (.box 6 0)), (13, .a (.d (.sl (.nam 2)) x13)), (14, .a (.d (.int .i64) x14)), (15, .a (.d (.int .i64) x15))], [(6, .cs (unpT EE (.nam 2) b6))], []⟩
def w93kL14 (c : Code) : List It2 := atL 14 c
def w93sL14 (x38 : List VLabel) (x39 : Int) (x40 : Int) (b37 : List (List UInt8 × Bool)) : TS EE.T := ⟨52, [(7, .a (.mpr 37)), (38, .a (.d (.sl (.nam 2)) x38)), (39, .a (.d (.int .i64) x39)), (40, .a (.d (.int .i64) x40))], [(37, .smap .bool b37)], []⟩
def w93kL4 (c : Code) : List It2 := atL 4 c
def w93sL4 (x0 : List VLabel) (x1 : Bool) (x13 : List VLabel) (x14 : Int) (x15 : Int) : TS EE.T := ⟨52, [(0, .a (.d (.sl (.nam 2)) x0)), (1, .a (.d .bool x1)), (13, .a (.d (.sl (.nam 2)) x13)), (14, .a (.d (.int .i64) x14)), (15, .a (.d (.int .i64) x15))], [], []⟩
def w93kE0 (c : Code) : List It2 := [.c c]
def w93sE0 (x0 : List VLabel) (x1 : Bool) : TS EE.T := ⟨52, [(0, .a (.d (.sl (.nam 2)) x0)), (1, .a (.d .bool x1))], [], []⟩
def w93TR9 (c : Code) (N : Nat) (k4 : (List VLabel) → Bool → (List VLabel) → Int → Int → Option Int) (n : Nat) (x0 : List VLabel) (x1 : Bool) (x13 : List VLabel) (x14 : Int) (x15 : Int) (b6 : VLabel) : Tree (Lf EE.T × Option Int) :=
  .cond (decide ((b6.Value.length : Int) > 100))
  (
    .leaf (.done (w93enc 2), some 2))
  (
    .leaf (.go (w93kL4 c) (w93sL4 x0 x1 x13 x14 (w64 (x15 + 1))), k4 x0 x1 x13 x14 (w64 (x15 + 1))))
theorem w93vR9 (N : Nat) (k4 : (List VLabel) → Bool → (List VLabel) → Int → Int → Option Int) (n : Nat) (x0 : List VLabel) (x1 : Bool) (x13 : List VLabel) (x14 : Int) (x15 : Int) (b6 : VLabel) : evM TT EE (w93G N) w93lv w93rs 4000 true (w93kR9 (bodyOf 0 Try.f93)) (w93sR9 x0 x1 x13 x14 x15 b6) = (w93TR9 (bodyOf 0 Try.f93) N k4 n x0 x1 x13 x14 x15 b6).map1 := by kernel_rfl
theorem w93nR9 (N : Nat) (k4 : (List VLabel) → Bool → (List VLabel) → Int → Int → Option Int) (n : Nat) (x0 : List VLabel) (x1 : Bool) (x13 : List VLabel) (x14 : Int) (x15 : Int) (b6 : VLabel) : labels_each_R9 N k4 n x0 x1 x13 x14 x15 b6 = (w93TR9 (bodyOf 0 Try.f93) N k4 n x0 x1 x13 x14 x15 b6).run := by kernel_rfl
theorem w93oR9 {N : Nat} {r : Int} {k4 : (List VLabel) → Bool → (List VLabel) → Int → Int → Option Int} (hk4 : ∀ x0 x1 x13 x14 x15, k4 x0 x1 x13 x14 x15 = some r → Ends (Y := TT) EE (w93G N) w93lv w93rs (fun u => u = w93enc r) (w93kL4 (bodyOf 0 Try.f93)) (w93sL4 x0 x1 x13 x14 x15)) (n : Nat) (x0 : List VLabel) (x1 : Bool) (x13 : List VLabel) (x14 : Int) (x15 : Int) (b6 : VLabel) (h : labels_each_R9 N k4 n x0 x1 x13 x14 x15 b6 = some r) : Ends (Y := TT) EE (w93G N) w93lv w93rs (fun u => u = w93enc r) (w93kR9 (bodyOf 0 Try.f93)) (w93sR9 x0 x1 x13 x14 x15 b6) :=
  tree_use (w93vR9 N k4 n x0 x1 x13 x14 x15 b6) (w93nR9 N k4 n x0 x1 x13 x14 x15 b6) h (show (w93TR9 (bodyOf 0 Try.f93) N k4 n x0 x1 x13 x14 x15 b6).all _ from ⟨retp (enc := w93enc) rfl, fun h => hk4 _ _ _ _ _ h⟩)
def w93TL14 (c : Code) (N : Nat) (n : Nat) (x38 : List VLabel) (x39 : Int) (x40 : Int) (b37 : List (List UInt8 × Bool)) : Tree (Lf EE.T × Option Int) :=
  .cond (decide (x40 < x39))
  (
    .bnd (idxC x38 x40) fun z3 =>
    .cond ((mget b37 z3.Name).getD false)
    (
      .leaf (.done (w93enc 6), some 6))
    (
      .leaf (.go (w93kL14 c) (w93sL14 x38 x39 (w64 (x40 + 1)) (mset b37 z3.Name true)), labels_each_L14 N n x38 x39 (w64 (x40 + 1)) (mset b37 z3.Name true))))
  (
    .leaf (.done (w93enc 0), some 0))
theorem w93vL14 (N : Nat) (n : Nat) (x38 : List VLabel) (x39 : Int) (x40 : Int) (b37 : List (List UInt8 × Bool)) : evM TT EE (w93G N) w93lv w93rs 4000 true (w93kL14 (bodyOf 0 Try.f93)) (w93sL14 x38 x39 x40 b37) = (w93TL14 (bodyOf 0 Try.f93) N n x38 x39 x40 b37).map1 := by kernel_rfl
theorem w93nL14 (N : Nat) (n : Nat) (x38 : List VLabel) (x39 : Int) (x40 : Int) (b37 : List (List UInt8 × Bool)) : labels_each_L14 N (n + 1) x38 x39 x40 b37 = (w93TL14 (bodyOf 0 Try.f93) N n x38 x39 x40 b37).run := by kernel_rfl
theorem w93oL14 {N : Nat} {r : Int} : ∀ (n : Nat) (x38 : List VLabel) (x39 : Int) (x40 : Int) (b37 : List (List UInt8 × Bool)), labels_each_L14 N n x38 x39 x40 b37 = some r → Ends (Y := TT) EE (w93G N) w93lv w93rs (fun u => u = w93enc r) (w93kL14 (bodyOf 0 Try.f93)) (w93sL14 x38 x39 x40 b37)
  | 0, _, _, _, _, h => by cases h
  | n + 1, x38, x39, x40, b37, h => tree_use (w93vL14 N n x38 x39 x40 b37) (w93nL14 N n x38 x39 x40 b37) h (show (w93TL14 (bodyOf 0 Try.f93) N n x38 x39 x40 b37).all _ from ⟨fun _ => ⟨retp (enc := w93enc) rfl, fun h => (w93oL14 n) _ _ _ _ h⟩, retp (enc := w93enc) rfl⟩)
def w93TL4 (c : Code) (N : Nat) (n : Nat) (x0 : List VLabel) (x1 : Bool) (x13 : List VLabel) (x14 : Int) (x15 : Int) : Tree (Lf EE.T × Option Int) :=
  .cond (decide (x15 < x14))
  (
    .bnd (idxC x13 x15) fun z1 =>
    .bnd (labels_IsName N z1.Name) fun z2 =>
    .cond (!z2)
    (
      .leaf (.done (w93enc 1), some 1))
    (
      .cond (decide (z1.Value = ([] : List UInt8)))
      (
        .cond (!x1)
        (
          .leaf (.done (w93enc 1), some 1))
        (
          .leaf (.go (w93kR9 c) (w93sR9 x0 x1 x13 x14 x15 z1), labels_each_R9 N (labels_each_L4 N n) n x0 x1 x13 x14 x15 z1)))
      (
        .leaf (.go (w93kR9 c) (w93sR9 x0 x1 x13 x14 x15 z1), labels_each_R9 N (labels_each_L4 N n) n x0 x1 x13 x14 x15 z1))))
  (
    .leaf (.go (w93kL14 c) (w93sL14 x0 (x0.length : Int) 0 ([] : List (List UInt8 × Bool))), labels_each_L14 N n x0 (x0.length : Int) 0 ([] : List (List UInt8 × Bool))))
theorem w93vL4 (N : Nat) (n : Nat) (x0 : List VLabel) (x1 : Bool) (x13 : List VLabel) (x14 : Int) (x15 : Int) : evM TT EE (w93G N) w93lv w93rs 4000 true (w93kL4 (bodyOf 0 Try.f93)) (w93sL4 x0 x1 x13 x14 x15) = (w93TL4 (bodyOf 0 Try.f93) N n x0 x1 x13 x14 x15).map1 := by kernel_rfl
theorem w93nL4 (N : Nat) (n : Nat) (x0 : List VLabel) (x1 : Bool) (x13 : List VLabel) (x14 : Int) (x15 : Int) : labels_each_L4 N (n + 1) x0 x1 x13 x14 x15 = (w93TL4 (bodyOf 0 Try.f93) N n x0 x1 x13 x14 x15).run := by kernel_rfl
theorem w93oL4 {N : Nat} {r : Int} : ∀ (n : Nat) (x0 : List VLabel) (x1 : Bool) (x13 : List VLabel) (x14 : Int) (x15 : Int), labels_each_L4 N n x0 x1 x13 x14 x15 = some r → Ends (Y := TT) EE (w93G N) w93lv w93rs (fun u => u = w93enc r) (w93kL4 (bodyOf 0 Try.f93)) (w93sL4 x0 x1 x13 x14 x15)
  | 0, _, _, _, _, _, h => by cases h
  | n + 1, x0, x1, x13, x14, x15, h => tree_use (w93vL4 N n x0 x1 x13 x14 x15) (w93nL4 N n x0 x1 x13 x14 x15) h (show (w93TL4 (bodyOf 0 Try.f93) N n x0 x1 x13 x14 x15).all _ from ⟨fun _ => fun _ => ⟨retp (enc := w93enc) rfl, ⟨⟨retp (enc := w93enc) rfl, fun h => w93oR9 (w93oL4 n) n _ _ _ _ _ _ h⟩, fun h => w93oR9 (w93oL4 n) n _ _ _ _ _ _ h⟩⟩, fun h => w93oL14 n _ _ _ _ h⟩)
def w93TE0 (c : Code) (N : Nat) (x0 : List VLabel) (x1 : Bool) : Tree (Lf EE.T × Option Int) :=
  .cond (decide ((x0.length : Int) > 20))
  (
    .leaf (.done (w93enc 2), some 2))
  (
    .leaf (.go (w93kL4 c) (w93sL4 x0 x1 x0 (x0.length : Int) 0), labels_each_L4 N N x0 x1 x0 (x0.length : Int) 0))
theorem w93vE0 (N : Nat) (x0 : List VLabel) (x1 : Bool) : evM TT EE (w93G N) w93lv w93rs 4000 true (w93kE0 (bodyOf 0 Try.f93)) (w93sE0 x0 x1) = (w93TE0 (bodyOf 0 Try.f93) N x0 x1).map1 := by kernel_rfl
theorem w93nE0 (N : Nat) (x0 : List VLabel) (x1 : Bool) : labels_each N x0 x1 = (w93TE0 (bodyOf 0 Try.f93) N x0 x1).run := by kernel_rfl
theorem w93oE0 {N : Nat} {r : Int} (x0 : List VLabel) (x1 : Bool) (h : labels_each N x0 x1 = some r) : Ends (Y := TT) EE (w93G N) w93lv w93rs (fun u => u = w93enc r) (w93kE0 (bodyOf 0 Try.f93)) (w93sE0 x0 x1) :=
  tree_use (w93vE0 N x0 x1) (w93nE0 N x0 x1) h (show (w93TE0 (bodyOf 0 Try.f93) N x0 x1).all _ from ⟨retp (enc := w93enc) rfl, fun h => w93oL4 N _ _ _ _ _ h⟩)
theorem labels_each_ok {N : Nat} (x0 : List VLabel) (x1 : Bool) {r : Int} (h : labels_each N x0 x1 = some r) (ρ : Nat → Nat) : ACalls Try.prog 93 (([.a (.d (.sl (.nam 2)) x0), .a (.d .bool x1)] : List (TV EE.T)).map (TV.to EE.toEnc ρ)) [] (fun out H => out = .ret ((labels_each_u r).to EE.toEnc ρ) ∧ H = []) :=
  (fn_ok (bodyOf 0 Try.f93) 52 mixed (w93Gok N) Try.func93 (by kernel_rfl) rfl rfl rfl rfl (w93oE0 x0 x1 h) ρ).mono fun out H h => KPost.ret rfl h
def labels_each_h (N : Nat) : List (TV EE.T) → PV EE.T
  | [u0, u1] => match argD (.sl (.nam 2)) u0, argD .bool u1 with
    | some x0, some x1 => .opt (labels_each N x0 x1) labels_each_u
    | _, _ => .bad
  | _ => .bad
theorem labels_each_hok (N : Nat) (us : List (TV EE.T)) : (labels_each_h N us).ok fun u => ∀ ρ, ACalls Try.prog 93 (us.map (TV.to EE.toEnc ρ)) [] (fun out H => out = .ret (u.to EE.toEnc ρ) ∧ H = []) := by
  unfold labels_each_h
  split
  · split
    · rename_i h0 h1
      intro z hz ρ; refine acalls_le ?_ (labels_each_ok _ _ hz ρ); exact ⟨argD_le h0 ρ, argD_le h1 ρ, trivial⟩
    · trivial
  · trivial
/-! ### cmp.isNaN[string] -/
def cmp_isNaN_string__u (r : Bool) : TV EE.T := .a (.d .bool r)
def w108enc (r : Bool) : RL EE.T := .ret (cmp_isNaN_string__u r) []
def w108lv : Lvs := ⟨[], [], [], [], false, [], []⟩
def w108rs : List ResultVar := [.tmp 2]
def w108G (N : Nat) : Gam EE := ⟨[], EQT, [], []⟩
theorem w108Gok (N : Nat) : GOk Try.prog TT EE (w108G N) := GOk.nil EQT_ok
def w108kE0 (c : Code) : List It2 := [.c c]
def w108sE0 (x0 : List UInt8) : TS EE.T := ⟨6, [(0, .a (.d .str x0))], [], []⟩
def w108TE0 (c : Code) (N : Nat) (x0 : List UInt8) : Tree (Lf EE.T × Option Bool) :=
  .leaf (.done (w108enc (!decide (x0 = x0))), some (!decide (x0 = x0)))
theorem w108vE0 (N : Nat) (x0 : List UInt8) : evM TT EE (w108G N) w108lv w108rs 4000 true (w108kE0 (bodyOf 0 Try.f108)) (w108sE0 x0) = (w108TE0 (bodyOf 0 Try.f108) N x0).map1 := by kernel_rfl
theorem w108nE0 (N : Nat) (x0 : List UInt8) : cmp_isNaN_string_ N x0 = (w108TE0 (bodyOf 0 Try.f108) N x0).run := by kernel_rfl
theorem w108oE0 {N : Nat} {r : Bool} (x0 : List UInt8) (h : cmp_isNaN_string_ N x0 = some r) : Ends (Y := TT) EE (w108G N) w108lv w108rs (fun u => u = w108enc r) (w108kE0 (bodyOf 0 Try.f108)) (w108sE0 x0) :=
  tree_use (w108vE0 N x0) (w108nE0 N x0) h (show (w108TE0 (bodyOf 0 Try.f108) N x0).all _ from retp (enc := w108enc) rfl)
theorem cmp_isNaN_string__ok {N : Nat} (x0 : List UInt8) {r : Bool} (h : cmp_isNaN_string_ N x0 = some r) (ρ : Nat → Nat) : ACalls Try.prog 108 (([.a (.d .str x0)] : List (TV EE.T)).map (TV.to EE.toEnc ρ)) [] (fun out H => out = .ret ((cmp_isNaN_string__u r).to EE.toEnc ρ) ∧ H = []) :=
  (fn_ok (bodyOf 0 Try.f108) 6 mixed (w108Gok N) Try.func108 (by kernel_rfl) rfl rfl rfl rfl (w108oE0 x0 h) ρ).mono fun out H h => KPost.ret rfl h
def cmp_isNaN_string__h (N : Nat) : List (TV EE.T) → PV EE.T
  | [u0] => match argD .str u0 with
    | some x0 => .opt (cmp_isNaN_string_ N x0) cmp_isNaN_string__u
    | _ => .bad
  | _ => .bad
theorem cmp_isNaN_string__hok (N : Nat) (us : List (TV EE.T)) : (cmp_isNaN_string__h N us).ok fun u => ∀ ρ, ACalls Try.prog 108 (us.map (TV.to EE.toEnc ρ)) [] (fun out H => out = .ret (u.to EE.toEnc ρ) ∧ H = []) := by
  unfold cmp_isNaN_string__h
  split
  · split
    · rename_i h0
      intro z hz ρ; refine acalls_le ?_ (cmp_isNaN_string__ok _ hz ρ); exact ⟨argD_le h0 ρ, trivial⟩
    · trivial
  · trivial
/-! ### cmp.Compare[string] -/
def cmp_Compare_string__u (r : Int) : TV EE.T := .a (.d (.int .i64) r)
def w105enc (r : Int) : RL EE.T := .ret (cmp_Compare_string__u r) []
def w105lv : Lvs := ⟨[], [], [], [], false, [], []⟩
def w105rs : List ResultVar := [.tmp 4]
def w105G (N : Nat) : Gam EE := ⟨[⟨108, cmp_isNaN_string__h N⟩], EQT, [], []⟩
theorem w105Gok (N : Nat) : GOk Try.prog TT EE (w105G N) := GOk.cons (cmp_isNaN_string__hok N) (GOk.nil EQT_ok)
def w105kE0 (c : Code) : List It2 := [.c c]
def w105sE0 (x0 : List UInt8) (x1 : List UInt8) : TS EE.T := ⟨20, [(0, .a (.d .str x0)), (1, .a (.d .str x1))], [], []⟩
def w105TE0 (c : Code) (N : Nat) (x0 : List UInt8) (x1 : List UInt8) : Tree (Lf EE.T × Option Int) :=
  .bnd (cmp_isNaN_string_ N x0) fun z1 =>
  .bnd (cmp_isNaN_string_ N x1) fun z2 =>
  .cond (z1)
  (
    .cond (z2)
    (
      .leaf (.done (w105enc 0), some 0))
    (
      .leaf (.done (w105enc (-1)), some (-1))))
  (
    .cond (z2)
    (
      .leaf (.done (w105enc 1), some 1))
    (
      .cond (Op.bytesLess x0 x1)
      (
        .leaf (.done (w105enc (-1)), some (-1)))
      (
        .cond (!(Op.bytesLess x0 x1 || decide (x0 = x1)))
        (
          .leaf (.done (w105enc 1), some 1))
        (
          .leaf (.done (w105enc 0), some 0)))))
theorem w105vE0 (N : Nat) (x0 : List UInt8) (x1 : List UInt8) : evM TT EE (w105G N) w105lv w105rs 4000 true (w105kE0 (bodyOf 0 Try.f105)) (w105sE0 x0 x1) = (w105TE0 (bodyOf 0 Try.f105) N x0 x1).map1 := by kernel_rfl
theorem w105nE0 (N : Nat) (x0 : List UInt8) (x1 : List UInt8) : cmp_Compare_string_ N x0 x1 = (w105TE0 (bodyOf 0 Try.f105) N x0 x1).run := by kernel_rfl
theorem w105oE0 {N : Nat} {r : Int} (x0 : List UInt8) (x1 : List UInt8) (h : cmp_Compare_string_ N x0 x1 = some r) : Ends (Y := TT) EE (w105G N) w105lv w105rs (fun u => u = w105enc r) (w105kE0 (bodyOf 0 Try.f105)) (w105sE0 x0 x1) :=
  tree_use (w105vE0 N x0 x1) (w105nE0 N x0 x1) h (show (w105TE0 (bodyOf 0 Try.f105) N x0 x1).all _ from fun _ => fun _ => ⟨⟨retp (enc := w105enc) rfl, retp (enc := w105enc) rfl⟩, ⟨retp (enc := w105enc) rfl, ⟨retp (enc := w105enc) rfl, ⟨retp (enc := w105enc) rfl, retp (enc := w105enc) rfl⟩⟩⟩⟩)
theorem cmp_Compare_string__ok {N : Nat} (x0 : List UInt8) (x1 : List UInt8) {r : Int} (h : cmp_Compare_string_ N x0 x1 = some r) (ρ : Nat → Nat) : ACalls Try.prog 105 (([.a (.d .str x0), .a (.d .str x1)] : List (TV EE.T)).map (TV.to EE.toEnc ρ)) [] (fun out H => out = .ret ((cmp_Compare_string__u r).to EE.toEnc ρ) ∧ H = []) :=
  (fn_ok (bodyOf 0 Try.f105) 20 mixed (w105Gok N) Try.func105 (by kernel_rfl) rfl rfl rfl rfl (w105oE0 x0 x1 h) ρ).mono fun out H h => KPost.ret rfl h
def cmp_Compare_string__h (N : Nat) : List (TV EE.T) → PV EE.T
  | [u0, u1] => match argD .str u0, argD .str u1 with
    | some x0, some x1 => .opt (cmp_Compare_string_ N x0 x1) cmp_Compare_string__u
    | _, _ => .bad
  | _ => .bad
theorem cmp_Compare_string__hok (N : Nat) (us : List (TV EE.T)) : (cmp_Compare_string__h N us).ok fun u => ∀ ρ, ACalls Try.prog 105 (us.map (TV.to EE.toEnc ρ)) [] (fun out H => out = .ret (u.to EE.toEnc ρ) ∧ H = []) := by
  unfold cmp_Compare_string__h
  split
  · split
    · rename_i h0 h1
      intro z hz ρ; refine acalls_le ?_ (cmp_Compare_string__ok _ _ hz ρ); exact ⟨argD_le h0 ρ, argD_le h1 ρ, trivial⟩
    · trivial
  · trivial
/-! ### gleaner/labels.byName -/
def labels_byName_u (r : Int) : TV EE.T := .a (.d (.int .i64) r)
def w95enc (r : Int) : RL EE.T := .ret (labels_byName_u r) []
def w95lv : Lvs := ⟨[], [], [], [], false, [], []⟩
def w95rs : List ResultVar := [.tmp 4]
def w95G (N : Nat) : Gam EE := ⟨[⟨105, cmp_Compare_string__h N⟩], EQT, [], []⟩
theorem w95Gok (N : Nat) : GOk Try.prog TT EE (w95G N) := GOk.cons (cmp_Compare_string__hok N) (GOk.nil EQT_ok)
def w95kE0 (c : Code) : List It2 := [.c c]
def w95sE0 (x0 : VLabel) (x1 : VLabel) : TS EE.T := ⟨10, [(0, .ag (unpT EE (.nam 2) x0)), (1, .ag (unpT EE (.nam 2) x1))], [], []⟩
def w95TE0 (c : Code) (N : Nat) (x0 : VLabel) (x1 : VLabel) : Tree (Lf EE.T × Option Int) :=
  .bnd (cmp_Compare_string_ N x0.Name x1.Name) fun z1 =>
  .leaf (.done (w95enc z1), some z1)
theorem w95vE0 (N : Nat) (x0 : VLabel) (x1 : VLabel) : evM TT EE (w95G N) w95lv w95rs 4000 true (w95kE0 (bodyOf 0 Try.f95)) (w95sE0 x0 x1) = (w95TE0 (bodyOf 0 Try.f95) N x0 x1).map1 := by kernel_rfl
theorem w95nE0 (N : Nat) (x0 : VLabel) (x1 : VLabel) : labels_byName N x0 x1 = (w95TE0 (bodyOf 0 Try.f95) N x0 x1).run := by kernel_rfl
theorem w95oE0 {N : Nat} {r : Int} (x0 : VLabel) (x1 : VLabel) (h : labels_byName N x0 x1 = some r) : Ends (Y := TT) EE (w95G N) w95lv w95rs (fun u => u = w95enc r) (w95kE0 (bodyOf 0 Try.f95)) (w95sE0 x0 x1) :=
  tree_use (w95vE0 N x0 x1) (w95nE0 N x0 x1) h (show (w95TE0 (bodyOf 0 Try.f95) N x0 x1).all _ from fun _ => retp (enc := w95enc) rfl)
theorem labels_byName_ok {N : Nat} (x0 : VLabel) (x1 : VLabel) {r : Int} (h : labels_byName N x0 x1 = some r) (ρ : Nat → Nat) : ACalls Try.prog 95 (([.ag (unpT EE (.nam 2) x0), .ag (unpT EE (.nam 2) x1)] : List (TV EE.T)).map (TV.to EE.toEnc ρ)) [] (fun out H => out = .ret ((labels_byName_u r).to EE.toEnc ρ) ∧ H = []) :=
  (fn_ok (bodyOf 0 Try.f95) 10 mixed (w95Gok N) Try.func95 (by kernel_rfl) rfl rfl rfl rfl (w95oE0 x0 x1 h) ρ).mono fun out H h => KPost.ret rfl h
def labels_byName_h (N : Nat) : List (TV EE.T) → PV EE.T
  | [u0, u1] => match argS EE 2 u0, argS EE 2 u1 with
    | some x0, some x1 => .opt (labels_byName N x0 x1) labels_byName_u
    | _, _ => .bad
  | _ => .bad
theorem labels_byName_hok (N : Nat) (us : List (TV EE.T)) : (labels_byName_h N us).ok fun u => ∀ ρ, ACalls Try.prog 95 (us.map (TV.to EE.toEnc ρ)) [] (fun out H => out = .ret (u.to EE.toEnc ρ) ∧ H = []) := by
  unfold labels_byName_h
  split
  · split
    · rename_i h0 h1
      intro z hz ρ; refine acalls_le ?_ (labels_byName_ok _ _ hz ρ); exact ⟨argS_le h0 ρ, argS_le h1 ρ, trivial⟩
    · trivial
  · trivial
/-! ### slices.IsSortedFunc[[]gleaner/api.Label,gleaner/api.Label] -/
def slices_IsSortedFunc_api_Label_api_Label__i0_u (r : Bool) : TV EE.T := .a (.d .bool r)
def w94i0hh (r : Bool) : List (Nat × TB EE.T) := []
def w94i0enc (r : Bool) : RL EE.T := .ret (slices_IsSortedFunc_api_Label_api_Label__i0_u r) (w94i0hh r)
def w94i0lv : Lvs := ⟨[(4, ⟨[(0, false), (1, false), (5, false)], [], []⟩)], [(2, ⟨[(0, false), (1, false), (5, false)], [], []⟩)], [], [], false, [], []⟩
def w94i0rs : List ResultVar := [.tmp 4]
def w94i0G (N : Nat) : Gam EE := ⟨[⟨95, labels_byName_h N⟩], EQT, [], []⟩
theorem w94i0Gok (N : Nat) : GOk Try.prog TT EE (w94i0G N) := GOk.cons (labels_byName_hok N) (GOk.nil EQT_ok)
def w94i0kL2 (c : Code) : List It2 := atL 2 c
def w94i0sL2 (x0 : List VLabel) (x5 : Int) : TS EE.T := ⟨25, [(0, .a (.d (.sl (.nam 2)) x0)), (1, .fn 95 []), (5, .a (.d (.int .i64) x5))], [], []⟩
def w94i0kE0 (c : Code) : List It2 := [.c c]
def w94i0sE0 (x0 : List VLabel) : TS EE.T := ⟨25, [(0, .a (.d (.sl (.nam 2)) x0)), (1, .fn 95 [])], [], []⟩
def w94i0TL2 (c : Code) (N : Nat) (n : Nat) (x0 : List VLabel) (x5 : Int) : Tree (Lf EE.T × Option Bool) :=
  .cond (decide (x5 > 0))
  (
    .bnd (idxC x0 x5) fun z1 =>
    .bnd (idxC x0 (w64 (x5 - 1))) fun z2 =>
    .bnd (labels_byName N z1 z2) fun z3 =>
    .cond (decide (z3 < 0))
    (
      .leaf (.done (w94i0enc false), some false))
    (
      .leaf (.go (w94i0kL2 c) (w94i0sL2 x0 (w64 (x5 - 1))), slices_IsSortedFunc_api_Label_api_Label__i0_L2 N n x0 (w64 (x5 - 1)))))
  (
    .leaf (.done (w94i0enc true), some true))
theorem w94i0vL2 (N : Nat) (n : Nat) (x0 : List VLabel) (x5 : Int) : evM TT EE (w94i0G N) w94i0lv w94i0rs 4000 true (w94i0kL2 (bodyOf 0 Try.f94)) (w94i0sL2 x0 x5) = (w94i0TL2 (bodyOf 0 Try.f94) N n x0 x5).map1 := by kernel_rfl
theorem w94i0nL2 (N : Nat) (n : Nat) (x0 : List VLabel) (x5 : Int) : slices_IsSortedFunc_api_Label_api_Label__i0_L2 N (n + 1) x0 x5 = (w94i0TL2 (bodyOf 0 Try.f94) N n x0 x5).run := by kernel_rfl
theorem w94i0oL2 {N : Nat} {r : Bool} : ∀ (n : Nat) (x0 : List VLabel) (x5 : Int), slices_IsSortedFunc_api_Label_api_Label__i0_L2 N n x0 x5 = some r → Ends (Y := TT) EE (w94i0G N) w94i0lv w94i0rs (fun u => u = w94i0enc r) (w94i0kL2 (bodyOf 0 Try.f94)) (w94i0sL2 x0 x5)
  | 0, _, _, h => by cases h
  | n + 1, x0, x5, h => tree_use (w94i0vL2 N n x0 x5) (w94i0nL2 N n x0 x5) h (show (w94i0TL2 (bodyOf 0 Try.f94) N n x0 x5).all _ from ⟨fun _ => fun _ => fun _ => ⟨retp (enc := w94i0enc) rfl, fun h => (w94i0oL2 n) _ _ h⟩, retp (enc := w94i0enc) rfl⟩)
def w94i0TE0 (c : Code) (N : Nat) (x0 : List VLabel) : Tree (Lf EE.T × Option Bool) :=
  .leaf (.go (w94i0kL2 c) (w94i0sL2 x0 (w64 ((x0.length : Int) - 1))), slices_IsSortedFunc_api_Label_api_Label__i0_L2 N N x0 (w64 ((x0.length : Int) - 1)))
theorem w94i0vE0 (N : Nat) (x0 : List VLabel) : evM TT EE (w94i0G N) w94i0lv w94i0rs 4000 true (w94i0kE0 (bodyOf 0 Try.f94)) (w94i0sE0 x0) = (w94i0TE0 (bodyOf 0 Try.f94) N x0).map1 := by kernel_rfl
theorem w94i0nE0 (N : Nat) (x0 : List VLabel) : slices_IsSortedFunc_api_Label_api_Label__i0 N x0 = (w94i0TE0 (bodyOf 0 Try.f94) N x0).run := by kernel_rfl
theorem w94i0oE0 {N : Nat} {r : Bool} (x0 : List VLabel) (h : slices_IsSortedFunc_api_Label_api_Label__i0 N x0 = some r) : Ends (Y := TT) EE (w94i0G N) w94i0lv w94i0rs (fun u => u = w94i0enc r) (w94i0kE0 (bodyOf 0 Try.f94)) (w94i0sE0 x0) :=
  tree_use (w94i0vE0 N x0) (w94i0nE0 N x0) h (show (w94i0TE0 (bodyOf 0 Try.f94) N x0).all _ from fun h => w94i0oL2 N _ _ h)
def w94i0us (x0 : List VLabel) : List (TV EE.T) := [.a (.d (.sl (.nam 2)) x0), .fn 95 []]
def w94i0h0 (x0 : List VLabel) : List (Nat × TB EE.T) := []
theorem slices_IsSortedFunc_api_Label_api_Label__i0_ok {N : Nat} (x0 : List VLabel) {r : Bool} (h : slices_IsSortedFunc_api_Label_api_Label__i0 N x0 = some r) (ρ : Nat → Nat) (hi : Inj ρ (w94i0h0 x0)) : ACalls Try.prog 94 ((w94i0us x0).map (TV.to EE.toEnc ρ)) (hTo EE.toEnc ρ (w94i0h0 x0)) (fun out H => out = .ret ((slices_IsSortedFunc_api_Label_api_Label__i0_u r).to EE.toEnc ρ) ∧ H = hTo EE.toEnc ρ (w94i0hh r)) :=
  (fn_okH (bodyOf 0 Try.f94) 25 mixed (w94i0Gok N) Try.func94 (by kernel_rfl) rfl rfl rfl rfl (w94i0oE0 x0 h) ρ hi).mono fun out H h => KPost.retH rfl rfl h
def slices_IsSortedFunc_api_Label_api_Label__i0_h (N : Nat) (us : List (TV EE.T)) (hs : List (Nat × TB EE.T)) : XR EE.T :=
  gdX (lenX us 2) <|
  bnX (aD (.sl (.nam 2)) us 0) fun x0 =>
  bnX (aF 95 us 1) fun c1 =>
  bnX (cbs c1) fun s1 =>
  gdX (lenX s1 0) <|
  gdX (goodIds hs []) <|
  .ret (slices_IsSortedFunc_api_Label_api_Label__i0 N x0) [] slices_IsSortedFunc_api_Label_api_Label__i0_u (w94i0hh)
theorem slices_IsSortedFunc_api_Label_api_Label__i0_hok (N : Nat) : XOk Try.prog EE 94 (slices_IsSortedFunc_api_Label_api_Label__i0_h N) := fun us hs =>
  gdX_ok fun h1 => bnX_ok fun x0 h2 => bnX_ok fun c1 h3 => bnX_ok fun s1 h4 => gdX_ok fun h5 => gdX_ok fun h6 => fun z hz => ⟨rfl, fun ρ hi => xcall (us' := w94i0us x0) (h0 := w94i0h0 x0) (ρ' := rhoS ρ []) ⟨aD_le h2, aF_le (js := []) h3 h4 (by rw [lis0 (lenX_ok h5)];  kernel_rfl), lenX_ok h1⟩ trivial (slices_IsSortedFunc_api_Label_api_Label__i0_ok x0 hz _ (rhoS_inj hi h6 _ (by kernel_rfl))) (fun out H h => ⟨h.1.trans (by kernel_rfl), h.2.trans (by kernel_rfl)⟩)⟩
/-! ### gleaner/labels.Check -/
def labels_Check_u (r : Int) : TV EE.T := .a (.d (.int .i64) r)
def w84enc (r : Int) : RL EE.T := .ret (labels_Check_u r) []
def w84lv : Lvs := ⟨[], [], [], [], false, [], []⟩
def w84rs : List ResultVar := [.tmp 2]
def w84G (N : Nat) : Gam EE := ⟨[⟨93, labels_each_h N⟩], EQT, [⟨94, slices_IsSortedFunc_api_Label_api_Label__i0_h N⟩], []⟩
theorem w84Gok (N : Nat) : GOk Try.prog TT EE (w84G N) := GOk.cons (labels_each_hok N) (GOk.consx (slices_IsSortedFunc_api_Label_api_Label__i0_hok N) (GOk.nil EQT_ok))
def w84kE0 (c : Code) : List It2 := [.c c]
def w84sE0 (x0 : List VLabel) : TS EE.T := ⟨12, [(0, .a (.d (.sl (.nam 2)) x0))], [], []⟩
def w84TE0 (c : Code) (N : Nat) (x0 : List VLabel) : Tree (Lf EE.T × Option Int) :=
  .bnd (labels_each N x0 false) fun z1 =>
  .cond (z1 != 0)
  (
    .leaf (.done (w84enc z1), some z1))
  (
    .bnd (slices_IsSortedFunc_api_Label_api_Label__i0 N x0) fun z2 =>
    .cond (!z2)
    (
      .leaf (.done (w84enc 4), some 4))
    (
      .leaf (.done (w84enc 0), some 0)))
theorem w84vE0 (N : Nat) (x0 : List VLabel) : evM TT EE (w84G N) w84lv w84rs 4000 true (w84kE0 (bodyOf 0 Try.f84)) (w84sE0 x0) = (w84TE0 (bodyOf 0 Try.f84) N x0).map1 := by kernel_rfl
theorem w84nE0 (N : Nat) (x0 : List VLabel) : labels_Check N x0 = (w84TE0 (bodyOf 0 Try.f84) N x0).run := by kernel_rfl
theorem w84oE0 {N : Nat} {r : Int} (x0 : List VLabel) (h : labels_Check N x0 = some r) : Ends (Y := TT) EE (w84G N) w84lv w84rs (fun u => u = w84enc r) (w84kE0 (bodyOf 0 Try.f84)) (w84sE0 x0) :=
  tree_use (w84vE0 N x0) (w84nE0 N x0) h (show (w84TE0 (bodyOf 0 Try.f84) N x0).all _ from fun _ => ⟨retp (enc := w84enc) rfl, fun _ => ⟨retp (enc := w84enc) rfl, retp (enc := w84enc) rfl⟩⟩)
theorem labels_Check_ok {N : Nat} (x0 : List VLabel) {r : Int} (h : labels_Check N x0 = some r) (ρ : Nat → Nat) : ACalls Try.prog 84 (([.a (.d (.sl (.nam 2)) x0)] : List (TV EE.T)).map (TV.to EE.toEnc ρ)) [] (fun out H => out = .ret ((labels_Check_u r).to EE.toEnc ρ) ∧ H = []) :=
  (fn_ok (bodyOf 0 Try.f84) 12 mixed (w84Gok N) Try.func84 (by kernel_rfl) rfl rfl rfl rfl (w84oE0 x0 h) ρ).mono fun out H h => KPost.ret rfl h
def labels_Check_h (N : Nat) : List (TV EE.T) → PV EE.T
  | [u0] => match argD (.sl (.nam 2)) u0 with
    | some x0 => .opt (labels_Check N x0) labels_Check_u
    | _ => .bad
  | _ => .bad
theorem labels_Check_hok (N : Nat) (us : List (TV EE.T)) : (labels_Check_h N us).ok fun u => ∀ ρ, ACalls Try.prog 84 (us.map (TV.to EE.toEnc ρ)) [] (fun out H => out = .ret (u.to EE.toEnc ρ) ∧ H = []) := by
  unfold labels_Check_h
  split
  · split
    · rename_i h0
      intro z hz ρ; refine acalls_le ?_ (labels_Check_ok _ hz ρ); exact ⟨argD_le h0 ρ, trivial⟩
    · trivial
  · trivial
/-! ### gleaner/labels.check -/
def labels_check_u (r : Int) : TV EE.T := .a (.d (.int .i64) r)
def w89enc (r : Int) : RL EE.T := .ret (labels_check_u r) []
def w89lv : Lvs := ⟨[], [(2, ⟨[(6, false), (7, false), (8, false)], [], []⟩)], [], [], false, [], []⟩
def w89rs : List ResultVar := [.tmp 2]
def w89G (N : Nat) : Gam EE := ⟨[⟨84, labels_Check_h N⟩], EQT, [], []⟩
theorem w89Gok (N : Nat) : GOk Try.prog TT EE (w89G N) := GOk.cons (labels_Check_hok N) (GOk.nil EQT_ok)
def w89kL2 (c : Code) : List It2 := atL 2 c
def w89sL2 (x6 : List (List VLabel)) (x7 : Int) (x8 : Int) : TS EE.T := ⟨18, [(6, .a (.d (.sl (.sl (.nam 2))) x6)), (7, .a (.d (.int .i64) x7)), (8, .a (.d (.int .i64) x8))], [], []⟩
def w89kE0 (c : Code) : List It2 := [.c c]
def w89sE0 (x0 : List (List VLabel)) : TS EE.T := ⟨18, [(0, .a (.d (.sl (.sl (.nam 2))) x0))], [], []⟩
def w89TL2 (c : Code) (N : Nat) (n : Nat) (x6 : List (List VLabel)) (x7 : Int) (x8 : Int) : Tree (Lf EE.T × Option Int) :=
  .cond (decide (x8 < x7))
  (
    .bnd (idxC x6 x8) fun z1 =>
    .bnd (labels_Check N z1) fun z2 =>
    .cond (z2 != 0)
    (
      .leaf (.done (w89enc z2), some z2))
    (
      .leaf (.go (w89kL2 c) (w89sL2 x6 x7 (w64 (x8 + 1))), labels_check_L2 N n x6 x7 (w64 (x8 + 1)))))
  (
    .leaf (.done (w89enc 0), some 0))
theorem w89vL2 (N : Nat) (n : Nat) (x6 : List (List VLabel)) (x7 : Int) (x8 : Int) : evM TT EE (w89G N) w89lv w89rs 4000 true (w89kL2 (bodyOf 0 Try.f89)) (w89sL2 x6 x7 x8) = (w89TL2 (bodyOf 0 Try.f89) N n x6 x7 x8).map1 := by kernel_rfl
theorem w89nL2 (N : Nat) (n : Nat) (x6 : List (List VLabel)) (x7 : Int) (x8 : Int) : labels_check_L2 N (n + 1) x6 x7 x8 = (w89TL2 (bodyOf 0 Try.f89) N n x6 x7 x8).run := by kernel_rfl
theorem w89oL2 {N : Nat} {r : Int} : ∀ (n : Nat) (x6 : List (List VLabel)) (x7 : Int) (x8 : Int), labels_check_L2 N n x6 x7 x8 = some r → Ends (Y := TT) EE (w89G N) w89lv w89rs (fun u => u = w89enc r) (w89kL2 (bodyOf 0 Try.f89)) (w89sL2 x6 x7 x8)
  | 0, _, _, _, h => by cases h
  | n + 1, x6, x7, x8, h => tree_use (w89vL2 N n x6 x7 x8) (w89nL2 N n x6 x7 x8) h (show (w89TL2 (bodyOf 0 Try.f89) N n x6 x7 x8).all _ from ⟨fun _ => fun _ => ⟨retp (enc := w89enc) rfl, fun h => (w89oL2 n) _ _ _ h⟩, retp (enc := w89enc) rfl⟩)
def w89TE0 (c : Code) (N : Nat) (x0 : List (List VLabel)) : Tree (Lf EE.T × Option Int) :=
  .leaf (.go (w89kL2 c) (w89sL2 x0 (x0.length : Int) 0), labels_check_L2 N N x0 (x0.length : Int) 0)
theorem w89vE0 (N : Nat) (x0 : List (List VLabel)) : evM TT EE (w89G N) w89lv w89rs 4000 true (w89kE0 (bodyOf 0 Try.f89)) (w89sE0 x0) = (w89TE0 (bodyOf 0 Try.f89) N x0).map1 := by kernel_rfl
theorem w89nE0 (N : Nat) (x0 : List (List VLabel)) : labels_check N x0 = (w89TE0 (bodyOf 0 Try.f89) N x0).run := by kernel_rfl
theorem w89oE0 {N : Nat} {r : Int} (x0 : List (List VLabel)) (h : labels_check N x0 = some r) : Ends (Y := TT) EE (w89G N) w89lv w89rs (fun u => u = w89enc r) (w89kE0 (bodyOf 0 Try.f89)) (w89sE0 x0) :=
  tree_use (w89vE0 N x0) (w89nE0 N x0) h (show (w89TE0 (bodyOf 0 Try.f89) N x0).all _ from fun h => w89oL2 N _ _ _ h)
theorem labels_check_ok {N : Nat} (x0 : List (List VLabel)) {r : Int} (h : labels_check N x0 = some r) (ρ : Nat → Nat) : ACalls Try.prog 89 (([.a (.d (.sl (.sl (.nam 2))) x0)] : List (TV EE.T)).map (TV.to EE.toEnc ρ)) [] (fun out H => out = .ret ((labels_check_u r).to EE.toEnc ρ) ∧ H = []) :=
  (fn_ok (bodyOf 0 Try.f89) 18 mixed (w89Gok N) Try.func89 (by kernel_rfl) rfl rfl rfl rfl (w89oE0 x0 h) ρ).mono fun out H h => KPost.ret rfl h
def labels_check_h (N : Nat) : List (TV EE.T) → PV EE.T
  | [u0] => match argD (.sl (.sl (.nam 2))) u0 with
    | some x0 => .opt (labels_check N x0) labels_check_u
    | _ => .bad
  | _ => .bad
theorem labels_check_hok (N : Nat) (us : List (TV EE.T)) : (labels_check_h N us).ok fun u => ∀ ρ, ACalls Try.prog 89 (us.map (TV.to EE.toEnc ρ)) [] (fun out H => out = .ret (u.to EE.toEnc ρ) ∧ H = []) := by
  unfold labels_check_h
  split
  · split
    · rename_i h0
      intro z hz ρ; refine acalls_le ?_ (labels_check_ok _ hz ρ); exact ⟨argD_le h0 ρ, trivial⟩
    · trivial
  · trivial
/-! ### gleaner/labels.sum -/
def labels_sum_u (r : Int) : TV EE.T := .a (.d (.int .u64) r)
def w101enc (r : Int) : RL EE.T := .ret (labels_sum_u r) []
def w101lv : Lvs := ⟨[], [(2, ⟨[(0, false), (10, false), (11, false), (12, false)], [], []⟩)], [], [], false, [], []⟩
def w101rs : List ResultVar := [.tmp 4]
def w101G (N : Nat) : Gam EE := ⟨[], EQT, [], []⟩
theorem w101Gok (N : Nat) : GOk Try.prog TT EE (w101G N) := GOk.nil EQT_ok
def w101kL2 (c : Code) : List It2 := atL 2 c
def w101sL2 (x0 : Int) (x10 : List UInt8) (x11 : Int) (x12 : Int) : TS EE.T := ⟨23, [(0, .a (.d (.int .u64) x0)), (10, .a (.own .byte x10)), (11, .a (.d (.int .i64) x11)), (12, .a (.d (.int .i64) x12))], [], []⟩
def w101kE0 (c : Code) : List It2 := [.c c]
def w101sE0 (x0 : Int) (x1 : List UInt8) : TS EE.T := ⟨23, [(0, .a (.d (.int .u64) x0)), (1, .a (.d .str x1))], [], []⟩
def w101TL2 (c : Code) (N : Nat) (n : Nat) (x0 : Int) (x10 : List UInt8) (x11 : Int) (x12 : Int) : Tree (Lf EE.T × Option Int) :=
  .cond (decide (x12 < x11))
  (
    .bnd (idxC x10 x12) fun z2 =>
    .leaf (.go (w101kL2 c) (w101sL2 (IntKind.wrap .u64 ((bits .xor .u64 x0 (IntKind.wrap .u64 (b2i z2))) * 1099511628211)) x10 x11 (w64 (x12 + 1))), labels_sum_L2 N n (IntKind.wrap .u64 ((bits .xor .u64 x0 (IntKind.wrap .u64 (b2i z2))) * 1099511628211)) x10 x11 (w64 (x12 + 1))))
  (
    .leaf (.done (w101enc x0), some x0))
theorem w101vL2 (N : Nat) (n : Nat) (x0 : Int) (x10 : List UInt8) (x11 : Int) (x12 : Int) : evM TT EE (w101G N) w101lv w101rs 4000 true (w101kL2 (bodyOf 0 Try.f101)) (w101sL2 x0 x10 x11 x12) = (w101TL2 (bodyOf 0 Try.f101) N n x0 x10 x11 x12).map1 := by kernel_rfl
theorem w101nL2 (N : Nat) (n : Nat) (x0 : Int) (x10 : List UInt8) (x11 : Int) (x12 : Int) : labels_sum_L2 N (n + 1) x0 x10 x11 x12 = (w101TL2 (bodyOf 0 Try.f101) N n x0 x10 x11 x12).run := by kernel_rfl
theorem w101oL2 {N : Nat} {r : Int} : ∀ (n : Nat) (x0 : Int) (x10 : List UInt8) (x11 : Int) (x12 : Int), labels_sum_L2 N n x0 x10 x11 x12 = some r → Ends (Y := TT) EE (w101G N) w101lv w101rs (fun u => u = w101enc r) (w101kL2 (bodyOf 0 Try.f101)) (w101sL2 x0 x10 x11 x12)
  | 0, _, _, _, _, h => by cases h
  | n + 1, x0, x10, x11, x12, h => tree_use (w101vL2 N n x0 x10 x11 x12) (w101nL2 N n x0 x10 x11 x12) h (show (w101TL2 (bodyOf 0 Try.f101) N n x0 x10 x11 x12).all _ from ⟨fun _ => fun h => (w101oL2 n) _ _ _ _ h, retp (enc := w101enc) rfl⟩)
def w101TE0 (c : Code) (N : Nat) (x0 : Int) (x1 : List UInt8) : Tree (Lf EE.T × Option Int) :=
  .bnd (appC 1 x1 ([255] : List UInt8)) fun z1 =>
  .leaf (.go (w101kL2 c) (w101sL2 x0 z1 (z1.length : Int) 0), labels_sum_L2 N N x0 z1 (z1.length : Int) 0)
theorem w101vE0 (N : Nat) (x0 : Int) (x1 : List UInt8) : evM TT EE (w101G N) w101lv w101rs 4000 true (w101kE0 (bodyOf 0 Try.f101)) (w101sE0 x0 x1) = (w101TE0 (bodyOf 0 Try.f101) N x0 x1).map1 := by kernel_rfl
theorem w101nE0 (N : Nat) (x0 : Int) (x1 : List UInt8) : labels_sum N x0 x1 = (w101TE0 (bodyOf 0 Try.f101) N x0 x1).run := by kernel_rfl
theorem w101oE0 {N : Nat} {r : Int} (x0 : Int) (x1 : List UInt8) (h : labels_sum N x0 x1 = some r) : Ends (Y := TT) EE (w101G N) w101lv w101rs (fun u => u = w101enc r) (w101kE0 (bodyOf 0 Try.f101)) (w101sE0 x0 x1) :=
  tree_use (w101vE0 N x0 x1) (w101nE0 N x0 x1) h (show (w101TE0 (bodyOf 0 Try.f101) N x0 x1).all _ from fun _ => fun h => w101oL2 N _ _ _ _ h)
theorem labels_sum_ok {N : Nat} (x0 : Int) (x1 : List UInt8) {r : Int} (h : labels_sum N x0 x1 = some r) (ρ : Nat → Nat) : ACalls Try.prog 101 (([.a (.d (.int .u64) x0), .a (.d .str x1)] : List (TV EE.T)).map (TV.to EE.toEnc ρ)) [] (fun out H => out = .ret ((labels_sum_u r).to EE.toEnc ρ) ∧ H = []) :=
  (fn_ok (bodyOf 0 Try.f101) 23 mixed (w101Gok N) Try.func101 (by kernel_rfl) rfl rfl rfl rfl (w101oE0 x0 x1 h) ρ).mono fun out H h => KPost.ret rfl h
def labels_sum_h (N : Nat) : List (TV EE.T) → PV EE.T
  | [u0, u1] => match argD (.int .u64) u0, argD .str u1 with
    | some x0, some x1 => .opt (labels_sum N x0 x1) labels_sum_u
    | _, _ => .bad
  | _ => .bad
theorem labels_sum_hok (N : Nat) (us : List (TV EE.T)) : (labels_sum_h N us).ok fun u => ∀ ρ, ACalls Try.prog 101 (us.map (TV.to EE.toEnc ρ)) [] (fun out H => out = .ret (u.to EE.toEnc ρ) ∧ H = []) := by
  unfold labels_sum_h
  split
  · split
    · rename_i h0 h1
      intro z hz ρ; refine acalls_le ?_ (labels_sum_ok _ _ hz ρ); exact ⟨argD_le h0 ρ, argD_le h1 ρ, trivial⟩
    · trivial
  · trivial
/-! ### gleaner/labels.RawSum -/
def labels_RawSum_u (r : Int) : TV EE.T := .a (.d (.int .u64) r)
def w90enc (r : Int) : RL EE.T := .ret (labels_RawSum_u r) []
def w90lv : Lvs := ⟨[(5, ⟨[(3, false), (5, false), (6, false), (7, false), (8, false)], [], [(5, (some 2, []))]⟩)], [(3, ⟨[(3, false), (6, false), (7, false), (8, false)], [], []⟩)], [], [], false, [], []⟩
def w90rs : List ResultVar := [.tmp 2]
def w90G (N : Nat) : Gam EE := ⟨[⟨101, labels_sum_h N⟩], EQT, [], []⟩
theorem w90Gok (N : Nat) : GOk Try.prog TT EE (w90G N) := GOk.cons (labels_sum_hok N) (GOk.nil EQT_ok)
def w90kL3 (c : Code) : List It2 := atL 3 c
def w90sL3 (x3 : Int) (x6 : List VLabel) (x7 : Int) (x8 : Int) : TS EE.T := ⟨21, [(3, .a (.d (.int .u64) x3)), (6, .a (.d (.sl (.nam 2)) x6)), (7, .a (.d (.int .i64) x7)), (8, .a (.d (.int .i64) x8))], [], []⟩
def w90kE0 (c : Code) : List It2 := [.c c]
def w90sE0 (x0 : List VLabel) : TS EE.T := ⟨21, [(0, .a (.d (.sl (.nam 2)) x0))], [], []⟩
def w90TL3 (c : Code) (N : Nat) (n : Nat) (x3 : Int) (x6 : List VLabel) (x7 : Int) (x8 : Int) : Tree (Lf EE.T × Option Int) :=
  .cond (decide (x8 < x7))
  (
    .bnd (idxC x6 x8) fun z1 =>
    .bnd (labels_sum N x3 z1.Name) fun z2 =>
    .bnd (labels_sum N z2 z1.Value) fun z3 =>
    .leaf (.go (w90kL3 c) (w90sL3 z3 x6 x7 (w64 (x8 + 1))), labels_RawSum_L3 N n z3 x6 x7 (w64 (x8 + 1))))
  (
    .leaf (.done (w90enc x3), some x3))
theorem w90vL3 (N : Nat) (n : Nat) (x3 : Int) (x6 : List VLabel) (x7 : Int) (x8 : Int) : evM TT EE (w90G N) w90lv w90rs 4000 true (w90kL3 (bodyOf 0 Try.f90)) (w90sL3 x3 x6 x7 x8) = (w90TL3 (bodyOf 0 Try.f90) N n x3 x6 x7 x8).map1 := by kernel_rfl
theorem w90nL3 (N : Nat) (n : Nat) (x3 : Int) (x6 : List VLabel) (x7 : Int) (x8 : Int) : labels_RawSum_L3 N (n + 1) x3 x6 x7 x8 = (w90TL3 (bodyOf 0 Try.f90) N n x3 x6 x7 x8).run := by kernel_rfl
theorem w90oL3 {N : Nat} {r : Int} : ∀ (n : Nat) (x3 : Int) (x6 : List VLabel) (x7 : Int) (x8 : Int), labels_RawSum_L3 N n x3 x6 x7 x8 = some r → Ends (Y := TT) EE (w90G N) w90lv w90rs (fun u => u = w90enc r) (w90kL3 (bodyOf 0 Try.f90)) (w90sL3 x3 x6 x7 x8)
  | 0, _, _, _, _, h => by cases h
  | n + 1, x3, x6, x7, x8, h => tree_use (w90vL3 N n x3 x6 x7 x8) (w90nL3 N n x3 x6 x7 x8) h (show (w90TL3 (bodyOf 0 Try.f90) N n x3 x6 x7 x8).all _ from ⟨fun _ => fun _ => fun _ => fun h => (w90oL3 n) _ _ _ _ h, retp (enc := w90enc) rfl⟩)
def w90TE0 (c : Code) (N : Nat) (x0 : List VLabel) : Tree (Lf EE.T × Option Int) :=
  .leaf (.go (w90kL3 c) (w90sL3 14695981039346656037 x0 (x0.length : Int) 0), labels_RawSum_L3 N N 14695981039346656037 x0 (x0.length : Int) 0)
theorem w90vE0 (N : Nat) (x0 : List VLabel) : evM TT EE (w90G N) w90lv w90rs 4000 true (w90kE0 (bodyOf 0 Try.f90)) (w90sE0 x0) = (w90TE0 (bodyOf 0 Try.f90) N x0).map1 := by kernel_rfl
theorem w90nE0 (N : Nat) (x0 : List VLabel) : labels_RawSum N x0 = (w90TE0 (bodyOf 0 Try.f90) N x0).run := by kernel_rfl
theorem w90oE0 {N : Nat} {r : Int} (x0 : List VLabel) (h : labels_RawSum N x0 = some r) : Ends (Y := TT) EE (w90G N) w90lv w90rs (fun u => u = w90enc r) (w90kE0 (bodyOf 0 Try.f90)) (w90sE0 x0) :=
  tree_use (w90vE0 N x0) (w90nE0 N x0) h (show (w90TE0 (bodyOf 0 Try.f90) N x0).all _ from fun h => w90oL3 N _ _ _ _ h)
theorem labels_RawSum_ok {N : Nat} (x0 : List VLabel) {r : Int} (h : labels_RawSum N x0 = some r) (ρ : Nat → Nat) : ACalls Try.prog 90 (([.a (.d (.sl (.nam 2)) x0)] : List (TV EE.T)).map (TV.to EE.toEnc ρ)) [] (fun out H => out = .ret ((labels_RawSum_u r).to EE.toEnc ρ) ∧ H = []) :=
  (fn_ok (bodyOf 0 Try.f90) 21 mixed (w90Gok N) Try.func90 (by kernel_rfl) rfl rfl rfl rfl (w90oE0 x0 h) ρ).mono fun out H h => KPost.ret rfl h
def labels_RawSum_h (N : Nat) : List (TV EE.T) → PV EE.T
  | [u0] => match argD (.sl (.nam 2)) u0 with
    | some x0 => .opt (labels_RawSum N x0) labels_RawSum_u
    | _ => .bad
  | _ => .bad
theorem labels_RawSum_hok (N : Nat) (us : List (TV EE.T)) : (labels_RawSum_h N us).ok fun u => ∀ ρ, ACalls Try.prog 90 (us.map (TV.to EE.toEnc ρ)) [] (fun out H => out = .ret (u.to EE.toEnc ρ) ∧ H = []) := by
  unfold labels_RawSum_h
  split
  · split
    · rename_i h0
      intro z hz ρ; refine acalls_le ?_ (labels_RawSum_ok _ hz ρ); exact ⟨argD_le h0 ρ, trivial⟩
    · trivial
  · trivial
/-! ### gleaner/labels.Sum -/
def labels_Sum_u (r : Int × Int) : TV EE.T := .tu [.a (.d (.int .u64) r.1), .a (.d (.int .i64) r.2)]
def w68enc (r : Int × Int) : RL EE.T := .ret (labels_Sum_u r) []
def w68lv : Lvs := ⟨[], [], [], [], false, [], []⟩
def w68rs : List ResultVar := [.tmp 2, .tmp 3]
def w68G (N : Nat) : Gam EE := ⟨[⟨90, labels_RawSum_h N⟩, ⟨89, labels_check_h N⟩], EQT, [], []⟩
theorem w68Gok (N : Nat) : GOk Try.prog TT EE (w68G N) := GOk.cons (labels_RawSum_hok N) (GOk.cons (labels_check_hok N) (GOk.nil EQT_ok))
def w68kE0 (c : Code) : List It2 := [.c c]
def w68sE0 (x0 : List VLabel) : TS EE.T := ⟨13, [(0, .a (.d (.sl (.nam 2)) x0))], [], []⟩
def w68TE0 (c : Code) (N : Nat) (x0 : List VLabel) : Tree (Lf EE.T × Option (Int × Int)) :=
  .bnd (labels_check N ([x0] : List (List VLabel))) fun z1 =>
  .cond (z1 != 0)
  (
    .leaf (.done (w68enc (0, z1)), some (0, z1)))
  (
    .bnd (labels_RawSum N x0) fun z2 =>
    .leaf (.done (w68enc (z2, 0)), some (z2, 0)))
theorem w68vE0 (N : Nat) (x0 : List VLabel) : evM TT EE (w68G N) w68lv w68rs 4000 true (w68kE0 (bodyOf 0 Try.f68)) (w68sE0 x0) = (w68TE0 (bodyOf 0 Try.f68) N x0).map1 := by kernel_rfl
theorem w68nE0 (N : Nat) (x0 : List VLabel) : labels_Sum N x0 = (w68TE0 (bodyOf 0 Try.f68) N x0).run := by kernel_rfl
theorem w68oE0 {N : Nat} {r : Int × Int} (x0 : List VLabel) (h : labels_Sum N x0 = some r) : Ends (Y := TT) EE (w68G N) w68lv w68rs (fun u => u = w68enc r) (w68kE0 (bodyOf 0 Try.f68)) (w68sE0 x0) :=
  tree_use (w68vE0 N x0) (w68nE0 N x0) h (show (w68TE0 (bodyOf 0 Try.f68) N x0).all _ from fun _ => ⟨retp (enc := w68enc) rfl, fun _ => retp (enc := w68enc) rfl⟩)
theorem labels_Sum_ok {N : Nat} (x0 : List VLabel) {r : Int × Int} (h : labels_Sum N x0 = some r) (ρ : Nat → Nat) : ACalls Try.prog 68 (([.a (.d (.sl (.nam 2)) x0)] : List (TV EE.T)).map (TV.to EE.toEnc ρ)) [] (fun out H => out = .ret ((labels_Sum_u r).to EE.toEnc ρ) ∧ H = []) :=
  (fn_ok (bodyOf 0 Try.f68) 13 mixed (w68Gok N) Try.func68 (by kernel_rfl) rfl rfl rfl rfl (w68oE0 x0 h) ρ).mono fun out H h => KPost.ret rfl h
def labels_Sum_h (N : Nat) : List (TV EE.T) → PV EE.T
  | [u0] => match argD (.sl (.nam 2)) u0 with
    | some x0 => .opt (labels_Sum N x0) labels_Sum_u
    | _ => .bad
  | _ => .bad
theorem labels_Sum_hok (N : Nat) (us : List (TV EE.T)) : (labels_Sum_h N us).ok fun u => ∀ ρ, ACalls Try.prog 68 (us.map (TV.to EE.toEnc ρ)) [] (fun out H => out = .ret (u.to EE.toEnc ρ) ∧ H = []) := by
  unfold labels_Sum_h
  split
  · split
    · rename_i h0
      intro z hz ρ; refine acalls_le ?_ (labels_Sum_ok _ hz ρ); exact ⟨argD_le h0 ρ, trivial⟩
    · trivial
  · trivial
/-! ### gleaner/shard.Which -/
def shard_Which_u (r : Int × Int) : TV EE.T := .tu [.a (.d (.int .i64) r.1), .a (.d (.int .i64) r.2)]
def w36enc (r : Int × Int) : RL EE.T := .ret (shard_Which_u r) []
def w36lv : Lvs := ⟨[], [], [], [], false, [], []⟩
def w36rs : List ResultVar := [.tmp 4, .tmp 5]
def w36G (N : Nat) : Gam EE := ⟨[⟨68, labels_Sum_h N⟩, ⟨54, shard_within_h N⟩], EQT, [], []⟩
theorem w36Gok (N : Nat) : GOk Try.prog TT EE (w36G N) := GOk.cons (labels_Sum_hok N) (GOk.cons (shard_within_hok N) (GOk.nil EQT_ok))
def w36kE0 (c : Code) : List It2 := [.c c]
def w36sE0 (x0 : List VLabel) (x1 : Int) : TS EE.T := ⟨22, [(0, .a (.d (.sl (.nam 2)) x0)), (1, .a (.d (.int .i64) x1))], [], []⟩
def w36TE0 (c : Code) (N : Nat) (x0 : List VLabel) (x1 : Int) : Tree (Lf EE.T × Option (Int × Int)) :=
  .bnd (shard_within N x1 1 8) fun z1 =>
  .cond (!z1)
  (
    .leaf (.done (w36enc (0, 3)), some (0, 3)))
  (
    .bnd (labels_Sum N x0) fun z2 =>
    .bnd (remC z2.1 (IntKind.wrap .u64 x1)) fun z3 =>
    .leaf (.done (w36enc (w64 z3, z2.2)), some (w64 z3, z2.2)))
theorem w36vE0 (N : Nat) (x0 : List VLabel) (x1 : Int) : evM TT EE (w36G N) w36lv w36rs 4000 true (w36kE0 (bodyOf 0 Try.f36)) (w36sE0 x0 x1) = (w36TE0 (bodyOf 0 Try.f36) N x0 x1).map1 := by kernel_rfl
theorem w36nE0 (N : Nat) (x0 : List VLabel) (x1 : Int) : shard_Which N x0 x1 = (w36TE0 (bodyOf 0 Try.f36) N x0 x1).run := by kernel_rfl
theorem w36oE0 {N : Nat} {r : Int × Int} (x0 : List VLabel) (x1 : Int) (h : shard_Which N x0 x1 = some r) : Ends (Y := TT) EE (w36G N) w36lv w36rs (fun u => u = w36enc r) (w36kE0 (bodyOf 0 Try.f36)) (w36sE0 x0 x1) :=
  tree_use (w36vE0 N x0 x1) (w36nE0 N x0 x1) h (show (w36TE0 (bodyOf 0 Try.f36) N x0 x1).all _ from fun _ => ⟨retp (enc := w36enc) rfl, fun _ => fun _ => retp (enc := w36enc) rfl⟩)
theorem shard_Which_ok {N : Nat} (x0 : List VLabel) (x1 : Int) {r : Int × Int} (h : shard_Which N x0 x1 = some r) (ρ : Nat → Nat) : ACalls Try.prog 36 (([.a (.d (.sl (.nam 2)) x0), .a (.d (.int .i64) x1)] : List (TV EE.T)).map (TV.to EE.toEnc ρ)) [] (fun out H => out = .ret ((shard_Which_u r).to EE.toEnc ρ) ∧ H = []) :=
  (fn_ok (bodyOf 0 Try.f36) 22 mixed (w36Gok N) Try.func36 (by kernel_rfl) rfl rfl rfl rfl (w36oE0 x0 x1 h) ρ).mono fun out H h => KPost.ret rfl h
def shard_Which_h (N : Nat) : List (TV EE.T) → PV EE.T
  | [u0, u1] => match argD (.sl (.nam 2)) u0, argD (.int .i64) u1 with
    | some x0, some x1 => .opt (shard_Which N x0 x1) shard_Which_u
    | _, _ => .bad
  | _ => .bad
theorem shard_Which_hok (N : Nat) (us : List (TV EE.T)) : (shard_Which_h N us).ok fun u => ∀ ρ, ACalls Try.prog 36 (us.map (TV.to EE.toEnc ρ)) [] (fun out H => out = .ret (u.to EE.toEnc ρ) ∧ H = []) := by
  unfold shard_Which_h
  split
  · split
    · rename_i h0 h1
      intro z hz ρ; refine acalls_le ?_ (shard_Which_ok _ _ hz ρ); exact ⟨argD_le h0 ρ, argD_le h1 ρ, trivial⟩
    · trivial
  · trivial
end Go.Proofs.Ytofidfkojmbdoaa
