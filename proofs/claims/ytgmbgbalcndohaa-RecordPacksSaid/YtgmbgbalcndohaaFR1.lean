-- slim: written by gen/slim.py from XFR1.r.lean.tpl
/- The walks that prove plain functions right, written by gen/tgl.py. -/
import Derived.Test.YtgmbgbalcndohaaFR1p
import Derived.Test.YtgmbgbalcndohaaKR
namespace Go.Proofs.Ytgmbgbalcndohaa
open Go.RowKit P
set_option linter.unusedVariables false
set_option linter.unusedSimpArgs false
set_option maxRecDepth 100000
/-! ### gleaner/gleanerlaw.recordBegun -/
def law_recordBegun_u (r : Bool) : TV EE.T := .a (.d .bool r)
def w9enc (r : Bool) : RL EE.T := .ret (law_recordBegun_u r) []
def w9lv : Lvs := ⟨[], [], [], [], false, [], []⟩
def w9rs : List ResultVar := [.tmp 0]
def w9G (N : Nat) : Gam EE := ⟨[⟨6, record_Pack_h N⟩, ⟨11, record_Unpack_h N⟩], EQT, [], []⟩
theorem w9Gok (N : Nat) : GOk Try.prog TT EE (w9G N) := GOk.cons (record_Pack_hok N) (GOk.cons (record_Unpack_hok N) (GOk.nil EQT_ok))
def w9kE0 (c : Code) : List It2 := [.c c]
def w9sE0 : TS EE.T := ⟨42, [], [], []⟩
def w9TE0 (c : Code) (N : Nat) : Tree (Lf EE.T × Option Bool) :=
  .bnd (record_Pack N ({ Kind := 2, Refs := ([] : List VRef), Points := ([({ Ref := 1, Time := (-1), Bits := 0 } : VPoint)] : List VPoint) } : VRecord)) fun z1 =>
  .bnd (record_Unpack N z1.1) fun z2 =>
  .cond (z1.2 == 0)
  (
    .cond (z2.2 == 0)
    (
      .cond ((z1.1.length : Int) == 12)
      (
        .cond ((z2.1.Points.length : Int) == 1)
        (
          .bnd (idxC z2.1.Points 0) fun z3 =>
          .leaf (.done (w9enc (z3.Time == (-1))), some (z3.Time == (-1))))
        (
          .leaf (.done (w9enc false), some false)))
      (
        .leaf (.done (w9enc false), some false)))
    (
      .leaf (.done (w9enc false), some false)))
  (
    .leaf (.done (w9enc false), some false))
theorem w9vE0 (N : Nat) : evM TT EE (w9G N) w9lv w9rs 4000 true (w9kE0 (bodyOf 0 Try.f9)) (w9sE0) = (w9TE0 (bodyOf 0 Try.f9) N).map1 := by kernel_rfl
theorem w9nE0 (N : Nat) : law_recordBegun N = (w9TE0 (bodyOf 0 Try.f9) N).run := by kernel_rfl
theorem w9oE0 {N : Nat} {r : Bool} (h : law_recordBegun N = some r) : Ends (Y := TT) EE (w9G N) w9lv w9rs (fun u => u = w9enc r) (w9kE0 (bodyOf 0 Try.f9)) (w9sE0) :=
  tree_use (w9vE0 N) (w9nE0 N) h (show (w9TE0 (bodyOf 0 Try.f9) N).all _ from fun _ => fun _ => ⟨⟨⟨⟨fun _ => retp (enc := w9enc) rfl, retp (enc := w9enc) rfl⟩, retp (enc := w9enc) rfl⟩, retp (enc := w9enc) rfl⟩, retp (enc := w9enc) rfl⟩)
theorem law_recordBegun_ok {N : Nat} {r : Bool} (h : law_recordBegun N = some r) (ρ : Nat → Nat) : ACalls Try.prog 9 (([] : List (TV EE.T)).map (TV.to EE.toEnc ρ)) [] (fun out H => out = .ret ((law_recordBegun_u r).to EE.toEnc ρ) ∧ H = []) :=
  (fn_ok (bodyOf 0 Try.f9) 42 mixed (w9Gok N) Try.func9 (by kernel_rfl) rfl rfl rfl rfl (w9oE0 h) ρ).mono fun out H h => KPost.ret rfl h
def law_recordBegun_h (N : Nat) : List (TV EE.T) → PV EE.T
  | [] => .opt (law_recordBegun N) law_recordBegun_u
  | _ => .bad
theorem law_recordBegun_hok (N : Nat) (us : List (TV EE.T)) : (law_recordBegun_h N us).ok fun u => ∀ ρ, ACalls Try.prog 9 (us.map (TV.to EE.toEnc ρ)) [] (fun out H => out = .ret (u.to EE.toEnc ρ) ∧ H = []) := by
  unfold law_recordBegun_h
  split
  · intro z hz ρ; exact law_recordBegun_ok hz ρ
  · trivial
/-! ### gleaner/gleanerlaw.textIs -/
def law_textIs_u (r : Bool) : TV EE.T := .a (.d .bool r)
def w10enc (r : Bool) : RL EE.T := .ret (law_textIs_u r) []
def w10lv : Lvs := ⟨[(3, ⟨[(0, false), (1, false), (2, false), (3, false)], [], []⟩)], [], [3], [], false, [], []⟩
def w10rs : List ResultVar := [.tmp 8]
def w10G (N : Nat) : Gam EE := ⟨[], EQT, [], []⟩
theorem w10Gok (N : Nat) : GOk Try.prog TT EE (w10G N) := GOk.nil EQT_ok
def w10kR3 (c : Code) : List It2 := atR 3 c
def w10sR3 (x0 : List UInt8) (x1 : Int) (x2 : Int) (x3 : List UInt8) : TS EE.T := ⟨19, [(0, .a (.d .str x0)), (1, .a (.d (.int .i64) x1)), (2, .a (.d (.int .i64) x2)), (3, .a (.d .str x3))], [], []⟩
def w10kE0 (c : Code) : List It2 := [.c c]
def w10sE0 (x0 : List UInt8) (x1 : Int) (x2 : Int) (x3 : List UInt8) : TS EE.T := ⟨19, [(0, .a (.d .str x0)), (1, .a (.d (.int .i64) x1)), (2, .a (.d (.int .i64) x2)), (3, .a (.d .str x3))], [], []⟩
def w10TR3 (c : Code) (N : Nat) (n : Nat) (x0 : List UInt8) (x1 : Int) (x2 : Int) (x3 : List UInt8) : Tree (Lf EE.T × Option Bool) :=
  .cond (x1 == x2)
  (
    .leaf (.done (w10enc (decide (x0 = x3))), some (decide (x0 = x3))))
  (
    .leaf (.done (w10enc false), some false))
theorem w10vR3 (N : Nat) (n : Nat) (x0 : List UInt8) (x1 : Int) (x2 : Int) (x3 : List UInt8) : evM TT EE (w10G N) w10lv w10rs 4000 true (w10kR3 (bodyOf 0 Try.f10)) (w10sR3 x0 x1 x2 x3) = (w10TR3 (bodyOf 0 Try.f10) N n x0 x1 x2 x3).map1 := by kernel_rfl
theorem w10nR3 (N : Nat) (n : Nat) (x0 : List UInt8) (x1 : Int) (x2 : Int) (x3 : List UInt8) : law_textIs_R3 N n x0 x1 x2 x3 = (w10TR3 (bodyOf 0 Try.f10) N n x0 x1 x2 x3).run := by kernel_rfl
theorem w10oR3 {N : Nat} {r : Bool} (n : Nat) (x0 : List UInt8) (x1 : Int) (x2 : Int) (x3 : List UInt8) (h : law_textIs_R3 N n x0 x1 x2 x3 = some r) : Ends (Y := TT) EE (w10G N) w10lv w10rs (fun u => u = w10enc r) (w10kR3 (bodyOf 0 Try.f10)) (w10sR3 x0 x1 x2 x3) :=
  tree_use (w10vR3 N n x0 x1 x2 x3) (w10nR3 N n x0 x1 x2 x3) h (show (w10TR3 (bodyOf 0 Try.f10) N n x0 x1 x2 x3).all _ from ⟨retp (enc := w10enc) rfl, retp (enc := w10enc) rfl⟩)
def w10TE0 (c : Code) (N : Nat) (x0 : List UInt8) (x1 : Int) (x2 : Int) (x3 : List UInt8) : Tree (Lf EE.T × Option Bool) :=
  .cond (x2 != 0)
  (
    .leaf (.go (w10kR3 c) (w10sR3 x0 x1 x2 ([] : List UInt8)), law_textIs_R3 N N x0 x1 x2 ([] : List UInt8)))
  (
    .leaf (.go (w10kR3 c) (w10sR3 x0 x1 x2 x3), law_textIs_R3 N N x0 x1 x2 x3))
theorem w10vE0 (N : Nat) (x0 : List UInt8) (x1 : Int) (x2 : Int) (x3 : List UInt8) : evM TT EE (w10G N) w10lv w10rs 4000 true (w10kE0 (bodyOf 0 Try.f10)) (w10sE0 x0 x1 x2 x3) = (w10TE0 (bodyOf 0 Try.f10) N x0 x1 x2 x3).map1 := by kernel_rfl
theorem w10nE0 (N : Nat) (x0 : List UInt8) (x1 : Int) (x2 : Int) (x3 : List UInt8) : law_textIs N x0 x1 x2 x3 = (w10TE0 (bodyOf 0 Try.f10) N x0 x1 x2 x3).run := by kernel_rfl
theorem w10oE0 {N : Nat} {r : Bool} (x0 : List UInt8) (x1 : Int) (x2 : Int) (x3 : List UInt8) (h : law_textIs N x0 x1 x2 x3 = some r) : Ends (Y := TT) EE (w10G N) w10lv w10rs (fun u => u = w10enc r) (w10kE0 (bodyOf 0 Try.f10)) (w10sE0 x0 x1 x2 x3) :=
  tree_use (w10vE0 N x0 x1 x2 x3) (w10nE0 N x0 x1 x2 x3) h (show (w10TE0 (bodyOf 0 Try.f10) N x0 x1 x2 x3).all _ from ⟨fun h => w10oR3 N _ _ _ _ h, fun h => w10oR3 N _ _ _ _ h⟩)
theorem law_textIs_ok {N : Nat} (x0 : List UInt8) (x1 : Int) (x2 : Int) (x3 : List UInt8) {r : Bool} (h : law_textIs N x0 x1 x2 x3 = some r) (ρ : Nat → Nat) : ACalls Try.prog 10 (([.a (.d .str x0), .a (.d (.int .i64) x1), .a (.d (.int .i64) x2), .a (.d .str x3)] : List (TV EE.T)).map (TV.to EE.toEnc ρ)) [] (fun out H => out = .ret ((law_textIs_u r).to EE.toEnc ρ) ∧ H = []) :=
  (fn_ok (bodyOf 0 Try.f10) 19 mixed (w10Gok N) Try.func10 (by kernel_rfl) rfl rfl rfl rfl (w10oE0 x0 x1 x2 x3 h) ρ).mono fun out H h => KPost.ret rfl h
def law_textIs_h (N : Nat) : List (TV EE.T) → PV EE.T
  | [u0, u1, u2, u3] => match argD .str u0, argD (.int .i64) u1, argD (.int .i64) u2, argD .str u3 with
    | some x0, some x1, some x2, some x3 => .opt (law_textIs N x0 x1 x2 x3) law_textIs_u
    | _, _, _, _ => .bad
  | _ => .bad
theorem law_textIs_hok (N : Nat) (us : List (TV EE.T)) : (law_textIs_h N us).ok fun u => ∀ ρ, ACalls Try.prog 10 (us.map (TV.to EE.toEnc ρ)) [] (fun out H => out = .ret (u.to EE.toEnc ρ) ∧ H = []) := by
  unfold law_textIs_h
  split
  · split
    · rename_i h0 h1 h2 h3
      intro z hz ρ; refine acalls_le ?_ (law_textIs_ok _ _ _ _ hz ρ); exact ⟨argD_le h0 ρ, argD_le h1 ρ, argD_le h2 ρ, argD_le h3 ρ, trivial⟩
    · trivial
  · trivial
/-! ### gleaner/gleanerlaw.RecordPacks -/
def law_RecordPacks_u (r : Bool) : TV EE.T := .a (.d .bool r)
def w3enc (r : Bool) : RL EE.T := .ret (law_RecordPacks_u r) []
def w3lv : Lvs := ⟨[(5, ⟨[(3, false), (4, false), (5, false), (6, false)], [], []⟩)], [], [5], [], false, [], []⟩
def w3rs : List ResultVar := [.tmp 2]
def w3G (N : Nat) : Gam EE := ⟨[⟨9, law_recordBegun_h N⟩, ⟨10, law_textIs_h N⟩, ⟨7, ref_CheckRecord_h N⟩, ⟨8, ref_PackOf_h N⟩, ⟨6, record_Pack_h N⟩], EQT, [], []⟩
theorem w3Gok (N : Nat) : GOk Try.prog TT EE (w3G N) := GOk.cons (law_recordBegun_hok N) (GOk.cons (law_textIs_hok N) (GOk.cons (ref_CheckRecord_hok N) (GOk.cons (ref_PackOf_hok N) (GOk.cons (record_Pack_hok N) (GOk.nil EQT_ok)))))
def w3kR5 (c : Code) : List It2 := atR 5 c
def w3sR5 (x3 : List UInt8) (x4 : Int) (x5 : Int) (x6 : List UInt8) : TS EE.T := ⟨26, [(3, .a (.d .str x3)), (4, .a (.d (.int .i64) x4)), (5, .a (.d (.int .i64) x5)), (6, .a (.d .str x6))], [], []⟩
def w3kE0 (c : Code) : List It2 := [.c c]
def w3sE0 (x0 : VRecord) : TS EE.T := ⟨26, [(0, .ag (unpT EE (.nam 5) x0))], [], []⟩
def w3TR5 (c : Code) (N : Nat) (n : Nat) (x3 : List UInt8) (x4 : Int) (x5 : Int) (x6 : List UInt8) : Tree (Lf EE.T × Option Bool) :=
  .bnd (law_recordBegun N) fun z4 =>
  .cond (z4)
  (
    .bnd (law_textIs N x3 x4 x5 x6) fun z5 =>
    .leaf (.done (w3enc z5), some z5))
  (
    .leaf (.done (w3enc false), some false))
theorem w3vR5 (N : Nat) (n : Nat) (x3 : List UInt8) (x4 : Int) (x5 : Int) (x6 : List UInt8) : evM TT EE (w3G N) w3lv w3rs 4000 true (w3kR5 (bodyOf 0 Try.f3)) (w3sR5 x3 x4 x5 x6) = (w3TR5 (bodyOf 0 Try.f3) N n x3 x4 x5 x6).map1 := by kernel_rfl
theorem w3nR5 (N : Nat) (n : Nat) (x3 : List UInt8) (x4 : Int) (x5 : Int) (x6 : List UInt8) : law_RecordPacks_R5 N n x3 x4 x5 x6 = (w3TR5 (bodyOf 0 Try.f3) N n x3 x4 x5 x6).run := by kernel_rfl
theorem w3oR5 {N : Nat} {r : Bool} (n : Nat) (x3 : List UInt8) (x4 : Int) (x5 : Int) (x6 : List UInt8) (h : law_RecordPacks_R5 N n x3 x4 x5 x6 = some r) : Ends (Y := TT) EE (w3G N) w3lv w3rs (fun u => u = w3enc r) (w3kR5 (bodyOf 0 Try.f3)) (w3sR5 x3 x4 x5 x6) :=
  tree_use (w3vR5 N n x3 x4 x5 x6) (w3nR5 N n x3 x4 x5 x6) h (show (w3TR5 (bodyOf 0 Try.f3) N n x3 x4 x5 x6).all _ from fun _ => ⟨fun _ => retp (enc := w3enc) rfl, retp (enc := w3enc) rfl⟩)
def w3TE0 (c : Code) (N : Nat) (x0 : VRecord) : Tree (Lf EE.T × Option Bool) :=
  .bnd (record_Pack N x0) fun z1 =>
  .bnd (ref_CheckRecord N x0) fun z2 =>
  .cond (z2 == 0)
  (
    .bnd (ref_PackOf N x0) fun z3 =>
    .leaf (.go (w3kR5 c) (w3sR5 z1.1 z1.2 z2 z3), law_RecordPacks_R5 N N z1.1 z1.2 z2 z3))
  (
    .leaf (.go (w3kR5 c) (w3sR5 z1.1 z1.2 z2 ([] : List UInt8)), law_RecordPacks_R5 N N z1.1 z1.2 z2 ([] : List UInt8)))
theorem w3vE0 (N : Nat) (x0 : VRecord) : evM TT EE (w3G N) w3lv w3rs 4000 true (w3kE0 (bodyOf 0 Try.f3)) (w3sE0 x0) = (w3TE0 (bodyOf 0 Try.f3) N x0).map1 := by kernel_rfl
theorem w3nE0 (N : Nat) (x0 : VRecord) : law_RecordPacks N x0 = (w3TE0 (bodyOf 0 Try.f3) N x0).run := by kernel_rfl
theorem w3oE0 {N : Nat} {r : Bool} (x0 : VRecord) (h : law_RecordPacks N x0 = some r) : Ends (Y := TT) EE (w3G N) w3lv w3rs (fun u => u = w3enc r) (w3kE0 (bodyOf 0 Try.f3)) (w3sE0 x0) :=
  tree_use (w3vE0 N x0) (w3nE0 N x0) h (show (w3TE0 (bodyOf 0 Try.f3) N x0).all _ from fun _ => fun _ => ⟨fun _ => fun h => w3oR5 N _ _ _ _ h, fun h => w3oR5 N _ _ _ _ h⟩)
theorem law_RecordPacks_ok {N : Nat} (x0 : VRecord) {r : Bool} (h : law_RecordPacks N x0 = some r) (ρ : Nat → Nat) : ACalls Try.prog 3 (([.ag (unpT EE (.nam 5) x0)] : List (TV EE.T)).map (TV.to EE.toEnc ρ)) [] (fun out H => out = .ret ((law_RecordPacks_u r).to EE.toEnc ρ) ∧ H = []) :=
  (fn_ok (bodyOf 0 Try.f3) 26 mixed (w3Gok N) Try.func3 (by kernel_rfl) rfl rfl rfl rfl (w3oE0 x0 h) ρ).mono fun out H h => KPost.ret rfl h
/-! ### gleaner/gleanerlaw.RecordUnpacks -/
/-! ### gleaner/gleanerlaw.RecordBack -/
end Go.Proofs.Ytgmbgbalcndohaa
