-- slim: written by gen/slim.py from XFR1.r.lean.tpl
/- The walks that prove plain functions right, written by gen/tgl.py. -/
import Derived.Test.YtgmbgbalcndohaaFR1p
import Derived.Test.YtgmbgbalcndohaaKR
namespace Go.Proofs.Ytgmbgbalcndohaa
open Go.RowKit P
set_option linter.unusedVariables false
set_option linter.unusedSimpArgs false
set_option maxRecDepth 100000
/-! ### gleaner/gleanerlaw.recordBegun -/
def law_recordBegun_u (r : Bool) : TV EE.T := .a (.d .bool r)
def w9enc (r : Bool) : RL EE.T := .ret (law_recordBegun_u r) []
def w9lv : Lvs := ⟨[], [], [], [], false, [], []⟩
def w9rs : List ResultVar := [.tmp 0]
def w9G (N : Nat) : Gam EE := ⟨[⟨6, record_Pack_h N⟩, ⟨11, record_Unpack_h N⟩], EQT, [], []⟩
theorem w9Gok (N : Nat) : GOk Try.prog TT EE (w9G N) := GOk.cons (record_Pack_hok N) (GOk.cons (record_Unpack_hok N) (GOk.nil EQT_ok))
def w9kE0 (c : Code) : List It2 := [.c c]
def w9sE0 : TS EE.T := ⟨42, [], [], []⟩
def w9TE0 (c : Code) (N : Nat) : Tree (Lf EE.T × Option Bool) :=
  .bnd (record_Pack N ({ Kind := 2, Refs := ([] : List VRef), Points := ([({ Ref := 1, Time := (-1), Bits := 0 } : VPoint)] : List VPoint) } : VRecord)) fun z1 =>
  .bnd (record_Unpack N z1.1) fun z2 =>
  .cond (z1.2 == 0)
  (
    .cond (z2.2 == 0)
    (
      .cond ((z1.1.length : Int) == 12)
      (
        .cond ((z2.1.Points.length : Int) == 1)
        (
          .bnd (idxC z2.1.Points 0) fun z3 =>
          .leaf (.done (w9enc (z3.Time == (-1))), some (z3.Time == (-1))))
        (
          .leaf (.done (w9enc false), some false)))
      (
        .leaf (.done (w9enc false), some false)))
    (
      .leaf (.done (w9enc false), some false)))
  (
    .leaf (.done (w9enc false), some false))
theorem w9vE0 (N : Nat) : evM TT EE (w9G N) w9lv w9rs 4000 true (w9kE0 (bodyOf 0 Try.f9)) (w9sE0) = (w9TE0 (bodyOf 0 Try.f9) N).map1 := by kernel_rfl
theorem w9nE0 (N : Nat) : law_recordBegun N = (w9TE0 (bodyOf 0 Try.f9) N).run := by kernel_rfl
theorem w9oE0 {N : Nat} {r : Bool} (h : law_recordBegun N = some r) : Ends (Y := TT) EE (w9G N) w9lv w9rs (fun u => u = w9enc r) (w9kE0 (bodyOf 0 Try.f9)) (w9sE0) :=
  tree_use (w9vE0 N) (w9nE0 N) h (show (w9TE0 (bodyOf 0 Try.f9) N).all _ from fun _ => fun _ => ⟨⟨⟨⟨fun _ => retp (enc := w9enc) rfl, retp (enc := w9enc) rfl⟩, retp (enc := w9enc) rfl⟩, retp (enc := w9enc) rfl⟩, retp (enc := w9enc) rfl⟩)
theorem law_recordBegun_ok {N : Nat} {r : Bool} (h : law_recordBegun N = some r) (ρ : Nat → Nat) : ACalls Try.prog 9 (([] : List (TV EE.T)).map (TV.to EE.toEnc ρ)) [] (fun out H => out = .ret ((law_recordBegun_u r).to EE.toEnc ρ) ∧ H = []) :=
  (fn_ok (bodyOf 0 Try.f9) 42 mixed (w9Gok N) Try.func9 (by kernel_rfl) rfl rfl rfl rfl (w9oE0 h) ρ).mono fun out H h => KPost.ret rfl h
def law_recordBegun_h (N : Nat) : List (TV EE.T) → PV EE.T
  | [] => .opt (law_recordBegun N) law_recordBegun_u
  | _ => .bad
theorem law_recordBegun_hok (N : Nat) (us : List (TV EE.T)) : (law_recordBegun_h N us).ok fun u => ∀ ρ, ACalls Try.prog 9 (us.map (TV.to EE.toEnc ρ)) [] (fun out H => out = .ret (u.to EE.toEnc ρ) ∧ H = []) := by
  unfold law_recordBegun_h
  split
  · intro z hz ρ; exact law_recordBegun_ok hz ρ
  · trivial
/-! ### gleaner/gleanerlaw.textIs -/
/-! ### gleaner/gleanerlaw.RecordPacks -/
/-! ### gleaner/gleanerlaw.RecordUnpacks -/
/-! ### gleaner/gleanerlaw.RecordBack -/
def law_RecordBack_u (r : Bool) : TV EE.T := .a (.d .bool r)
def w5enc (r : Bool) : RL EE.T := .ret (law_RecordBack_u r) []
def w5lv : Lvs := ⟨[(8, ⟨[(1, false)], [], []⟩)], [], [8], [], false, [], []⟩
def w5rs : List ResultVar := [.tmp 4]
def w5G (N : Nat) : Gam EE := ⟨[⟨9, law_recordBegun_h N⟩, ⟨13, ref_SameRecord_h N⟩, ⟨6, record_Pack_h N⟩, ⟨11, record_Unpack_h N⟩], EQT, [], []⟩
theorem w5Gok (N : Nat) : GOk Try.prog TT EE (w5G N) := GOk.cons (law_recordBegun_hok N) (GOk.cons (ref_SameRecord_hok N) (GOk.cons (record_Pack_hok N) (GOk.cons (record_Unpack_hok N) (GOk.nil EQT_ok))))
def w5kR8 (c : Code) : List It2 := atR 8 c
def w5sR8 (x1 : List UInt8) : TS EE.T := ⟨52, [(1, .a (.d .str x1))], [], []⟩
def w5kE0 (c : Code) : List It2 := [.c c]
def w5sE0 (x0 : VRecord) (x1 : List UInt8) : TS EE.T := ⟨52, [(0, .ag (unpT EE (.nam 5) x0)), (1, .a (.d .str x1))], [], []⟩
def w5TR8 (c : Code) (N : Nat) (n : Nat) (x1 : List UInt8) : Tree (Lf EE.T × Option Bool) :=
  .bnd (record_Unpack N x1) fun z5 =>
  .cond (z5.2 != 0)
  (
    .leaf (.done (w5enc true), some true))
  (
    .bnd (record_Pack N z5.1) fun z6 =>
    .cond (z6.2 == 0)
    (
      .leaf (.done (w5enc (decide (z6.1 = x1))), some (decide (z6.1 = x1))))
    (
      .leaf (.done (w5enc false), some false)))
theorem w5vR8 (N : Nat) (n : Nat) (x1 : List UInt8) : evM TT EE (w5G N) w5lv w5rs 4000 true (w5kR8 (bodyOf 0 Try.f5)) (w5sR8 x1) = (w5TR8 (bodyOf 0 Try.f5) N n x1).map1 := by kernel_rfl
theorem w5nR8 (N : Nat) (n : Nat) (x1 : List UInt8) : law_RecordBack_R8 N n x1 = (w5TR8 (bodyOf 0 Try.f5) N n x1).run := by kernel_rfl
theorem w5oR8 {N : Nat} {r : Bool} (n : Nat) (x1 : List UInt8) (h : law_RecordBack_R8 N n x1 = some r) : Ends (Y := TT) EE (w5G N) w5lv w5rs (fun u => u = w5enc r) (w5kR8 (bodyOf 0 Try.f5)) (w5sR8 x1) :=
  tree_use (w5vR8 N n x1) (w5nR8 N n x1) h (show (w5TR8 (bodyOf 0 Try.f5) N n x1).all _ from fun _ => ⟨retp (enc := w5enc) rfl, fun _ => ⟨retp (enc := w5enc) rfl, retp (enc := w5enc) rfl⟩⟩)
def w5TE0 (c : Code) (N : Nat) (x0 : VRecord) (x1 : List UInt8) : Tree (Lf EE.T × Option Bool) :=
  .bnd (law_recordBegun N) fun z1 =>
  .cond (!z1)
  (
    .leaf (.done (w5enc false), some false))
  (
    .bnd (record_Pack N x0) fun z2 =>
    .cond (z2.2 == 0)
    (
      .bnd (record_Unpack N z2.1) fun z3 =>
      .cond (z3.2 != 0)
      (
        .leaf (.done (w5enc false), some false))
      (
        .bnd (ref_SameRecord N z3.1 x0) fun z4 =>
        .cond (!z4)
        (
          .leaf (.done (w5enc false), some false))
        (
          .leaf (.go (w5kR8 c) (w5sR8 x1), law_RecordBack_R8 N N x1))))
    (
      .leaf (.go (w5kR8 c) (w5sR8 x1), law_RecordBack_R8 N N x1)))
theorem w5vE0 (N : Nat) (x0 : VRecord) (x1 : List UInt8) : evM TT EE (w5G N) w5lv w5rs 4000 true (w5kE0 (bodyOf 0 Try.f5)) (w5sE0 x0 x1) = (w5TE0 (bodyOf 0 Try.f5) N x0 x1).map1 := by kernel_rfl
theorem w5nE0 (N : Nat) (x0 : VRecord) (x1 : List UInt8) : law_RecordBack N x0 x1 = (w5TE0 (bodyOf 0 Try.f5) N x0 x1).run := by kernel_rfl
theorem w5oE0 {N : Nat} {r : Bool} (x0 : VRecord) (x1 : List UInt8) (h : law_RecordBack N x0 x1 = some r) : Ends (Y := TT) EE (w5G N) w5lv w5rs (fun u => u = w5enc r) (w5kE0 (bodyOf 0 Try.f5)) (w5sE0 x0 x1) :=
  tree_use (w5vE0 N x0 x1) (w5nE0 N x0 x1) h (show (w5TE0 (bodyOf 0 Try.f5) N x0 x1).all _ from fun _ => ⟨retp (enc := w5enc) rfl, fun _ => ⟨fun _ => ⟨retp (enc := w5enc) rfl, fun _ => ⟨retp (enc := w5enc) rfl, fun h => w5oR8 N _ h⟩⟩, fun h => w5oR8 N _ h⟩⟩)
theorem law_RecordBack_ok {N : Nat} (x0 : VRecord) (x1 : List UInt8) {r : Bool} (h : law_RecordBack N x0 x1 = some r) (ρ : Nat → Nat) : ACalls Try.prog 5 (([.ag (unpT EE (.nam 5) x0), .a (.d .str x1)] : List (TV EE.T)).map (TV.to EE.toEnc ρ)) [] (fun out H => out = .ret ((law_RecordBack_u r).to EE.toEnc ρ) ∧ H = []) :=
  (fn_ok (bodyOf 0 Try.f5) 52 mixed (w5Gok N) Try.func5 (by kernel_rfl) rfl rfl rfl rfl (w5oE0 x0 x1 h) ρ).mono fun out H h => KPost.ret rfl h
end Go.Proofs.Ytgmbgbalcndohaa
