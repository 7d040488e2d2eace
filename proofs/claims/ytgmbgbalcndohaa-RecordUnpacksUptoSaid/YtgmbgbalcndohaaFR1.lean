-- slim: written by gen/slim.py from XFR1.r.lean.tpl
/- The walks that prove plain functions right, written by gen/tgl.py. -/
import Derived.Test.YtgmbgbalcndohaaFR1p
import Derived.Test.YtgmbgbalcndohaaKR
namespace Go.Proofs.Ytgmbgbalcndohaa
open Go.RowKit P
set_option linter.unusedVariables false
set_option linter.unusedSimpArgs false
set_option maxRecDepth 100000
/-! ### gleaner/gleanerlaw.recordBegun -/
def law_recordBegun_u (r : Bool) : TV EE.T := .a (.d .bool r)
def w9enc (r : Bool) : RL EE.T := .ret (law_recordBegun_u r) []
def w9lv : Lvs := ⟨[], [], [], [], false, [], []⟩
def w9rs : List ResultVar := [.tmp 0]
def w9G (N : Nat) : Gam EE := ⟨[⟨6, record_Pack_h N⟩, ⟨11, record_Unpack_h N⟩], EQT, [], []⟩
theorem w9Gok (N : Nat) : GOk Try.prog TT EE (w9G N) := GOk.cons (record_Pack_hok N) (GOk.cons (record_Unpack_hok N) (GOk.nil EQT_ok))
def w9kE0 (c : Code) : List It2 := [.c c]
def w9sE0 : TS EE.T := ⟨42, [], [], []⟩
def w9TE0 (c : Code) (N : Nat) : Tree (Lf EE.T × Option Bool) :=
  .bnd (record_Pack N ({ Kind := 2, Refs := ([] : List VRef), Points := ([({ Ref := 1, Time := (-1), Bits := 0 } : VPoint)] : List VPoint) } : VRecord)) fun z1 =>
  .bnd (record_Unpack N z1.1) fun z2 =>
  .cond (z1.2 == 0)
  (
    .cond (z2.2 == 0)
    (
      .cond ((z1.1.length : Int) == 12)
      (
        .cond ((z2.1.Points.length : Int) == 1)
        (
          .bnd (idxC z2.1.Points 0) fun z3 =>
          .leaf (.done (w9enc (z3.Time == (-1))), some (z3.Time == (-1))))
        (
          .leaf (.done (w9enc false), some false)))
      (
        .leaf (.done (w9enc false), some false)))
    (
      .leaf (.done (w9enc false), some false)))
  (
    .leaf (.done (w9enc false), some false))
theorem w9vE0 (N : Nat) : evM TT EE (w9G N) w9lv w9rs 4000 true (w9kE0 (bodyOf 0 Try.f9)) (w9sE0) = (w9TE0 (bodyOf 0 Try.f9) N).map1 := by kernel_rfl
theorem w9nE0 (N : Nat) : law_recordBegun N = (w9TE0 (bodyOf 0 Try.f9) N).run := by kernel_rfl
theorem w9oE0 {N : Nat} {r : Bool} (h : law_recordBegun N = some r) : Ends (Y := TT) EE (w9G N) w9lv w9rs (fun u => u = w9enc r) (w9kE0 (bodyOf 0 Try.f9)) (w9sE0) :=
  tree_use (w9vE0 N) (w9nE0 N) h (show (w9TE0 (bodyOf 0 Try.f9) N).all _ from fun _ => fun _ => ⟨⟨⟨⟨fun _ => retp (enc := w9enc) rfl, retp (enc := w9enc) rfl⟩, retp (enc := w9enc) rfl⟩, retp (enc := w9enc) rfl⟩, retp (enc := w9enc) rfl⟩)
theorem law_recordBegun_ok {N : Nat} {r : Bool} (h : law_recordBegun N = some r) (ρ : Nat → Nat) : ACalls Try.prog 9 (([] : List (TV EE.T)).map (TV.to EE.toEnc ρ)) [] (fun out H => out = .ret ((law_recordBegun_u r).to EE.toEnc ρ) ∧ H = []) :=
  (fn_ok (bodyOf 0 Try.f9) 42 mixed (w9Gok N) Try.func9 (by kernel_rfl) rfl rfl rfl rfl (w9oE0 h) ρ).mono fun out H h => KPost.ret rfl h
def law_recordBegun_h (N : Nat) : List (TV EE.T) → PV EE.T
  | [] => .opt (law_recordBegun N) law_recordBegun_u
  | _ => .bad
theorem law_recordBegun_hok (N : Nat) (us : List (TV EE.T)) : (law_recordBegun_h N us).ok fun u => ∀ ρ, ACalls Try.prog 9 (us.map (TV.to EE.toEnc ρ)) [] (fun out H => out = .ret (u.to EE.toEnc ρ) ∧ H = []) := by
  unfold law_recordBegun_h
  split
  · intro z hz ρ; exact law_recordBegun_ok hz ρ
  · trivial
/-! ### gleaner/gleanerlaw.textIs -/
/-! ### gleaner/gleanerlaw.RecordPacks -/
/-! ### gleaner/gleanerlaw.RecordUnpacks -/
def law_RecordUnpacks_u (r : Bool) : TV EE.T := .a (.d .bool r)
def w4enc (r : Bool) : RL EE.T := .ret (law_RecordUnpacks_u r) []
def w4lv : Lvs := ⟨[], [], [], [], false, [], []⟩
def w4rs : List ResultVar := [.tmp 2]
def w4G (N : Nat) : Gam EE := ⟨[⟨9, law_recordBegun_h N⟩, ⟨13, ref_SameRecord_h N⟩, ⟨12, ref_UnpackRecord_h N⟩, ⟨11, record_Unpack_h N⟩], EQT, [], []⟩
theorem w4Gok (N : Nat) : GOk Try.prog TT EE (w4G N) := GOk.cons (law_recordBegun_hok N) (GOk.cons (ref_SameRecord_hok N) (GOk.cons (ref_UnpackRecord_hok N) (GOk.cons (record_Unpack_hok N) (GOk.nil EQT_ok))))
def w4kE0 (c : Code) : List It2 := [.c c]
def w4sE0 (x0 : List UInt8) : TS EE.T := ⟨28, [(0, .a (.d .str x0))], [], []⟩
def w4TE0 (c : Code) (N : Nat) (x0 : List UInt8) : Tree (Lf EE.T × Option Bool) :=
  .bnd (record_Unpack N x0) fun z1 =>
  .bnd (ref_UnpackRecord N x0) fun z2 =>
  .bnd (law_recordBegun N) fun z3 =>
  .cond (z3)
  (
    .cond (z1.2 == z2.2)
    (
      .bnd (ref_SameRecord N z1.1 z2.1) fun z4 =>
      .leaf (.done (w4enc z4), some z4))
    (
      .leaf (.done (w4enc false), some false)))
  (
    .leaf (.done (w4enc false), some false))
theorem w4vE0 (N : Nat) (x0 : List UInt8) : evM TT EE (w4G N) w4lv w4rs 4000 true (w4kE0 (bodyOf 0 Try.f4)) (w4sE0 x0) = (w4TE0 (bodyOf 0 Try.f4) N x0).map1 := by kernel_rfl
theorem w4nE0 (N : Nat) (x0 : List UInt8) : law_RecordUnpacks N x0 = (w4TE0 (bodyOf 0 Try.f4) N x0).run := by kernel_rfl
theorem w4oE0 {N : Nat} {r : Bool} (x0 : List UInt8) (h : law_RecordUnpacks N x0 = some r) : Ends (Y := TT) EE (w4G N) w4lv w4rs (fun u => u = w4enc r) (w4kE0 (bodyOf 0 Try.f4)) (w4sE0 x0) :=
  tree_use (w4vE0 N x0) (w4nE0 N x0) h (show (w4TE0 (bodyOf 0 Try.f4) N x0).all _ from fun _ => fun _ => fun _ => ⟨⟨fun _ => retp (enc := w4enc) rfl, retp (enc := w4enc) rfl⟩, retp (enc := w4enc) rfl⟩)
theorem law_RecordUnpacks_ok {N : Nat} (x0 : List UInt8) {r : Bool} (h : law_RecordUnpacks N x0 = some r) (ρ : Nat → Nat) : ACalls Try.prog 4 (([.a (.d .str x0)] : List (TV EE.T)).map (TV.to EE.toEnc ρ)) [] (fun out H => out = .ret ((law_RecordUnpacks_u r).to EE.toEnc ρ) ∧ H = []) :=
  (fn_ok (bodyOf 0 Try.f4) 28 mixed (w4Gok N) Try.func4 (by kernel_rfl) rfl rfl rfl rfl (w4oE0 x0 h) ρ).mono fun out H h => KPost.ret rfl h
/-! ### gleaner/gleanerlaw.RecordBack -/
end Go.Proofs.Ytgmbgbalcndohaa
