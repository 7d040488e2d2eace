/- What is handed the empty text, run without unknowns. -/
import Derived.Test.YtmoehipmpchofaaHK
import Derived.Test.YtmoehipmpchofaaFK01
namespace Go.Proofs.Ytmoehipmpchofaa
open Go.RowKit P
set_option linter.unusedVariables false
set_option linter.unusedSimpArgs false
set_option maxRecDepth 100000
theorem nil_Gok : GOk Try.prog TT EE ⟨[], EQT, [], []⟩ := GOk.nil EQT_ok
/-! ### wire.fields of the empty text -/
theorem fields_run : evC TT EE ⟨[], EQT, [], []⟩ ⟨[], [], [], [], false, [], []⟩ [] 3000 [.c (bodyOf 0 Try.f77)] ⟨60, [(0, .a (.d .str ([] : List UInt8))), (1, .a (.fnb 78 [100000]))], [], []⟩ =
    some (.ret (.tu []) []) := by kernel_rfl
theorem fields_a (kt : Nat) : ACalls Try.prog 77 [.v (.string (mkB [])), .fn 78 [.v (.pointer (some ⟨kt, 0, none⟩))]] [] (fun out H => out = .ret (.tu []) ∧ H = []) := by
  have h := fn_okH (Y := TT) (lv := ⟨[], [], [], [], false, [], []⟩) (rs := []) (K := fun r => r = (.ret (.tu []) [])) (bodyOf 0 Try.f77) 60 mixed nil_Gok Try.func77 (by kernel_rfl) rfl rfl rfl (us := [.a (.d .str ([] : List UInt8)), .a (.fnb 78 [100000])]) rfl (h0 := []) (evC_ok _ _ _ _ fields_run rfl) (fun _ => kt) (fun p hp q hq e => by cases hp)
  exact h.mono fun out H hp => hp.ret rfl
/-! ### wire.check of no series -/
theorem wcheck_is : wire_check 100 [] = some 0 := by kernel_rfl
theorem wcheck_a : ACalls Try.prog 43 [.sl false 2 []] [] (fun out H => out = .ret (.v (.int .i64 0)) ∧ H = []) :=
  wire_check_ok [] wcheck_is id
end Go.Proofs.Ytmoehipmpchofaa
