-- slim: written by gen/slim.py from XTC.f.lean.tpl
/- strings.Replacer's build and its replacer's Replace, run without unknowns. -/
import Derived.Test.YtgmlkhfjhogdbaaHK
import Derived.Test.YtgmlkhfjhogdbaaHT
namespace Go.Proofs.Ytgmlkhfjhogdbaa
open Go.RowKit P
set_option linter.unusedVariables false
set_option linter.unusedSimpArgs false
set_option maxRecDepth 100000
def sixT : List (List UInt8) := [[92], [92, 92], [34], [92, 34], [10], [92, 110]]
/-- A replacer that is just being made ready. -/
def repT : List (TA EE.T) := [.d (.int .u32) (0 : Int), .d (.int .i32) (1 : Int), .d (.int .u32) (0 : Int), .raw .nilIface, .d (.sl .str) sixT]
def nilsT (n : Nat) : List (TA EE.T) := List.replicate n (.raw (.slice none 0 0))
def tabT : List (TA EE.T) := nilsT 10 ++ [.own .byte ([92, 110] : List UInt8)] ++ nilsT 23 ++ [.own .byte ([92, 34] : List UInt8)] ++ nilsT 57 ++ [.own .byte ([92, 92] : List UInt8)] ++ nilsT 163 ++ [.bsl 94 0 3 3]
theorem build_Gok : GOk Try.prog TT EE ⟨[], EQT, [], [94]⟩ := GOk.nil EQT_ok
theorem build_run : evC TT EE ⟨[], EQT, [], [94]⟩ ⟨[], [], [], [], false, [], [100000, 11, 94]⟩ [.tmp 2] 3000 [.c (bodyOf 0 Try.f43)] ⟨132, [(0, .a (.box 100000 0))], [(100000, .cs repT)], []⟩ =
    some (.ret (.ifc 109 (.a (.box 11 0))) [(100000, .cs repT), (11, .cs tabT), (94, .row .str ([[10], [34], [92]] : List (List UInt8)))]) := by kernel_rfl
def rep1A : List AV := [.v (.int .u32 0), .v (.int .i32 1), .v (.int .u32 0), .v .nilIface, .sl false 1 (sixT.map (cells EE.toEnc .str))]
def rowA : List AV := [.v (.string (mkB [10])), .v (.string (mkB [34])), .v (.string (mkB [92]))]
def tabA (r : Nat) : List AV := tabT.map (TA.to EE.toEnc fun _ => r)
theorem build_a (B : Nat) : ACalls Try.prog 43 [.v (.pointer (some ⟨B, 0, none⟩))] [(B, rep1A)] (fun out H => ∃ k r, k ≠ r ∧ k ≠ B ∧ r ≠ B ∧ out = .ret (.ifc 109 (.v (.pointer (some ⟨k, 0, none⟩)))) ∧ H = [(B, rep1A), (k, tabA r), (r, rowA)]) := by
  have h := fn_okH (Y := TT) (lv := ⟨[], [], [], [], false, [], [100000, 11, 94]⟩) (rs := [.tmp 2]) (K := fun r => r = (.ret (.ifc 109 (.a (.box 11 0))) [(100000, .cs repT), (11, .cs tabT), (94, .row .str ([[10], [34], [92]] : List (List UInt8)))])) (bodyOf 0 Try.f43) 132 mixed build_Gok Try.func43 (by kernel_rfl) rfl rfl rfl (us := [.a (.box 100000 0)]) rfl (h0 := [(100000, .cs repT)]) (evC_ok _ _ _ _ build_run rfl) (fun _ => B) (fun p hp q hq e => by simp at hp hq; rw [hp, hq])
  refine h.mono ?_
  rintro out H ⟨r, ρ', rfl, ha, h1, h2, h3⟩
  have hB : ρ' 100000 = B := ha 100000 rfl
  refine ⟨ρ' 11, ρ' 94, fun e => ?_, fun e => ?_, fun e => ?_, h1, ?_⟩
  · have := h3 (11, .cs tabT) (by simp) (94, .row .str ([[10], [34], [92]] : List (List UInt8))) (by simp) e
    cases this
  · have := h3 (11, .cs tabT) (by simp) (100000, .cs repT) (by simp) (e.trans hB.symm)
    cases this
  · have := h3 (94, .row .str ([[10], [34], [92]] : List (List UInt8))) (by simp) (100000, .cs repT) (by simp) (e.trans hB.symm)
    cases this
  rw [h2]
  show [(ρ' 100000, _), (ρ' 11, _), (ρ' 94, _)] = _
  rw [hB]
  rfl
end Go.Proofs.Ytgmlkhfjhogdbaa
