/- labels.Text, as a callee: of the two labels that the laws begin with. -/
import Derived.Test.YtbpgpfigndlohaaGreatTG
namespace Go.Proofs.YtbpgpfigndlohaaGreat
open Go.RowKit P
set_option linter.unusedVariables false
def isTwo : List VLabel → Bool
  | [a, b] => decide (a.Name = nameB) && decide (a.Value = upB) && (decide (b.Name = jobB) && decide (b.Value = ([120] : List UInt8)))
  | _ => false
theorem isTwo_eq {l : List VLabel} (h : isTwo l = true) : l = twoL := by
  unfold isTwo at h
  split at h
  · rename_i a b
    simp only [Bool.and_eq_true, decide_eq_true_eq] at h
    obtain ⟨⟨h1, h2⟩, h3, h4⟩ := h
    obtain ⟨a1, a2⟩ := a
    obtain ⟨b1, b2⟩ := b
    simp only at h1 h2 h3 h4
    subst h1 h2 h3 h4
    rfl
  · cases h
def labels_Text (N : Nat) (l : List VLabel) : Option (List UInt8 × Int) := match isTwo l with
  | true => some (upB ++ [123] ++ partB ++ [125], 0)
  | false => none
def labels_Text_u (r : List UInt8 × Int) : TV EE.T := .tu [.a (.d .str r.1), .a (.d (.int .i64) r.2)]
def labels_Text_h (N : Nat) : List (TV EE.T) → PV EE.T
  | [u0] => match argD (.sl (.nam 2)) u0 with
    | some x0 => .opt (labels_Text N x0) labels_Text_u
    | _ => .bad
  | _ => .bad
theorem labels_Text_hok (N : Nat) (us : List (TV EE.T)) : (labels_Text_h N us).ok fun u => ∀ ρ, ACalls Tryz.prog 11 (us.map (TV.to EE.toEnc ρ)) [] (fun out H => out = .ret (u.to EE.toEnc ρ) ∧ H = []) := by
  unfold labels_Text_h
  split
  · split
    · rename_i u0 x0 h0
      intro z hz ρ
      unfold labels_Text at hz
      split at hz
      · rename_i hb
        have := isTwo_eq hb
        subst this
        cases hz
        refine acalls_le (us' := ([.a (.d (.sl (.nam 2)) twoL)] : List (TV EE.T))) ⟨argD_le h0 ρ, trivial⟩ ?_
        exact text_two
      · cases hz
    · trivial
  · trivial
end Go.Proofs.YtbpgpfigndlohaaGreat
