-- slim: written by gen/slim.py from XLE.lean.tpl
/- The reference's AppendOf, walked over abstract values. -/
import Derived.Test.YtgidmcfnnmheoaaLD
import Derived.Test.YtgidmcfnnmheoaaLR
namespace Go.Proofs.Ytgidmcfnnmheoaa
open Go.RowKit P
set_option linter.unusedSimpArgs false
set_option linter.unusedVariables false
attribute [local irreducible] AS.nf OpV ARun Stk QSem QSemA ACalls EffOp AppOk SrcOk Awp Aops
set_option maxHeartbeats 4000000

/-- Where the rounds of an append stand: at its end, or on the way. -/
def appJ (F log rec : List UInt8) (begun : Bool) : Prop :=
  (begun = true ∧ rec = [] ∧ log = F) ∨ ((begun = false ∨ ¬ rec = []) ∧ ∃ n, needR log rec ≤ n ∧ lgAppR log rec (!begun) n = F)
theorem appJ_len {F log rec : List UInt8} {begun : Bool} (h : appJ F log rec begun) : log.length ≤ F.length := by
  rcases h with ⟨_, _, rfl⟩ | ⟨_, n, _, rfl⟩
  · exact Nat.le_refl _
  · obtain ⟨r, hr⟩ := lgAppR_pre log rec (!begun) n
    rw [hr]; simp
theorem appJ_next {F log rec : List UInt8} {begun : Bool} (h : (begun = false ∨ ¬ rec = []) ∧ ∃ n, needR log rec ≤ n ∧ lgAppR log rec (!begun) n = F) : appJ F (rndL log rec (!begun)) (rec.drop (rndN log rec)) true := by
  obtain ⟨_, n, h1, h2⟩ := h
  have hle : rndN log rec ≤ rec.length := Nat.min_le_left _ _
  cases n with
  | zero => unfold needR at h1; omega
  | succ n =>
    rw [lgAppR_succ] at h2
    by_cases he : rndN log rec = rec.length
    · rw [if_pos he] at h2
      exact .inl ⟨rfl, by rw [he]; exact List.drop_length .., h2⟩
    · rw [if_neg he] at h2
      refine .inr ⟨.inr fun hd => he ?_, n, by have := needR_next (first := !begun) he; omega, h2⟩
      have := congrArg List.length hd
      simp at this
      omega
theorem lgApp_eq (log rec : List UInt8) : appJ (lgApp log rec) log rec false := .inr ⟨.inl rfl, _, needR_le _ _, rfl⟩
end Go.Proofs.Ytgidmcfnnmheoaa
