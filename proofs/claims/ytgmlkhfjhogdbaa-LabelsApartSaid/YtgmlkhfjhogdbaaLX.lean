-- slim: written by gen/slim.py from XLX.f.lean.tpl
/- What the labels' laws begin with; their arguments' bounds. -/
import Derived.Test.YtgmlkhfjhogdbaaEW
import Derived.Test.YtgmlkhfjhogdbaaFF1
import Derived.Test.YtgmlkhfjhogdbaaHU
import Derived.Test.YtgmlkhfjhogdbaaK
namespace Go.Proofs.Ytgmlkhfjhogdbaa
open Go.ChangeShapes Go.WideShapes Go.ChangeAt Go.RowKit Go.ChangeMaps P
set_option linter.unusedSimpArgs false
set_option linter.unusedVariables false
theorem wlab_of {l : List VLabel} (h1 : l.length ≤ reachBytes) (h2 : ∀ y ∈ l, WF_VLabel y) : WLab l := ⟨by unfold reachBytes at h1; omega, fun z hz => by
  have := h2 z hz
  unfold WF_VLabel at this
  unfold reachBytes at this
  exact ⟨by omega, by omega⟩⟩
set_option maxRecDepth 100000 in
theorem labelsBegun_is (M : Nat) : law_labelsBegun (M + 300) = some true := by kernel_rfl
theorem labelsBegun_ev : Ev law_labelsBegun true := ⟨300, fun N hN => by
  obtain ⟨M, rfl⟩ : ∃ M, N = M + 300 := ⟨N - 300, by omega⟩
  exact labelsBegun_is M⟩
end Go.Proofs.Ytgmlkhfjhogdbaa
