/- What the shards' laws begin with; their arguments' bounds. -/
import Derived.Test.YtofidfkojmbdoaaEW
import Derived.Test.YtofidfkojmbdoaaHU
namespace Go.Proofs.Ytofidfkojmbdoaa
open Go.RowKit P
set_option linter.unusedSimpArgs false
set_option linter.unusedVariables false
def I64 (n : Int) : Prop := -9223372036854775808 ≤ n ∧ n < 9223372036854775808
theorem i64_of_wf {x : Int} (h : (Lit.int .i64 x).wf = true) : I64 x := by
  simp [Lit.wf, IntKind.min, IntKind.max, IntKind.signed, IntKind.bits] at h
  exact ⟨by omega, by omega⟩
theorem wlab_of {l : List VLabel} (h1 : l.length ≤ reachBytes) (h2 : ∀ y ∈ l, WF_VLabel y) : WLab l := ⟨by unfold reachBytes at h1; omega, fun z hz => by
  have := h2 z hz
  unfold WF_VLabel at this
  unfold reachBytes at this
  exact ⟨by omega, by omega⟩⟩
theorem witem_of {z : VItem} (h : WF_VItem z) : WItem z := wlab_of h.2.1.1 h.2.1.2
theorem wshard_of {s : VShard} (h : WF_VShard s) : WShard s := ⟨by have := h.1.1; unfold reachBytes at this; omega, fun z hz => witem_of (h.1.2 z hz)⟩
set_option maxRecDepth 100000 in
theorem shardBegun_is (M : Nat) : law_shardBegun (M + 300) = some true := by kernel_rfl
theorem shardBegun_ev : Ev law_shardBegun true := ⟨300, fun N hN => by
  obtain ⟨M, rfl⟩ : ∃ M, N = M + 300 := ⟨N - 300, by omega⟩
  exact shardBegun_is M⟩
end Go.Proofs.Ytofidfkojmbdoaa
