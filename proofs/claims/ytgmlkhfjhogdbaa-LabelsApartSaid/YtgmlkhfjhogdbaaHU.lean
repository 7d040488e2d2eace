/- The openers of the arguments' types. Written by gen/openers.py. -/
import Derived.Test.YtgmlkhfjhogdbaaHO
import Derived.Test.YtgmlkhfjhogdbaaHT
namespace Go.Proofs.Ytgmlkhfjhogdbaa
open Go.RowKit Go.Deep Go.ChangeShapes Go.WideShapes Go.ChangeAt P
set_option linter.unusedVariables false
set_option linter.unusedSimpArgs false
theorem Try.own : ownKnob Try.prog.godebug = none := by kernel_rfl
theorem Try.laidOut : laidOutB Try.prog = true := by kernel_rfl
def WF_VLabel (z : VLabel) : Prop := (z.Name.length ≤ reachBytes) ∧ (z.Value.length ≤ reachBytes)
theorem opn_VLabel {H : Type} {enc : TypeId × Value → H} {w : World} {base : Nat} {spare : Nat → Bool} {held : Bool} : Opens enc Try.prog w base spare held 40 enc_VLabel WF_VLabel := by
  intro fuel cs x h hw
  obtain ⟨xs, n, _, rfl, hl, hlen, hf⟩ := DataW.trod_struct Try.underlying40 h
  obtain ⟨z0, w0, r0⟩ := piece Try.underlying40 hlen hf hw 0 _ rfl (opens_str Try.underlying9)
  obtain ⟨z1, w1, r1⟩ := piece Try.underlying40 hlen hf hw 1 _ rfl (opens_str Try.underlying9)
  have hcs : Try.prog.cellsOf 40 = 2 := by kernel_rfl
  exact ⟨⟨z0, z1⟩, ⟨w0, w1⟩, RelAt.whole (RelAt.cat r0 r1 (by rfl)) (by rw [hl, hcs]; rfl)⟩
theorem opn_sl__api_Label {H : Type} {enc : TypeId × Value → H} {w : World} {base : Nat} {spare : Nat → Bool} {held : Bool} : Opens enc Try.prog w base spare held 22 (fun l : List VLabel => [AV.sl false 2 (l.map enc_VLabel)]) (fun l => l.length ≤ reachBytes ∧ ∀ y ∈ l, WF_VLabel y) :=
  opens_slice Try.underlying22 (by kernel_rfl) (by decide) (of_decide_eq_true (by kernel_rfl)) (fun z => by rfl) opn_VLabel
end Go.Proofs.Ytgmlkhfjhogdbaa
