/- The openers of the arguments' types. Written by gen/openers.py. -/
import Derived.Test.YtmoehipmpchofaaHO
import Derived.Test.YtmoehipmpchofaaHT
namespace Go.Proofs.Ytmoehipmpchofaa
open Go.RowKit Go.Deep Go.ChangeShapes Go.WideShapes Go.ChangeAt P
set_option linter.unusedVariables false
set_option linter.unusedSimpArgs false
theorem Try.own : ownKnob Try.prog.godebug = none := by kernel_rfl
theorem Try.laidOut : laidOutB Try.prog = true := by kernel_rfl
def WF_VLabel (z : VLabel) : Prop := (z.Name.length ≤ reachBytes) ∧ (z.Value.length ≤ reachBytes)
theorem opn_VLabel {H : Type} {enc : TypeId × Value → H} {w : World} {base : Nat} {spare : Nat → Bool} {held : Bool} : Opens enc Try.prog w base spare held 64 enc_VLabel WF_VLabel := by
  intro fuel cs x h hw
  obtain ⟨xs, n, _, rfl, hl, hlen, hf⟩ := DataW.trod_struct Try.underlying64 h
  obtain ⟨z0, w0, r0⟩ := piece Try.underlying64 hlen hf hw 0 _ rfl (opens_str Try.underlying9)
  obtain ⟨z1, w1, r1⟩ := piece Try.underlying64 hlen hf hw 1 _ rfl (opens_str Try.underlying9)
  have hcs : Try.prog.cellsOf 64 = 2 := by kernel_rfl
  exact ⟨⟨z0, z1⟩, ⟨w0, w1⟩, RelAt.whole (RelAt.cat r0 r1 (by rfl)) (by rw [hl, hcs]; rfl)⟩
theorem opn_sl__api_Label {H : Type} {enc : TypeId × Value → H} {w : World} {base : Nat} {spare : Nat → Bool} {held : Bool} : Opens enc Try.prog w base spare held 31 (fun l : List VLabel => [AV.sl false 2 (l.map enc_VLabel)]) (fun l => l.length ≤ reachBytes ∧ ∀ y ∈ l, WF_VLabel y) :=
  opens_slice Try.underlying31 (by kernel_rfl) (by decide) (of_decide_eq_true (by kernel_rfl)) (fun z => by rfl) opn_VLabel
def WF_VSample (z : VSample) : Prop := ((Lit.int .i64 z.Time).wf = true) ∧ ((Lit.int .u64 z.Bits).wf = true)
theorem opn_VSample {H : Type} {enc : TypeId × Value → H} {w : World} {base : Nat} {spare : Nat → Bool} {held : Bool} : Opens enc Try.prog w base spare held 47 enc_VSample WF_VSample := by
  intro fuel cs x h hw
  obtain ⟨xs, n, _, rfl, hl, hlen, hf⟩ := DataW.trod_struct Try.underlying47 h
  obtain ⟨z0, w0, r0⟩ := piece Try.underlying47 hlen hf hw 0 _ rfl (opens_int Try.underlying3)
  obtain ⟨z1, w1, r1⟩ := piece Try.underlying47 hlen hf hw 1 _ rfl (opens_int Try.underlying45)
  have hcs : Try.prog.cellsOf 47 = 2 := by kernel_rfl
  exact ⟨⟨z0, z1⟩, ⟨w0, w1⟩, RelAt.whole (RelAt.cat r0 r1 (by rfl)) (by rw [hl, hcs]; rfl)⟩
theorem opn_sl__api_Sample {H : Type} {enc : TypeId × Value → H} {w : World} {base : Nat} {spare : Nat → Bool} {held : Bool} : Opens enc Try.prog w base spare held 32 (fun l : List VSample => [AV.sl false 2 (l.map enc_VSample)]) (fun l => l.length ≤ reachBytes ∧ ∀ y ∈ l, WF_VSample y) :=
  opens_slice Try.underlying32 (by kernel_rfl) (by decide) (of_decide_eq_true (by kernel_rfl)) (fun z => by rfl) opn_VSample
def WF_VSeries (z : VSeries) : Prop := (z.Labels.length ≤ reachBytes ∧ ∀ y ∈ z.Labels, WF_VLabel y) ∧ (z.Samples.length ≤ reachBytes ∧ ∀ y ∈ z.Samples, WF_VSample y)
theorem opn_VSeries {H : Type} {enc : TypeId × Value → H} {w : World} {base : Nat} {spare : Nat → Bool} {held : Bool} : Opens enc Try.prog w base spare held 38 enc_VSeries WF_VSeries := by
  intro fuel cs x h hw
  obtain ⟨xs, n, _, rfl, hl, hlen, hf⟩ := DataW.trod_struct Try.underlying38 h
  obtain ⟨z0, w0, r0⟩ := piece Try.underlying38 hlen hf hw 0 _ rfl opn_sl__api_Label
  obtain ⟨z1, w1, r1⟩ := piece Try.underlying38 hlen hf hw 1 _ rfl opn_sl__api_Sample
  have hcs : Try.prog.cellsOf 38 = 2 := by kernel_rfl
  exact ⟨⟨z0, z1⟩, ⟨w0, w1⟩, RelAt.whole (RelAt.cat r0 r1 (by rfl)) (by rw [hl, hcs]; rfl)⟩
theorem opn_sl__api_Series {H : Type} {enc : TypeId × Value → H} {w : World} {base : Nat} {spare : Nat → Bool} {held : Bool} : Opens enc Try.prog w base spare held 22 (fun l : List VSeries => [AV.sl false 2 (l.map enc_VSeries)]) (fun l => l.length ≤ reachBytes ∧ ∀ y ∈ l, WF_VSeries y) :=
  opens_slice Try.underlying22 (by kernel_rfl) (by decide) (of_decide_eq_true (by kernel_rfl)) (fun z => by rfl) opn_VSeries
end Go.Proofs.Ytmoehipmpchofaa
