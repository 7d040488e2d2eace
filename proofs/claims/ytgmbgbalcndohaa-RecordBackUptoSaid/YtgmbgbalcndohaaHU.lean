/- The openers of the arguments' types. Written by gen/openers.py. -/
import Derived.Test.YtgmbgbalcndohaaHO
import Derived.Test.YtgmbgbalcndohaaHT
namespace Go.Proofs.Ytgmbgbalcndohaa
open Go.RowKit Go.Deep Go.ChangeShapes Go.WideShapes Go.ChangeAt P
set_option linter.unusedVariables false
set_option linter.unusedSimpArgs false
theorem Try.own : ownKnob Try.prog.godebug = none := by kernel_rfl
theorem Try.laidOut : laidOutB Try.prog = true := by kernel_rfl
def WF_VLabel (z : VLabel) : Prop := (z.Name.length ≤ reachBytes) ∧ (z.Value.length ≤ reachBytes)
theorem opn_VLabel {H : Type} {enc : TypeId × Value → H} {w : World} {base : Nat} {spare : Nat → Bool} {held : Bool} : Opens enc Try.prog w base spare held 45 enc_VLabel WF_VLabel := by
  intro fuel cs x h hw
  obtain ⟨xs, n, _, rfl, hl, hlen, hf⟩ := DataW.trod_struct Try.underlying45 h
  obtain ⟨z0, w0, r0⟩ := piece Try.underlying45 hlen hf hw 0 _ rfl (opens_str Try.underlying9)
  obtain ⟨z1, w1, r1⟩ := piece Try.underlying45 hlen hf hw 1 _ rfl (opens_str Try.underlying9)
  have hcs : Try.prog.cellsOf 45 = 2 := by kernel_rfl
  exact ⟨⟨z0, z1⟩, ⟨w0, w1⟩, RelAt.whole (RelAt.cat r0 r1 (by rfl)) (by rw [hl, hcs]; rfl)⟩
theorem opn_sl__api_Label {H : Type} {enc : TypeId × Value → H} {w : World} {base : Nat} {spare : Nat → Bool} {held : Bool} : Opens enc Try.prog w base spare held 41 (fun l : List VLabel => [AV.sl false 2 (l.map enc_VLabel)]) (fun l => l.length ≤ reachBytes ∧ ∀ y ∈ l, WF_VLabel y) :=
  opens_slice Try.underlying41 (by kernel_rfl) (by decide) (of_decide_eq_true (by kernel_rfl)) (fun z => by rfl) opn_VLabel
def WF_VRef (z : VRef) : Prop := ((Lit.int .i64 z.Ref).wf = true) ∧ (z.Labels.length ≤ reachBytes ∧ ∀ y ∈ z.Labels, WF_VLabel y)
theorem opn_VRef {H : Type} {enc : TypeId × Value → H} {w : World} {base : Nat} {spare : Nat → Bool} {held : Bool} : Opens enc Try.prog w base spare held 43 enc_VRef WF_VRef := by
  intro fuel cs x h hw
  obtain ⟨xs, n, _, rfl, hl, hlen, hf⟩ := DataW.trod_struct Try.underlying43 h
  obtain ⟨z0, w0, r0⟩ := piece Try.underlying43 hlen hf hw 0 _ rfl (opens_int Try.underlying3)
  obtain ⟨z1, w1, r1⟩ := piece Try.underlying43 hlen hf hw 1 _ rfl opn_sl__api_Label
  have hcs : Try.prog.cellsOf 43 = 2 := by kernel_rfl
  exact ⟨⟨z0, z1⟩, ⟨w0, w1⟩, RelAt.whole (RelAt.cat r0 r1 (by rfl)) (by rw [hl, hcs]; rfl)⟩
theorem opn_sl__api_Ref {H : Type} {enc : TypeId × Value → H} {w : World} {base : Nat} {spare : Nat → Bool} {held : Bool} : Opens enc Try.prog w base spare held 22 (fun l : List VRef => [AV.sl false 2 (l.map enc_VRef)]) (fun l => l.length ≤ reachBytes ∧ ∀ y ∈ l, WF_VRef y) :=
  opens_slice Try.underlying22 (by kernel_rfl) (by decide) (of_decide_eq_true (by kernel_rfl)) (fun z => by rfl) opn_VRef
def WF_VPoint (z : VPoint) : Prop := ((Lit.int .i64 z.Ref).wf = true) ∧ ((Lit.int .i64 z.Time).wf = true) ∧ ((Lit.int .u64 z.Bits).wf = true)
theorem opn_VPoint {H : Type} {enc : TypeId × Value → H} {w : World} {base : Nat} {spare : Nat → Bool} {held : Bool} : Opens enc Try.prog w base spare held 49 enc_VPoint WF_VPoint := by
  intro fuel cs x h hw
  obtain ⟨xs, n, _, rfl, hl, hlen, hf⟩ := DataW.trod_struct Try.underlying49 h
  obtain ⟨z0, w0, r0⟩ := piece Try.underlying49 hlen hf hw 0 _ rfl (opens_int Try.underlying3)
  obtain ⟨z1, w1, r1⟩ := piece Try.underlying49 hlen hf hw 1 _ rfl (opens_int Try.underlying3)
  obtain ⟨z2, w2, r2⟩ := piece Try.underlying49 hlen hf hw 2 _ rfl (opens_int Try.underlying47)
  have hcs : Try.prog.cellsOf 49 = 3 := by kernel_rfl
  exact ⟨⟨z0, z1, z2⟩, ⟨w0, w1, w2⟩, RelAt.whole (RelAt.cat (RelAt.cat r0 r1 (by rfl)) r2 (by rfl)) (by rw [hl, hcs]; rfl)⟩
theorem opn_sl__api_Point {H : Type} {enc : TypeId × Value → H} {w : World} {base : Nat} {spare : Nat → Bool} {held : Bool} : Opens enc Try.prog w base spare held 23 (fun l : List VPoint => [AV.sl false 3 (l.map enc_VPoint)]) (fun l => l.length ≤ reachBytes ∧ ∀ y ∈ l, WF_VPoint y) :=
  opens_slice Try.underlying23 (by kernel_rfl) (by decide) (of_decide_eq_true (by kernel_rfl)) (fun z => by rfl) opn_VPoint
def WF_VRecord (z : VRecord) : Prop := ((Lit.int .i64 z.Kind).wf = true) ∧ (z.Refs.length ≤ reachBytes ∧ ∀ y ∈ z.Refs, WF_VRef y) ∧ (z.Points.length ≤ reachBytes ∧ ∀ y ∈ z.Points, WF_VPoint y)
theorem opn_VRecord {H : Type} {enc : TypeId × Value → H} {w : World} {base : Nat} {spare : Nat → Bool} {held : Bool} : Opens enc Try.prog w base spare held 25 enc_VRecord WF_VRecord := by
  intro fuel cs x h hw
  obtain ⟨xs, n, _, rfl, hl, hlen, hf⟩ := DataW.trod_struct Try.underlying25 h
  obtain ⟨z0, w0, r0⟩ := piece Try.underlying25 hlen hf hw 0 _ rfl (opens_int Try.underlying3)
  obtain ⟨z1, w1, r1⟩ := piece Try.underlying25 hlen hf hw 1 _ rfl opn_sl__api_Ref
  obtain ⟨z2, w2, r2⟩ := piece Try.underlying25 hlen hf hw 2 _ rfl opn_sl__api_Point
  have hcs : Try.prog.cellsOf 25 = 3 := by kernel_rfl
  exact ⟨⟨z0, z1, z2⟩, ⟨w0, w1, w2⟩, RelAt.whole (RelAt.cat (RelAt.cat r0 r1 (by rfl)) r2 (by rfl)) (by rw [hl, hcs]; rfl)⟩
end Go.Proofs.Ytgmbgbalcndohaa
