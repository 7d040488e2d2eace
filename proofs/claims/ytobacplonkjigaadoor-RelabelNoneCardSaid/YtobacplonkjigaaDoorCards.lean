/-
  DERIVED. GIVEN WITH THE SEED: THE CARDS: each row of YtobacplonkjigaaDoorRows.lean that lists a variable, with what it lists TIED to the program's text (the seventh form; the later family's looks); each row that meets fmt, with fmt's text TOLD by the authors' own Lean function (tested against real Go, not proved from fmt's source: count such statements apart). THE CARD IS WHAT COUNTS. Prove the row's statement (the work); the ties are given (YtobacplonkjigaaDoorTie.lean); close each card by the builder's one call (the guide's Derived/Test/ToyasCard.lean, 'card_holds'). Laid BY PROGRAM, IN A SANDBOX (cutbox-door.mjs). By AI agents, Wed Nov 11 2026. No macro, syntax, notation, axiom, sorry.
-/
import Derived.Test.YtobacplonkjigaaDoorRows
import GoSem.ClaimSeven
namespace Go.Proofs.YtobacplonkjigaaDoor
namespace Rows

/-- THE TIED CARD OF 'gleanerlaw.RelabelNone'. -/
def relabelNoneCard : Claim7 := { stood := { row := relabelNoneRow, standIns := [], harness := (true, "825fe311f1ee848ed42fdc12493117286833bcc5e69d48ce5c31657455ffc846"), looks := true }, kinds := [], alts := [], laidByText := true, laidKinds := [.data, .data, .data], laidTests := true, laidLooks := .later }
def RelabelNoneCardSaid : Prop := Claim7.holds Tryd.pinned (.plain (OpenSpec.ofChange relabelNoneSpec)) relabelNoneCard

/-- THE TIED CARD OF 'gleanerlaw.RelabelHolds'. -/
def relabelHoldsCard : Claim7 := { stood := { row := relabelHoldsRow, standIns := [], harness := (true, "825fe311f1ee848ed42fdc12493117286833bcc5e69d48ce5c31657455ffc846"), looks := true }, kinds := [], alts := [], laidByText := true, laidKinds := [.data, .data, .data], laidTests := true, laidLooks := .later }
def RelabelHoldsCardSaid : Prop := Claim7.holds Tryd.pinned (.plain (OpenSpec.ofChange relabelHoldsSpec)) relabelHoldsCard

/-- THE SECOND FORM's CARD OF 'gleanerlaw.RelabelNone'. -/
def relabelNoneUptoCard : Claim7 := { stood := { row := relabelNoneUptoRow, standIns := [], harness := (true, "825fe311f1ee848ed42fdc12493117286833bcc5e69d48ce5c31657455ffc846"), looks := true }, kinds := [], alts := [], laidByText := true, laidKinds := [.data, .data, .data], laidTests := true, laidLooks := .later }
def RelabelNoneUptoCardSaid : Prop := Claim7.holds Tryd.pinned (.plain (OpenSpec.upto relabelNoneSpec)) relabelNoneUptoCard

/-- THE SECOND FORM's CARD OF 'gleanerlaw.RelabelHolds'. -/
def relabelHoldsUptoCard : Claim7 := { stood := { row := relabelHoldsUptoRow, standIns := [], harness := (true, "825fe311f1ee848ed42fdc12493117286833bcc5e69d48ce5c31657455ffc846"), looks := true }, kinds := [], alts := [], laidByText := true, laidKinds := [.data, .data, .data], laidTests := true, laidLooks := .later }
def RelabelHoldsUptoCardSaid : Prop := Claim7.holds Tryd.pinned (.plain (OpenSpec.upto relabelHoldsSpec)) relabelHoldsUptoCard
end Rows
end Go.Proofs.YtobacplonkjigaaDoor
