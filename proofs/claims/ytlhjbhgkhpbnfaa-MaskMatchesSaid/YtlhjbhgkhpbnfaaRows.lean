/-
  No cell of these rows narrows 'for every input' (looked for: loops, veiled, ifaces, maps, wideKeys, modest, calm, conditions, laid).
  DERIVED. THE GIVEN ROWS OF THIS SEAT. 6 by the template 'for every input the law returns true; each argument reads behind the call as it read before'; 0 by the template 'total and deterministic' (their statements: YtlhjbhgkhpbnfaaTotals.lean).
  GIVEN WITH THE SEED: the statements are not yours to turn. If you find one false, say at which input.
  Laid BY PROGRAM, IN A SANDBOX (cutbox-rows.mjs): the forced cells as the released guide's own fill.sh prints them over the translation 7baddfe5b75566dc… (all of the seat's roots in one cut). By AI agents, Wed Nov 11 2026. No macro, syntax, notation, axiom, sorry.
-/
import Derived.Test.YtlhjbhgkhpbnfaaChecked
import GoSem.Claim
import GoSem.ClaimJoined
import GoSem.ClaimMapViews
import Derived.JoinedTies
import Derived.KernelRfl
namespace Go.Proofs.Ytlhjbhgkhpbnfaa
/- THE CELL 'sum', in the pinned program and in every row, IS THE sha256 OF THE DUMP (.gsa) THAT YtlhjbhgkhpbnfaaProg.lean LOADS. Nothing in Lean hashes anything: it is a label: what it is worth is what the hold of that sum in a sandbox is worth. -/
noncomputable def Try.pinned : Pinned := { name := "ytlhjbhgkhpbnfaa", sum := "7baddfe5b75566dc57bb4948ccbf4be6ea0a498b24ebb79346a5acf4b84dca4f", checked := Try.checked }
namespace Rows
def none {H : Type} : Left H := { results := [], args := [] }

/-- 'gleanerlaw.MaskMatches': WHATEVER THE INPUT: true; the input reads as it did. -/
def maskMatchesSpec : ChangeSpec := { name := "maskMatches", fn := fun _ => fun
  | [d1, d2] => { results := [.lit (.bool true)], args := [d1, d2] }
  | _ => none }
def maskMatchesRow : OpenClaim := { program := "ytlhjbhgkhpbnfaa", sum := "7baddfe5b75566dc57bb4948ccbf4be6ea0a498b24ebb79346a5acf4b84dca4f", func := "gleaner/gleanerlaw.MaskMatches", spec := "maskMatches", inPlace := ["internal/bytealg.IndexByteString", "internal/abi.NoEscape"], unfollowed := true, recurses := true, apart := false }
def MaskMatchesSaid : Prop := maskMatchesRow.holds Try.pinned (OpenSpec.ofChange maskMatchesSpec)

/-- ITS FALSE NEIGHBOUR: 'it returns false'. Refute it at one input. -/
def maskMatchesWrong : ChangeSpec := { name := "maskMatches", fn := fun _ => fun
  | [d1, d2] => { results := [.lit (.bool false)], args := [d1, d2] }
  | _ => none }
def MaskMatchesWrongFalsely : Prop := maskMatchesRow.holds Try.pinned (OpenSpec.ofChange maskMatchesWrong)

/-- 'gleanerlaw.MaskExpands': WHATEVER THE INPUT: true; the input reads as it did. -/
def maskExpandsSpec : ChangeSpec := { name := "maskExpands", fn := fun _ => fun
  | [d1, d2, d3] => { results := [.lit (.bool true)], args := [d1, d2, d3] }
  | _ => none }
def maskExpandsRow : OpenClaim := { program := "ytlhjbhgkhpbnfaa", sum := "7baddfe5b75566dc57bb4948ccbf4be6ea0a498b24ebb79346a5acf4b84dca4f", func := "gleaner/gleanerlaw.MaskExpands", spec := "maskExpands", inPlace := ["internal/bytealg.IndexByteString", "internal/abi.NoEscape"], unfollowed := true, recurses := true, apart := false }
def MaskExpandsSaid : Prop := maskExpandsRow.holds Try.pinned (OpenSpec.ofChange maskExpandsSpec)

/-- ITS FALSE NEIGHBOUR: 'it returns false'. Refute it at one input. -/
def maskExpandsWrong : ChangeSpec := { name := "maskExpands", fn := fun _ => fun
  | [d1, d2, d3] => { results := [.lit (.bool false)], args := [d1, d2, d3] }
  | _ => none }
def MaskExpandsWrongFalsely : Prop := maskExpandsRow.holds Try.pinned (OpenSpec.ofChange maskExpandsWrong)

/-- 'gleanerlaw.MaskPlain': WHATEVER THE INPUT: true; the input reads as it did. -/
def maskPlainSpec : ChangeSpec := { name := "maskPlain", fn := fun _ => fun
  | [d1, d2] => { results := [.lit (.bool true)], args := [d1, d2] }
  | _ => none }
def maskPlainRow : OpenClaim := { program := "ytlhjbhgkhpbnfaa", sum := "7baddfe5b75566dc57bb4948ccbf4be6ea0a498b24ebb79346a5acf4b84dca4f", func := "gleaner/gleanerlaw.MaskPlain", spec := "maskPlain", inPlace := ["internal/bytealg.IndexByteString", "internal/abi.NoEscape"], unfollowed := true, recurses := true, apart := false }
def MaskPlainSaid : Prop := maskPlainRow.holds Try.pinned (OpenSpec.ofChange maskPlainSpec)

/-- ITS FALSE NEIGHBOUR: 'it returns false'. Refute it at one input. -/
def maskPlainWrong : ChangeSpec := { name := "maskPlain", fn := fun _ => fun
  | [d1, d2] => { results := [.lit (.bool false)], args := [d1, d2] }
  | _ => none }
def MaskPlainWrongFalsely : Prop := maskPlainRow.holds Try.pinned (OpenSpec.ofChange maskPlainWrong)

/-- 'gleanerlaw.MaskOr': WHATEVER THE INPUT: true; the input reads as it did. -/
def maskOrSpec : ChangeSpec := { name := "maskOr", fn := fun _ => fun
  | [d1, d2, d3] => { results := [.lit (.bool true)], args := [d1, d2, d3] }
  | _ => none }
def maskOrRow : OpenClaim := { program := "ytlhjbhgkhpbnfaa", sum := "7baddfe5b75566dc57bb4948ccbf4be6ea0a498b24ebb79346a5acf4b84dca4f", func := "gleaner/gleanerlaw.MaskOr", spec := "maskOr", inPlace := ["internal/bytealg.IndexByteString", "internal/abi.NoEscape"], unfollowed := true, recurses := true, apart := false }
def MaskOrSaid : Prop := maskOrRow.holds Try.pinned (OpenSpec.ofChange maskOrSpec)

/-- ITS FALSE NEIGHBOUR: 'it returns false'. Refute it at one input. -/
def maskOrWrong : ChangeSpec := { name := "maskOr", fn := fun _ => fun
  | [d1, d2, d3] => { results := [.lit (.bool false)], args := [d1, d2, d3] }
  | _ => none }
def MaskOrWrongFalsely : Prop := maskOrRow.holds Try.pinned (OpenSpec.ofChange maskOrWrong)

/-- 'gleanerlaw.MaskStar': WHATEVER THE INPUT: true; the input reads as it did. -/
def maskStarSpec : ChangeSpec := { name := "maskStar", fn := fun _ => fun
  | [d1, d2, d3] => { results := [.lit (.bool true)], args := [d1, d2, d3] }
  | _ => none }
def maskStarRow : OpenClaim := { program := "ytlhjbhgkhpbnfaa", sum := "7baddfe5b75566dc57bb4948ccbf4be6ea0a498b24ebb79346a5acf4b84dca4f", func := "gleaner/gleanerlaw.MaskStar", spec := "maskStar", inPlace := ["internal/bytealg.IndexByteString", "internal/abi.NoEscape"], unfollowed := true, recurses := true, apart := false }
def MaskStarSaid : Prop := maskStarRow.holds Try.pinned (OpenSpec.ofChange maskStarSpec)

/-- ITS FALSE NEIGHBOUR: 'it returns false'. Refute it at one input. -/
def maskStarWrong : ChangeSpec := { name := "maskStar", fn := fun _ => fun
  | [d1, d2, d3] => { results := [.lit (.bool false)], args := [d1, d2, d3] }
  | _ => none }
def MaskStarWrongFalsely : Prop := maskStarRow.holds Try.pinned (OpenSpec.ofChange maskStarWrong)

/-- 'gleanerlaw.MaskChecks': WHATEVER THE INPUT: true; the input reads as it did. -/
def maskChecksSpec : ChangeSpec := { name := "maskChecks", fn := fun _ => fun
  | [d] => { results := [.lit (.bool true)], args := [d] }
  | _ => none }
def maskChecksRow : OpenClaim := { program := "ytlhjbhgkhpbnfaa", sum := "7baddfe5b75566dc57bb4948ccbf4be6ea0a498b24ebb79346a5acf4b84dca4f", func := "gleaner/gleanerlaw.MaskChecks", spec := "maskChecks", inPlace := ["internal/bytealg.IndexByteString", "internal/abi.NoEscape"], unfollowed := true, recurses := true, apart := false }
def MaskChecksSaid : Prop := maskChecksRow.holds Try.pinned (OpenSpec.ofChange maskChecksSpec)

/-- ITS FALSE NEIGHBOUR: 'it returns false'. Refute it at one input. -/
def maskChecksWrong : ChangeSpec := { name := "maskChecks", fn := fun _ => fun
  | [d] => { results := [.lit (.bool false)], args := [d] }
  | _ => none }
def MaskChecksWrongFalsely : Prop := maskChecksRow.holds Try.pinned (OpenSpec.ofChange maskChecksWrong)

/- THE SECOND FORM. 'bulk': how many values and letters a reading holds, each counted each time it is reached (what is shared counts as often as it is met; a slice's spare places count too). A statement '..UptoSaid' is the law's where the arguments, and the package variables that the reading takes, are together of bulk at most 1048576: NARROWER than '..Said'. Prove '..Said' where nothing that the law and all that it calls make is longer than what came in: it says more and counts as full. Else prove '..UptoSaid'. A law counts once. -/
mutual
def uptoBulk {H : Type} : DataW H → Nat
  | .lit (.string bytes) => bytes.length + 1
  | .lit _ => 1
  | .nil => 1
  | .ptr d => uptoBulk d + 1
  | .slice elems spare => uptoBulkAll elems + uptoBulkAll spare + 1
  | .agg parts => uptoBulkAll parts + 1
  | .iface _ d => uptoBulk d + 1
  | .map entries => uptoBulkEntries entries + 1
  | .held _ => 1
def uptoBulkAll {H : Type} : List (DataW H) → Nat
  | [] => 0
  | d :: r => uptoBulk d + uptoBulkAll r
def uptoBulkEntries {H : Type} : List (Lit × DataW H) → Nat
  | [] => 0
  | x :: r => uptoBulkEntry x + uptoBulkEntries r
def uptoBulkEntry {H : Type} : Lit × DataW H → Nat
  | (.string bytes, d) => bytes.length + uptoBulk d + 1
  | (_, d) => uptoBulk d + 1
 end
def uptoSmall : (H : Type) → List (DataW H) → Bool := fun _ ds => decide (uptoBulkAll ds ≤ 1048576)
def OpenSpec.upto (s : _root_.Go.ChangeSpec) : _root_.Go.OpenSpec := { _root_.Go.OpenSpec.ofChange s with cond := some uptoSmall }

/-- 'gleanerlaw.MaskMatches', WHERE WHAT IT READS IS OF BULK AT MOST 1048576: true; the input reads as it did. -/
def maskMatchesUptoRow : OpenClaim := { program := "ytlhjbhgkhpbnfaa", sum := "7baddfe5b75566dc57bb4948ccbf4be6ea0a498b24ebb79346a5acf4b84dca4f", func := "gleaner/gleanerlaw.MaskMatches", spec := "maskMatches", inPlace := ["internal/bytealg.IndexByteString", "internal/abi.NoEscape"], unfollowed := true, recurses := true, apart := false, narrowed := true }
def MaskMatchesUptoSaid : Prop := maskMatchesUptoRow.holds Try.pinned (OpenSpec.upto maskMatchesSpec)

/-- 'gleanerlaw.MaskExpands', WHERE WHAT IT READS IS OF BULK AT MOST 1048576: true; the input reads as it did. -/
def maskExpandsUptoRow : OpenClaim := { program := "ytlhjbhgkhpbnfaa", sum := "7baddfe5b75566dc57bb4948ccbf4be6ea0a498b24ebb79346a5acf4b84dca4f", func := "gleaner/gleanerlaw.MaskExpands", spec := "maskExpands", inPlace := ["internal/bytealg.IndexByteString", "internal/abi.NoEscape"], unfollowed := true, recurses := true, apart := false, narrowed := true }
def MaskExpandsUptoSaid : Prop := maskExpandsUptoRow.holds Try.pinned (OpenSpec.upto maskExpandsSpec)

/-- 'gleanerlaw.MaskPlain', WHERE WHAT IT READS IS OF BULK AT MOST 1048576: true; the input reads as it did. -/
def maskPlainUptoRow : OpenClaim := { program := "ytlhjbhgkhpbnfaa", sum := "7baddfe5b75566dc57bb4948ccbf4be6ea0a498b24ebb79346a5acf4b84dca4f", func := "gleaner/gleanerlaw.MaskPlain", spec := "maskPlain", inPlace := ["internal/bytealg.IndexByteString", "internal/abi.NoEscape"], unfollowed := true, recurses := true, apart := false, narrowed := true }
def MaskPlainUptoSaid : Prop := maskPlainUptoRow.holds Try.pinned (OpenSpec.upto maskPlainSpec)

/-- 'gleanerlaw.MaskOr', WHERE WHAT IT READS IS OF BULK AT MOST 1048576: true; the input reads as it did. -/
def maskOrUptoRow : OpenClaim := { program := "ytlhjbhgkhpbnfaa", sum := "7baddfe5b75566dc57bb4948ccbf4be6ea0a498b24ebb79346a5acf4b84dca4f", func := "gleaner/gleanerlaw.MaskOr", spec := "maskOr", inPlace := ["internal/bytealg.IndexByteString", "internal/abi.NoEscape"], unfollowed := true, recurses := true, apart := false, narrowed := true }
def MaskOrUptoSaid : Prop := maskOrUptoRow.holds Try.pinned (OpenSpec.upto maskOrSpec)

/-- 'gleanerlaw.MaskStar', WHERE WHAT IT READS IS OF BULK AT MOST 1048576: true; the input reads as it did. -/
def maskStarUptoRow : OpenClaim := { program := "ytlhjbhgkhpbnfaa", sum := "7baddfe5b75566dc57bb4948ccbf4be6ea0a498b24ebb79346a5acf4b84dca4f", func := "gleaner/gleanerlaw.MaskStar", spec := "maskStar", inPlace := ["internal/bytealg.IndexByteString", "internal/abi.NoEscape"], unfollowed := true, recurses := true, apart := false, narrowed := true }
def MaskStarUptoSaid : Prop := maskStarUptoRow.holds Try.pinned (OpenSpec.upto maskStarSpec)

/-- 'gleanerlaw.MaskChecks', WHERE WHAT IT READS IS OF BULK AT MOST 1048576: true; the input reads as it did. -/
def maskChecksUptoRow : OpenClaim := { program := "ytlhjbhgkhpbnfaa", sum := "7baddfe5b75566dc57bb4948ccbf4be6ea0a498b24ebb79346a5acf4b84dca4f", func := "gleaner/gleanerlaw.MaskChecks", spec := "maskChecks", inPlace := ["internal/bytealg.IndexByteString", "internal/abi.NoEscape"], unfollowed := true, recurses := true, apart := false, narrowed := true }
def MaskChecksUptoSaid : Prop := maskChecksUptoRow.holds Try.pinned (OpenSpec.upto maskChecksSpec)

end Rows
end Go.Proofs.Ytlhjbhgkhpbnfaa
