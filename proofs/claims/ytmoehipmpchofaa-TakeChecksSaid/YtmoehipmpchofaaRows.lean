/-
  No cell of these rows narrows 'for every input' (looked for: loops, veiled, ifaces, maps, wideKeys, modest, calm, conditions, laid).
  DERIVED. THE GIVEN ROWS OF THIS SEAT. 5 by the template 'for every input the law returns true; each argument reads behind the call as it read before'; 0 by the template 'total and deterministic' (their statements: YtmoehipmpchofaaTotals.lean).
  GIVEN WITH THE SEED: the statements are not yours to turn. If you find one false, say at which input.
  Laid BY PROGRAM, IN A SANDBOX (cutbox-rows.mjs): the forced cells as the released guide's own fill.sh prints them over the translation 55a4afad00f7dbd3… (all of the seat's roots in one cut). By AI agents, Wed Nov 11 2026. No macro, syntax, notation, axiom, sorry.
-/
import Derived.Test.YtmoehipmpchofaaChecked
import GoSem.Claim
import GoSem.ClaimJoined
import GoSem.ClaimMapViews
import Derived.JoinedTies
import Derived.KernelRfl
namespace Go.Proofs.Ytmoehipmpchofaa
/- THE CELL 'sum', in the pinned program and in every row, IS THE sha256 OF THE DUMP (.gsa) THAT YtmoehipmpchofaaProg.lean LOADS. Nothing in Lean hashes anything: it is a label: what it is worth is what the hold of that sum in a sandbox is worth. -/
noncomputable def Try.pinned : Pinned := { name := "ytmoehipmpchofaa", sum := "55a4afad00f7dbd3a0a7c42535d9b469cb4a51c0ab4bc61618c0c0272336a83e", checked := Try.checked }
namespace Rows
def none {H : Type} : Left H := { results := [], args := [] }

/-- 'gleanerlaw.TakeChecks': WHATEVER THE INPUT: true; the input reads as it did. -/
def takeChecksSpec : ChangeSpec := { name := "takeChecks", fn := fun _ => fun
  | [d] => { results := [.lit (.bool true)], args := [d] }
  | _ => none }
def takeChecksRow : OpenClaim := { program := "ytmoehipmpchofaa", sum := "55a4afad00f7dbd3a0a7c42535d9b469cb4a51c0ab4bc61618c0c0272336a83e", func := "gleaner/gleanerlaw.TakeChecks", spec := "takeChecks", inPlace := ["slices.overlaps[gleaner/api.Series]"], unfollowed := true, recurses := true, apart := false }
def TakeChecksSaid : Prop := takeChecksRow.holds Try.pinned (OpenSpec.ofChange takeChecksSpec)

/-- ITS FALSE NEIGHBOUR: 'it returns false'. Refute it at one input. -/
def takeChecksWrong : ChangeSpec := { name := "takeChecks", fn := fun _ => fun
  | [d] => { results := [.lit (.bool false)], args := [d] }
  | _ => none }
def TakeChecksWrongFalsely : Prop := takeChecksRow.holds Try.pinned (OpenSpec.ofChange takeChecksWrong)

/-- 'gleanerlaw.TakeTakes': WHATEVER THE INPUT: true; the input reads as it did. -/
def takeTakesSpec : ChangeSpec := { name := "takeTakes", fn := fun _ => fun
  | [d1, d2] => { results := [.lit (.bool true)], args := [d1, d2] }
  | _ => none }
def takeTakesRow : OpenClaim := { program := "ytmoehipmpchofaa", sum := "55a4afad00f7dbd3a0a7c42535d9b469cb4a51c0ab4bc61618c0c0272336a83e", func := "gleaner/gleanerlaw.TakeTakes", spec := "takeTakes", inPlace := ["slices.overlaps[gleaner/api.Series]"], unfollowed := true, recurses := true, apart := false }
def TakeTakesSaid : Prop := takeTakesRow.holds Try.pinned (OpenSpec.ofChange takeTakesSpec)

/-- ITS FALSE NEIGHBOUR: 'it returns false'. Refute it at one input. -/
def takeTakesWrong : ChangeSpec := { name := "takeTakes", fn := fun _ => fun
  | [d1, d2] => { results := [.lit (.bool false)], args := [d1, d2] }
  | _ => none }
def TakeTakesWrongFalsely : Prop := takeTakesRow.holds Try.pinned (OpenSpec.ofChange takeTakesWrong)

/-- 'gleanerlaw.TakeGets': WHATEVER THE INPUT: true; the input reads as it did. -/
def takeGetsSpec : ChangeSpec := { name := "takeGets", fn := fun _ => fun
  | [d1, d2] => { results := [.lit (.bool true)], args := [d1, d2] }
  | _ => none }
def takeGetsRow : OpenClaim := { program := "ytmoehipmpchofaa", sum := "55a4afad00f7dbd3a0a7c42535d9b469cb4a51c0ab4bc61618c0c0272336a83e", func := "gleaner/gleanerlaw.TakeGets", spec := "takeGets", inPlace := ["slices.overlaps[gleaner/api.Series]"], unfollowed := true, recurses := true, apart := false }
def TakeGetsSaid : Prop := takeGetsRow.holds Try.pinned (OpenSpec.ofChange takeGetsSpec)

/-- ITS FALSE NEIGHBOUR: 'it returns false'. Refute it at one input. -/
def takeGetsWrong : ChangeSpec := { name := "takeGets", fn := fun _ => fun
  | [d1, d2] => { results := [.lit (.bool false)], args := [d1, d2] }
  | _ => none }
def TakeGetsWrongFalsely : Prop := takeGetsRow.holds Try.pinned (OpenSpec.ofChange takeGetsWrong)

/-- 'gleanerlaw.TakeSeries': WHATEVER THE INPUT: true; the input reads as it did. -/
def takeSeriesSpec : ChangeSpec := { name := "takeSeries", fn := fun _ => fun
  | [d1, d2] => { results := [.lit (.bool true)], args := [d1, d2] }
  | _ => none }
def takeSeriesRow : OpenClaim := { program := "ytmoehipmpchofaa", sum := "55a4afad00f7dbd3a0a7c42535d9b469cb4a51c0ab4bc61618c0c0272336a83e", func := "gleaner/gleanerlaw.TakeSeries", spec := "takeSeries", inPlace := ["slices.overlaps[gleaner/api.Series]"], unfollowed := true, recurses := true, apart := false }
def TakeSeriesSaid : Prop := takeSeriesRow.holds Try.pinned (OpenSpec.ofChange takeSeriesSpec)

/-- ITS FALSE NEIGHBOUR: 'it returns false'. Refute it at one input. -/
def takeSeriesWrong : ChangeSpec := { name := "takeSeries", fn := fun _ => fun
  | [d1, d2] => { results := [.lit (.bool false)], args := [d1, d2] }
  | _ => none }
def TakeSeriesWrongFalsely : Prop := takeSeriesRow.holds Try.pinned (OpenSpec.ofChange takeSeriesWrong)

/-- 'gleanerlaw.TakeTwice': WHATEVER THE INPUT: true; the input reads as it did. -/
def takeTwiceSpec : ChangeSpec := { name := "takeTwice", fn := fun _ => fun
  | [d1, d2] => { results := [.lit (.bool true)], args := [d1, d2] }
  | _ => none }
def takeTwiceRow : OpenClaim := { program := "ytmoehipmpchofaa", sum := "55a4afad00f7dbd3a0a7c42535d9b469cb4a51c0ab4bc61618c0c0272336a83e", func := "gleaner/gleanerlaw.TakeTwice", spec := "takeTwice", inPlace := ["slices.overlaps[gleaner/api.Series]"], unfollowed := true, recurses := true, apart := false }
def TakeTwiceSaid : Prop := takeTwiceRow.holds Try.pinned (OpenSpec.ofChange takeTwiceSpec)

/-- ITS FALSE NEIGHBOUR: 'it returns false'. Refute it at one input. -/
def takeTwiceWrong : ChangeSpec := { name := "takeTwice", fn := fun _ => fun
  | [d1, d2] => { results := [.lit (.bool false)], args := [d1, d2] }
  | _ => none }
def TakeTwiceWrongFalsely : Prop := takeTwiceRow.holds Try.pinned (OpenSpec.ofChange takeTwiceWrong)

/- THE SECOND FORM. 'bulk': how many values and letters a reading holds, each counted each time it is reached (what is shared counts as often as it is met; a slice's spare places count too). A statement '..UptoSaid' is the law's where the arguments, and the package variables that the reading takes, are together of bulk at most 1048576: NARROWER than '..Said'. Prove '..Said' where nothing that the law and all that it calls make is longer than what came in: it says more and counts as full. Else prove '..UptoSaid'. A law counts once. -/
mutual
def uptoBulk {H : Type} : DataW H → Nat
  | .lit (.string bytes) => bytes.length + 1
  | .lit _ => 1
  | .nil => 1
  | .ptr d => uptoBulk d + 1
  | .slice elems spare => uptoBulkAll elems + uptoBulkAll spare + 1
  | .agg parts => uptoBulkAll parts + 1
  | .iface _ d => uptoBulk d + 1
  | .map entries => uptoBulkEntries entries + 1
  | .held _ => 1
def uptoBulkAll {H : Type} : List (DataW H) → Nat
  | [] => 0
  | d :: r => uptoBulk d + uptoBulkAll r
def uptoBulkEntries {H : Type} : List (Lit × DataW H) → Nat
  | [] => 0
  | x :: r => uptoBulkEntry x + uptoBulkEntries r
def uptoBulkEntry {H : Type} : Lit × DataW H → Nat
  | (.string bytes, d) => bytes.length + uptoBulk d + 1
  | (_, d) => uptoBulk d + 1
 end
def uptoSmall : (H : Type) → List (DataW H) → Bool := fun _ ds => decide (uptoBulkAll ds ≤ 1048576)
def OpenSpec.upto (s : _root_.Go.ChangeSpec) : _root_.Go.OpenSpec := { _root_.Go.OpenSpec.ofChange s with cond := some uptoSmall }

/-- 'gleanerlaw.TakeChecks', WHERE WHAT IT READS IS OF BULK AT MOST 1048576: true; the input reads as it did. -/
def takeChecksUptoRow : OpenClaim := { program := "ytmoehipmpchofaa", sum := "55a4afad00f7dbd3a0a7c42535d9b469cb4a51c0ab4bc61618c0c0272336a83e", func := "gleaner/gleanerlaw.TakeChecks", spec := "takeChecks", inPlace := ["slices.overlaps[gleaner/api.Series]"], unfollowed := true, recurses := true, apart := false, narrowed := true }
def TakeChecksUptoSaid : Prop := takeChecksUptoRow.holds Try.pinned (OpenSpec.upto takeChecksSpec)

/-- 'gleanerlaw.TakeTakes', WHERE WHAT IT READS IS OF BULK AT MOST 1048576: true; the input reads as it did. -/
def takeTakesUptoRow : OpenClaim := { program := "ytmoehipmpchofaa", sum := "55a4afad00f7dbd3a0a7c42535d9b469cb4a51c0ab4bc61618c0c0272336a83e", func := "gleaner/gleanerlaw.TakeTakes", spec := "takeTakes", inPlace := ["slices.overlaps[gleaner/api.Series]"], unfollowed := true, recurses := true, apart := false, narrowed := true }
def TakeTakesUptoSaid : Prop := takeTakesUptoRow.holds Try.pinned (OpenSpec.upto takeTakesSpec)

/-- 'gleanerlaw.TakeGets', WHERE WHAT IT READS IS OF BULK AT MOST 1048576: true; the input reads as it did. -/
def takeGetsUptoRow : OpenClaim := { program := "ytmoehipmpchofaa", sum := "55a4afad00f7dbd3a0a7c42535d9b469cb4a51c0ab4bc61618c0c0272336a83e", func := "gleaner/gleanerlaw.TakeGets", spec := "takeGets", inPlace := ["slices.overlaps[gleaner/api.Series]"], unfollowed := true, recurses := true, apart := false, narrowed := true }
def TakeGetsUptoSaid : Prop := takeGetsUptoRow.holds Try.pinned (OpenSpec.upto takeGetsSpec)

/-- 'gleanerlaw.TakeSeries', WHERE WHAT IT READS IS OF BULK AT MOST 1048576: true; the input reads as it did. -/
def takeSeriesUptoRow : OpenClaim := { program := "ytmoehipmpchofaa", sum := "55a4afad00f7dbd3a0a7c42535d9b469cb4a51c0ab4bc61618c0c0272336a83e", func := "gleaner/gleanerlaw.TakeSeries", spec := "takeSeries", inPlace := ["slices.overlaps[gleaner/api.Series]"], unfollowed := true, recurses := true, apart := false, narrowed := true }
def TakeSeriesUptoSaid : Prop := takeSeriesUptoRow.holds Try.pinned (OpenSpec.upto takeSeriesSpec)

/-- 'gleanerlaw.TakeTwice', WHERE WHAT IT READS IS OF BULK AT MOST 1048576: true; the input reads as it did. -/
def takeTwiceUptoRow : OpenClaim := { program := "ytmoehipmpchofaa", sum := "55a4afad00f7dbd3a0a7c42535d9b469cb4a51c0ab4bc61618c0c0272336a83e", func := "gleaner/gleanerlaw.TakeTwice", spec := "takeTwice", inPlace := ["slices.overlaps[gleaner/api.Series]"], unfollowed := true, recurses := true, apart := false, narrowed := true }
def TakeTwiceUptoSaid : Prop := takeTwiceUptoRow.holds Try.pinned (OpenSpec.upto takeTwiceSpec)

end Rows
end Go.Proofs.Ytmoehipmpchofaa
