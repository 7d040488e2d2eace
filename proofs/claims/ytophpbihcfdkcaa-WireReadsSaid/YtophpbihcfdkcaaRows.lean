/-
  No cell of these rows narrows 'for every input' (looked for: loops, veiled, ifaces, maps, wideKeys, modest, calm, conditions, laid).
  DERIVED. THE GIVEN ROWS OF THIS SEAT. 12 by the template 'for every input the law returns true; each argument reads behind the call as it read before'; 0 by the template 'total and deterministic' (their statements: YtophpbihcfdkcaaTotals.lean).
  GIVEN WITH THE SEED: the statements are not yours to turn. If you find one false, say at which input.
  Laid BY PROGRAM, IN A SANDBOX (cutbox-rows.mjs): the forced cells as the released guide's own fill.sh prints them over the translation e6a2613f71b246dd… (all of the seat's roots in one cut). By AI agents, Wed Nov 11 2026. No macro, syntax, notation, axiom, sorry.
-/
import Derived.Test.YtophpbihcfdkcaaChecked
import GoSem.Claim
import GoSem.ClaimJoined
import GoSem.ClaimMapViews
import Derived.JoinedTies
import Derived.KernelRfl
namespace Go.Proofs.Ytophpbihcfdkcaa
/- THE CELL 'sum', in the pinned program and in every row, IS THE sha256 OF THE DUMP (.gsa) THAT YtophpbihcfdkcaaProg.lean LOADS. Nothing in Lean hashes anything: it is a label: what it is worth is what the hold of that sum in a sandbox is worth. -/
noncomputable def Try.pinned : Pinned := { name := "ytophpbihcfdkcaa", sum := "e6a2613f71b246dd9762d1c9b408f2dfd6115944d7fc76bdd3823aab5f01ce54", checked := Try.checked }
namespace Rows
def none {H : Type} : Left H := { results := [], args := [] }

/-- 'gleanerlaw.WireNumbers': WHATEVER THE INPUT: true; the input reads as it did. -/
def wireNumbersSpec : ChangeSpec := { name := "wireNumbers", fn := fun _ => fun
  | [d1, d2] => { results := [.lit (.bool true)], args := [d1, d2] }
  | _ => none }
def wireNumbersRow : OpenClaim := { program := "ytophpbihcfdkcaa", sum := "e6a2613f71b246dd9762d1c9b408f2dfd6115944d7fc76bdd3823aab5f01ce54", func := "gleaner/gleanerlaw.WireNumbers", spec := "wireNumbers", apart := false }
def WireNumbersSaid : Prop := wireNumbersRow.holds Try.pinned (OpenSpec.ofChange wireNumbersSpec)

/-- ITS FALSE NEIGHBOUR: 'it returns false'. Refute it at one input. -/
def wireNumbersWrong : ChangeSpec := { name := "wireNumbers", fn := fun _ => fun
  | [d1, d2] => { results := [.lit (.bool false)], args := [d1, d2] }
  | _ => none }
def WireNumbersWrongFalsely : Prop := wireNumbersRow.holds Try.pinned (OpenSpec.ofChange wireNumbersWrong)

/-- 'gleanerlaw.WireReadNumbers': WHATEVER THE INPUT: true; the input reads as it did. -/
def wireReadNumbersSpec : ChangeSpec := { name := "wireReadNumbers", fn := fun _ => fun
  | [d] => { results := [.lit (.bool true)], args := [d] }
  | _ => none }
def wireReadNumbersRow : OpenClaim := { program := "ytophpbihcfdkcaa", sum := "e6a2613f71b246dd9762d1c9b408f2dfd6115944d7fc76bdd3823aab5f01ce54", func := "gleaner/gleanerlaw.WireReadNumbers", spec := "wireReadNumbers", apart := false }
def WireReadNumbersSaid : Prop := wireReadNumbersRow.holds Try.pinned (OpenSpec.ofChange wireReadNumbersSpec)

/-- ITS FALSE NEIGHBOUR: 'it returns false'. Refute it at one input. -/
def wireReadNumbersWrong : ChangeSpec := { name := "wireReadNumbers", fn := fun _ => fun
  | [d] => { results := [.lit (.bool false)], args := [d] }
  | _ => none }
def WireReadNumbersWrongFalsely : Prop := wireReadNumbersRow.holds Try.pinned (OpenSpec.ofChange wireReadNumbersWrong)

/-- 'gleanerlaw.WireWrites': WHATEVER THE INPUT: true; the input reads as it did. -/
def wireWritesSpec : ChangeSpec := { name := "wireWrites", fn := fun _ => fun
  | [d] => { results := [.lit (.bool true)], args := [d] }
  | _ => none }
def wireWritesRow : OpenClaim := { program := "ytophpbihcfdkcaa", sum := "e6a2613f71b246dd9762d1c9b408f2dfd6115944d7fc76bdd3823aab5f01ce54", func := "gleaner/gleanerlaw.WireWrites", spec := "wireWrites", apart := false }
def WireWritesSaid : Prop := wireWritesRow.holds Try.pinned (OpenSpec.ofChange wireWritesSpec)

/-- ITS FALSE NEIGHBOUR: 'it returns false'. Refute it at one input. -/
def wireWritesWrong : ChangeSpec := { name := "wireWrites", fn := fun _ => fun
  | [d] => { results := [.lit (.bool false)], args := [d] }
  | _ => none }
def WireWritesWrongFalsely : Prop := wireWritesRow.holds Try.pinned (OpenSpec.ofChange wireWritesWrong)

/-- 'gleanerlaw.PressUnpacks': WHATEVER THE INPUT: true; the input reads as it did. -/
def pressUnpacksSpec : ChangeSpec := { name := "pressUnpacks", fn := fun _ => fun
  | [d1, d2] => { results := [.lit (.bool true)], args := [d1, d2] }
  | _ => none }
def pressUnpacksRow : OpenClaim := { program := "ytophpbihcfdkcaa", sum := "e6a2613f71b246dd9762d1c9b408f2dfd6115944d7fc76bdd3823aab5f01ce54", func := "gleaner/gleanerlaw.PressUnpacks", spec := "pressUnpacks", unfollowed := true, recurses := true, apart := false }
def PressUnpacksSaid : Prop := pressUnpacksRow.holds Try.pinned (OpenSpec.ofChange pressUnpacksSpec)

/-- ITS FALSE NEIGHBOUR: 'it returns false'. Refute it at one input. -/
def pressUnpacksWrong : ChangeSpec := { name := "pressUnpacks", fn := fun _ => fun
  | [d1, d2] => { results := [.lit (.bool false)], args := [d1, d2] }
  | _ => none }
def PressUnpacksWrongFalsely : Prop := pressUnpacksRow.holds Try.pinned (OpenSpec.ofChange pressUnpacksWrong)

/-- 'gleanerlaw.PressPacks': WHATEVER THE INPUT: true; the input reads as it did. -/
def pressPacksSpec : ChangeSpec := { name := "pressPacks", fn := fun _ => fun
  | [d] => { results := [.lit (.bool true)], args := [d] }
  | _ => none }
def pressPacksRow : OpenClaim := { program := "ytophpbihcfdkcaa", sum := "e6a2613f71b246dd9762d1c9b408f2dfd6115944d7fc76bdd3823aab5f01ce54", func := "gleaner/gleanerlaw.PressPacks", spec := "pressPacks", unfollowed := true, recurses := true, apart := false }
def PressPacksSaid : Prop := pressPacksRow.holds Try.pinned (OpenSpec.ofChange pressPacksSpec)

/-- ITS FALSE NEIGHBOUR: 'it returns false'. Refute it at one input. -/
def pressPacksWrong : ChangeSpec := { name := "pressPacks", fn := fun _ => fun
  | [d] => { results := [.lit (.bool false)], args := [d] }
  | _ => none }
def PressPacksWrongFalsely : Prop := pressPacksRow.holds Try.pinned (OpenSpec.ofChange pressPacksWrong)

/-- 'gleanerlaw.PressBack': WHATEVER THE INPUT: true; the input reads as it did. -/
def pressBackSpec : ChangeSpec := { name := "pressBack", fn := fun _ => fun
  | [d] => { results := [.lit (.bool true)], args := [d] }
  | _ => none }
def pressBackRow : OpenClaim := { program := "ytophpbihcfdkcaa", sum := "e6a2613f71b246dd9762d1c9b408f2dfd6115944d7fc76bdd3823aab5f01ce54", func := "gleaner/gleanerlaw.PressBack", spec := "pressBack", apart := false }
def PressBackSaid : Prop := pressBackRow.holds Try.pinned (OpenSpec.ofChange pressBackSpec)

/-- ITS FALSE NEIGHBOUR: 'it returns false'. Refute it at one input. -/
def pressBackWrong : ChangeSpec := { name := "pressBack", fn := fun _ => fun
  | [d] => { results := [.lit (.bool false)], args := [d] }
  | _ => none }
def PressBackWrongFalsely : Prop := pressBackRow.holds Try.pinned (OpenSpec.ofChange pressBackWrong)

/-- 'gleanerlaw.PressRuns': WHATEVER THE INPUT: true; the input reads as it did. -/
def pressRunsSpec : ChangeSpec := { name := "pressRuns", fn := fun _ => fun
  | [d1, d2] => { results := [.lit (.bool true)], args := [d1, d2] }
  | _ => none }
def pressRunsRow : OpenClaim := { program := "ytophpbihcfdkcaa", sum := "e6a2613f71b246dd9762d1c9b408f2dfd6115944d7fc76bdd3823aab5f01ce54", func := "gleaner/gleanerlaw.PressRuns", spec := "pressRuns", apart := false }
def PressRunsSaid : Prop := pressRunsRow.holds Try.pinned (OpenSpec.ofChange pressRunsSpec)

/-- ITS FALSE NEIGHBOUR: 'it returns false'. Refute it at one input. -/
def pressRunsWrong : ChangeSpec := { name := "pressRuns", fn := fun _ => fun
  | [d1, d2] => { results := [.lit (.bool false)], args := [d1, d2] }
  | _ => none }
def PressRunsWrongFalsely : Prop := pressRunsRow.holds Try.pinned (OpenSpec.ofChange pressRunsWrong)

/-- 'gleanerlaw.WireReads': WHATEVER THE INPUT: true; the input reads as it did. -/
def wireReadsSpec : ChangeSpec := { name := "wireReads", fn := fun _ => fun
  | [d] => { results := [.lit (.bool true)], args := [d] }
  | _ => none }
def wireReadsRow : OpenClaim := { program := "ytophpbihcfdkcaa", sum := "e6a2613f71b246dd9762d1c9b408f2dfd6115944d7fc76bdd3823aab5f01ce54", func := "gleaner/gleanerlaw.WireReads", spec := "wireReads", unfollowed := true, recurses := true, apart := false }
def WireReadsSaid : Prop := wireReadsRow.holds Try.pinned (OpenSpec.ofChange wireReadsSpec)

/-- ITS FALSE NEIGHBOUR: 'it returns false'. Refute it at one input. -/
def wireReadsWrong : ChangeSpec := { name := "wireReads", fn := fun _ => fun
  | [d] => { results := [.lit (.bool false)], args := [d] }
  | _ => none }
def WireReadsWrongFalsely : Prop := wireReadsRow.holds Try.pinned (OpenSpec.ofChange wireReadsWrong)

/-- 'gleanerlaw.WireBack': WHATEVER THE INPUT: true; the input reads as it did. -/
def wireBackSpec : ChangeSpec := { name := "wireBack", fn := fun _ => fun
  | [d] => { results := [.lit (.bool true)], args := [d] }
  | _ => none }
def wireBackRow : OpenClaim := { program := "ytophpbihcfdkcaa", sum := "e6a2613f71b246dd9762d1c9b408f2dfd6115944d7fc76bdd3823aab5f01ce54", func := "gleaner/gleanerlaw.WireBack", spec := "wireBack", unfollowed := true, recurses := true, apart := false }
def WireBackSaid : Prop := wireBackRow.holds Try.pinned (OpenSpec.ofChange wireBackSpec)

/-- ITS FALSE NEIGHBOUR: 'it returns false'. Refute it at one input. -/
def wireBackWrong : ChangeSpec := { name := "wireBack", fn := fun _ => fun
  | [d] => { results := [.lit (.bool false)], args := [d] }
  | _ => none }
def WireBackWrongFalsely : Prop := wireBackRow.holds Try.pinned (OpenSpec.ofChange wireBackWrong)

/-- 'gleanerlaw.WireJoins': WHATEVER THE INPUT: true; the input reads as it did. -/
def wireJoinsSpec : ChangeSpec := { name := "wireJoins", fn := fun _ => fun
  | [d1, d2] => { results := [.lit (.bool true)], args := [d1, d2] }
  | _ => none }
def wireJoinsRow : OpenClaim := { program := "ytophpbihcfdkcaa", sum := "e6a2613f71b246dd9762d1c9b408f2dfd6115944d7fc76bdd3823aab5f01ce54", func := "gleaner/gleanerlaw.WireJoins", spec := "wireJoins", unfollowed := true, recurses := true, apart := false }
def WireJoinsSaid : Prop := wireJoinsRow.holds Try.pinned (OpenSpec.ofChange wireJoinsSpec)

/-- ITS FALSE NEIGHBOUR: 'it returns false'. Refute it at one input. -/
def wireJoinsWrong : ChangeSpec := { name := "wireJoins", fn := fun _ => fun
  | [d1, d2] => { results := [.lit (.bool false)], args := [d1, d2] }
  | _ => none }
def WireJoinsWrongFalsely : Prop := wireJoinsRow.holds Try.pinned (OpenSpec.ofChange wireJoinsWrong)

/-- 'gleanerlaw.WirePasses': WHATEVER THE INPUT: true; the input reads as it did. -/
def wirePassesSpec : ChangeSpec := { name := "wirePasses", fn := fun _ => fun
  | [d1, d2, d3] => { results := [.lit (.bool true)], args := [d1, d2, d3] }
  | _ => none }
def wirePassesRow : OpenClaim := { program := "ytophpbihcfdkcaa", sum := "e6a2613f71b246dd9762d1c9b408f2dfd6115944d7fc76bdd3823aab5f01ce54", func := "gleaner/gleanerlaw.WirePasses", spec := "wirePasses", unfollowed := true, recurses := true, apart := false }
def WirePassesSaid : Prop := wirePassesRow.holds Try.pinned (OpenSpec.ofChange wirePassesSpec)

/-- ITS FALSE NEIGHBOUR: 'it returns false'. Refute it at one input. -/
def wirePassesWrong : ChangeSpec := { name := "wirePasses", fn := fun _ => fun
  | [d1, d2, d3] => { results := [.lit (.bool false)], args := [d1, d2, d3] }
  | _ => none }
def WirePassesWrongFalsely : Prop := wirePassesRow.holds Try.pinned (OpenSpec.ofChange wirePassesWrong)

/-- 'gleanerlaw.TopPacked': WHATEVER THE INPUT: true; the input reads as it did. -/
def topPackedSpec : ChangeSpec := { name := "topPacked", fn := fun _ => fun
  | [d] => { results := [.lit (.bool true)], args := [d] }
  | _ => none }
def topPackedRow : OpenClaim := { program := "ytophpbihcfdkcaa", sum := "e6a2613f71b246dd9762d1c9b408f2dfd6115944d7fc76bdd3823aab5f01ce54", func := "gleaner/gleanerlaw.TopPacked", spec := "topPacked", unfollowed := true, recurses := true, apart := false }
def TopPackedSaid : Prop := topPackedRow.holds Try.pinned (OpenSpec.ofChange topPackedSpec)

/-- ITS FALSE NEIGHBOUR: 'it returns false'. Refute it at one input. -/
def topPackedWrong : ChangeSpec := { name := "topPacked", fn := fun _ => fun
  | [d] => { results := [.lit (.bool false)], args := [d] }
  | _ => none }
def TopPackedWrongFalsely : Prop := topPackedRow.holds Try.pinned (OpenSpec.ofChange topPackedWrong)

/- THE SECOND FORM. 'bulk': how many values and letters a reading holds, each counted each time it is reached (what is shared counts as often as it is met; a slice's spare places count too). A statement '..UptoSaid' is the law's where the arguments, and the package variables that the reading takes, are together of bulk at most 1048576: NARROWER than '..Said'. Prove '..Said' where nothing that the law and all that it calls make is longer than what came in: it says more and counts as full. Else prove '..UptoSaid'. A law counts once. -/
mutual
def uptoBulk {H : Type} : DataW H → Nat
  | .lit (.string bytes) => bytes.length + 1
  | .lit _ => 1
  | .nil => 1
  | .ptr d => uptoBulk d + 1
  | .slice elems spare => uptoBulkAll elems + uptoBulkAll spare + 1
  | .agg parts => uptoBulkAll parts + 1
  | .iface _ d => uptoBulk d + 1
  | .map entries => uptoBulkEntries entries + 1
  | .held _ => 1
def uptoBulkAll {H : Type} : List (DataW H) → Nat
  | [] => 0
  | d :: r => uptoBulk d + uptoBulkAll r
def uptoBulkEntries {H : Type} : List (Lit × DataW H) → Nat
  | [] => 0
  | x :: r => uptoBulkEntry x + uptoBulkEntries r
def uptoBulkEntry {H : Type} : Lit × DataW H → Nat
  | (.string bytes, d) => bytes.length + uptoBulk d + 1
  | (_, d) => uptoBulk d + 1
 end
def uptoSmall : (H : Type) → List (DataW H) → Bool := fun _ ds => decide (uptoBulkAll ds ≤ 1048576)
def OpenSpec.upto (s : _root_.Go.ChangeSpec) : _root_.Go.OpenSpec := { _root_.Go.OpenSpec.ofChange s with cond := some uptoSmall }

/-- 'gleanerlaw.WireNumbers', WHERE WHAT IT READS IS OF BULK AT MOST 1048576: true; the input reads as it did. -/
def wireNumbersUptoRow : OpenClaim := { program := "ytophpbihcfdkcaa", sum := "e6a2613f71b246dd9762d1c9b408f2dfd6115944d7fc76bdd3823aab5f01ce54", func := "gleaner/gleanerlaw.WireNumbers", spec := "wireNumbers", apart := false, narrowed := true }
def WireNumbersUptoSaid : Prop := wireNumbersUptoRow.holds Try.pinned (OpenSpec.upto wireNumbersSpec)

/-- 'gleanerlaw.WireReadNumbers', WHERE WHAT IT READS IS OF BULK AT MOST 1048576: true; the input reads as it did. -/
def wireReadNumbersUptoRow : OpenClaim := { program := "ytophpbihcfdkcaa", sum := "e6a2613f71b246dd9762d1c9b408f2dfd6115944d7fc76bdd3823aab5f01ce54", func := "gleaner/gleanerlaw.WireReadNumbers", spec := "wireReadNumbers", apart := false, narrowed := true }
def WireReadNumbersUptoSaid : Prop := wireReadNumbersUptoRow.holds Try.pinned (OpenSpec.upto wireReadNumbersSpec)

/-- 'gleanerlaw.WireWrites', WHERE WHAT IT READS IS OF BULK AT MOST 1048576: true; the input reads as it did. -/
def wireWritesUptoRow : OpenClaim := { program := "ytophpbihcfdkcaa", sum := "e6a2613f71b246dd9762d1c9b408f2dfd6115944d7fc76bdd3823aab5f01ce54", func := "gleaner/gleanerlaw.WireWrites", spec := "wireWrites", apart := false, narrowed := true }
def WireWritesUptoSaid : Prop := wireWritesUptoRow.holds Try.pinned (OpenSpec.upto wireWritesSpec)

/-- 'gleanerlaw.PressUnpacks', WHERE WHAT IT READS IS OF BULK AT MOST 1048576: true; the input reads as it did. -/
def pressUnpacksUptoRow : OpenClaim := { program := "ytophpbihcfdkcaa", sum := "e6a2613f71b246dd9762d1c9b408f2dfd6115944d7fc76bdd3823aab5f01ce54", func := "gleaner/gleanerlaw.PressUnpacks", spec := "pressUnpacks", unfollowed := true, recurses := true, apart := false, narrowed := true }
def PressUnpacksUptoSaid : Prop := pressUnpacksUptoRow.holds Try.pinned (OpenSpec.upto pressUnpacksSpec)

/-- 'gleanerlaw.PressPacks', WHERE WHAT IT READS IS OF BULK AT MOST 1048576: true; the input reads as it did. -/
def pressPacksUptoRow : OpenClaim := { program := "ytophpbihcfdkcaa", sum := "e6a2613f71b246dd9762d1c9b408f2dfd6115944d7fc76bdd3823aab5f01ce54", func := "gleaner/gleanerlaw.PressPacks", spec := "pressPacks", unfollowed := true, recurses := true, apart := false, narrowed := true }
def PressPacksUptoSaid : Prop := pressPacksUptoRow.holds Try.pinned (OpenSpec.upto pressPacksSpec)

/-- 'gleanerlaw.PressBack', WHERE WHAT IT READS IS OF BULK AT MOST 1048576: true; the input reads as it did. -/
def pressBackUptoRow : OpenClaim := { program := "ytophpbihcfdkcaa", sum := "e6a2613f71b246dd9762d1c9b408f2dfd6115944d7fc76bdd3823aab5f01ce54", func := "gleaner/gleanerlaw.PressBack", spec := "pressBack", apart := false, narrowed := true }
def PressBackUptoSaid : Prop := pressBackUptoRow.holds Try.pinned (OpenSpec.upto pressBackSpec)

/-- 'gleanerlaw.PressRuns', WHERE WHAT IT READS IS OF BULK AT MOST 1048576: true; the input reads as it did. -/
def pressRunsUptoRow : OpenClaim := { program := "ytophpbihcfdkcaa", sum := "e6a2613f71b246dd9762d1c9b408f2dfd6115944d7fc76bdd3823aab5f01ce54", func := "gleaner/gleanerlaw.PressRuns", spec := "pressRuns", apart := false, narrowed := true }
def PressRunsUptoSaid : Prop := pressRunsUptoRow.holds Try.pinned (OpenSpec.upto pressRunsSpec)

/-- 'gleanerlaw.WireReads', WHERE WHAT IT READS IS OF BULK AT MOST 1048576: true; the input reads as it did. -/
def wireReadsUptoRow : OpenClaim := { program := "ytophpbihcfdkcaa", sum := "e6a2613f71b246dd9762d1c9b408f2dfd6115944d7fc76bdd3823aab5f01ce54", func := "gleaner/gleanerlaw.WireReads", spec := "wireReads", unfollowed := true, recurses := true, apart := false, narrowed := true }
def WireReadsUptoSaid : Prop := wireReadsUptoRow.holds Try.pinned (OpenSpec.upto wireReadsSpec)

/-- 'gleanerlaw.WireBack', WHERE WHAT IT READS IS OF BULK AT MOST 1048576: true; the input reads as it did. -/
def wireBackUptoRow : OpenClaim := { program := "ytophpbihcfdkcaa", sum := "e6a2613f71b246dd9762d1c9b408f2dfd6115944d7fc76bdd3823aab5f01ce54", func := "gleaner/gleanerlaw.WireBack", spec := "wireBack", unfollowed := true, recurses := true, apart := false, narrowed := true }
def WireBackUptoSaid : Prop := wireBackUptoRow.holds Try.pinned (OpenSpec.upto wireBackSpec)

/-- 'gleanerlaw.WireJoins', WHERE WHAT IT READS IS OF BULK AT MOST 1048576: true; the input reads as it did. -/
def wireJoinsUptoRow : OpenClaim := { program := "ytophpbihcfdkcaa", sum := "e6a2613f71b246dd9762d1c9b408f2dfd6115944d7fc76bdd3823aab5f01ce54", func := "gleaner/gleanerlaw.WireJoins", spec := "wireJoins", unfollowed := true, recurses := true, apart := false, narrowed := true }
def WireJoinsUptoSaid : Prop := wireJoinsUptoRow.holds Try.pinned (OpenSpec.upto wireJoinsSpec)

/-- 'gleanerlaw.WirePasses', WHERE WHAT IT READS IS OF BULK AT MOST 1048576: true; the input reads as it did. -/
def wirePassesUptoRow : OpenClaim := { program := "ytophpbihcfdkcaa", sum := "e6a2613f71b246dd9762d1c9b408f2dfd6115944d7fc76bdd3823aab5f01ce54", func := "gleaner/gleanerlaw.WirePasses", spec := "wirePasses", unfollowed := true, recurses := true, apart := false, narrowed := true }
def WirePassesUptoSaid : Prop := wirePassesUptoRow.holds Try.pinned (OpenSpec.upto wirePassesSpec)

/-- 'gleanerlaw.TopPacked', WHERE WHAT IT READS IS OF BULK AT MOST 1048576: true; the input reads as it did. -/
def topPackedUptoRow : OpenClaim := { program := "ytophpbihcfdkcaa", sum := "e6a2613f71b246dd9762d1c9b408f2dfd6115944d7fc76bdd3823aab5f01ce54", func := "gleaner/gleanerlaw.TopPacked", spec := "topPacked", unfollowed := true, recurses := true, apart := false, narrowed := true }
def TopPackedUptoSaid : Prop := topPackedUptoRow.holds Try.pinned (OpenSpec.upto topPackedSpec)

end Rows
end Go.Proofs.Ytophpbihcfdkcaa
