/-
  No cell of these rows narrows 'for every input' (looked for: loops, veiled, ifaces, maps, wideKeys, modest, calm, conditions, laid).
  DERIVED. THE GIVEN ROWS OF THIS SEAT. 10 by the template 'for every input the law returns true; each argument reads behind the call as it read before'; 0 by the template 'total and deterministic' (their statements: YtofidfkojmbdoaaTotals.lean).
  GIVEN WITH THE SEED: the statements are not yours to turn. If you find one false, say at which input.
  Laid BY PROGRAM, IN A SANDBOX (cutbox-rows.mjs): the forced cells as the released guide's own fill.sh prints them over the translation 4376c38098d68c8f… (all of the seat's roots in one cut). By AI agents, Wed Nov 11 2026. No macro, syntax, notation, axiom, sorry.
-/
import Derived.Test.YtofidfkojmbdoaaChecked
import GoSem.Claim
import GoSem.ClaimJoined
import GoSem.ClaimMapViews
import Derived.JoinedTies
import Derived.KernelRfl
namespace Go.Proofs.Ytofidfkojmbdoaa
/- THE CELL 'sum', in the pinned program and in every row, IS THE sha256 OF THE DUMP (.gsa) THAT YtofidfkojmbdoaaProg.lean LOADS. Nothing in Lean hashes anything: it is a label: what it is worth is what the hold of that sum in a sandbox is worth. -/
noncomputable def Try.pinned : Pinned := { name := "ytofidfkojmbdoaa", sum := "4376c38098d68c8fd9ac26b0cc0efdda6516900fddc1c9863812d21f29922961", checked := Try.checked }
namespace Rows
def none {H : Type} : Left H := { results := [], args := [] }

/-- 'gleanerlaw.RecordPacks': WHATEVER THE INPUT: true; the input reads as it did. -/
def recordPacksSpec : ChangeSpec := { name := "recordPacks", fn := fun _ => fun
  | [d] => { results := [.lit (.bool true)], args := [d] }
  | _ => none }
def recordPacksRow : OpenClaim := { program := "ytofidfkojmbdoaa", sum := "4376c38098d68c8fd9ac26b0cc0efdda6516900fddc1c9863812d21f29922961", func := "gleaner/gleanerlaw.RecordPacks", spec := "recordPacks", unfollowed := true, recurses := true, apart := false }
def RecordPacksSaid : Prop := recordPacksRow.holds Try.pinned (OpenSpec.ofChange recordPacksSpec)

/-- ITS FALSE NEIGHBOUR: 'it returns false'. Refute it at one input. -/
def recordPacksWrong : ChangeSpec := { name := "recordPacks", fn := fun _ => fun
  | [d] => { results := [.lit (.bool false)], args := [d] }
  | _ => none }
def RecordPacksWrongFalsely : Prop := recordPacksRow.holds Try.pinned (OpenSpec.ofChange recordPacksWrong)

/-- 'gleanerlaw.RecordUnpacks': WHATEVER THE INPUT: true; the input reads as it did. -/
def recordUnpacksSpec : ChangeSpec := { name := "recordUnpacks", fn := fun _ => fun
  | [d] => { results := [.lit (.bool true)], args := [d] }
  | _ => none }
def recordUnpacksRow : OpenClaim := { program := "ytofidfkojmbdoaa", sum := "4376c38098d68c8fd9ac26b0cc0efdda6516900fddc1c9863812d21f29922961", func := "gleaner/gleanerlaw.RecordUnpacks", spec := "recordUnpacks", unfollowed := true, recurses := true, apart := false }
def RecordUnpacksSaid : Prop := recordUnpacksRow.holds Try.pinned (OpenSpec.ofChange recordUnpacksSpec)

/-- ITS FALSE NEIGHBOUR: 'it returns false'. Refute it at one input. -/
def recordUnpacksWrong : ChangeSpec := { name := "recordUnpacks", fn := fun _ => fun
  | [d] => { results := [.lit (.bool false)], args := [d] }
  | _ => none }
def RecordUnpacksWrongFalsely : Prop := recordUnpacksRow.holds Try.pinned (OpenSpec.ofChange recordUnpacksWrong)

/-- 'gleanerlaw.RecordBack': WHATEVER THE INPUT: true; the input reads as it did. -/
def recordBackSpec : ChangeSpec := { name := "recordBack", fn := fun _ => fun
  | [d1, d2] => { results := [.lit (.bool true)], args := [d1, d2] }
  | _ => none }
def recordBackRow : OpenClaim := { program := "ytofidfkojmbdoaa", sum := "4376c38098d68c8fd9ac26b0cc0efdda6516900fddc1c9863812d21f29922961", func := "gleaner/gleanerlaw.RecordBack", spec := "recordBack", unfollowed := true, recurses := true, apart := false }
def RecordBackSaid : Prop := recordBackRow.holds Try.pinned (OpenSpec.ofChange recordBackSpec)

/-- ITS FALSE NEIGHBOUR: 'it returns false'. Refute it at one input. -/
def recordBackWrong : ChangeSpec := { name := "recordBack", fn := fun _ => fun
  | [d1, d2] => { results := [.lit (.bool false)], args := [d1, d2] }
  | _ => none }
def RecordBackWrongFalsely : Prop := recordBackRow.holds Try.pinned (OpenSpec.ofChange recordBackWrong)

/-- 'gleanerlaw.ShardChecks': WHATEVER THE INPUT: true; the input reads as it did. -/
def shardChecksSpec : ChangeSpec := { name := "shardChecks", fn := fun _ => fun
  | [d] => { results := [.lit (.bool true)], args := [d] }
  | _ => none }
def shardChecksRow : OpenClaim := { program := "ytofidfkojmbdoaa", sum := "4376c38098d68c8fd9ac26b0cc0efdda6516900fddc1c9863812d21f29922961", func := "gleaner/gleanerlaw.ShardChecks", spec := "shardChecks", unfollowed := true, recurses := true, apart := false }
def ShardChecksSaid : Prop := shardChecksRow.holds Try.pinned (OpenSpec.ofChange shardChecksSpec)

/-- ITS FALSE NEIGHBOUR: 'it returns false'. Refute it at one input. -/
def shardChecksWrong : ChangeSpec := { name := "shardChecks", fn := fun _ => fun
  | [d] => { results := [.lit (.bool false)], args := [d] }
  | _ => none }
def ShardChecksWrongFalsely : Prop := shardChecksRow.holds Try.pinned (OpenSpec.ofChange shardChecksWrong)

/-- 'gleanerlaw.ShardPushes': WHATEVER THE INPUT: true; the input reads as it did. -/
def shardPushesSpec : ChangeSpec := { name := "shardPushes", fn := fun _ => fun
  | [d1, d2] => { results := [.lit (.bool true)], args := [d1, d2] }
  | _ => none }
def shardPushesRow : OpenClaim := { program := "ytofidfkojmbdoaa", sum := "4376c38098d68c8fd9ac26b0cc0efdda6516900fddc1c9863812d21f29922961", func := "gleaner/gleanerlaw.ShardPushes", spec := "shardPushes", unfollowed := true, recurses := true, apart := false }
def ShardPushesSaid : Prop := shardPushesRow.holds Try.pinned (OpenSpec.ofChange shardPushesSpec)

/-- ITS FALSE NEIGHBOUR: 'it returns false'. Refute it at one input. -/
def shardPushesWrong : ChangeSpec := { name := "shardPushes", fn := fun _ => fun
  | [d1, d2] => { results := [.lit (.bool false)], args := [d1, d2] }
  | _ => none }
def ShardPushesWrongFalsely : Prop := shardPushesRow.holds Try.pinned (OpenSpec.ofChange shardPushesWrong)

/-- 'gleanerlaw.ShardNexts': WHATEVER THE INPUT: true; the input reads as it did. -/
def shardNextsSpec : ChangeSpec := { name := "shardNexts", fn := fun _ => fun
  | [d1, d2] => { results := [.lit (.bool true)], args := [d1, d2] }
  | _ => none }
def shardNextsRow : OpenClaim := { program := "ytofidfkojmbdoaa", sum := "4376c38098d68c8fd9ac26b0cc0efdda6516900fddc1c9863812d21f29922961", func := "gleaner/gleanerlaw.ShardNexts", spec := "shardNexts", unfollowed := true, recurses := true, apart := false }
def ShardNextsSaid : Prop := shardNextsRow.holds Try.pinned (OpenSpec.ofChange shardNextsSpec)

/-- ITS FALSE NEIGHBOUR: 'it returns false'. Refute it at one input. -/
def shardNextsWrong : ChangeSpec := { name := "shardNexts", fn := fun _ => fun
  | [d1, d2] => { results := [.lit (.bool false)], args := [d1, d2] }
  | _ => none }
def ShardNextsWrongFalsely : Prop := shardNextsRow.holds Try.pinned (OpenSpec.ofChange shardNextsWrong)

/-- 'gleanerlaw.ShardDones': WHATEVER THE INPUT: true; the input reads as it did. -/
def shardDonesSpec : ChangeSpec := { name := "shardDones", fn := fun _ => fun
  | [d1, d2, d3] => { results := [.lit (.bool true)], args := [d1, d2, d3] }
  | _ => none }
def shardDonesRow : OpenClaim := { program := "ytofidfkojmbdoaa", sum := "4376c38098d68c8fd9ac26b0cc0efdda6516900fddc1c9863812d21f29922961", func := "gleaner/gleanerlaw.ShardDones", spec := "shardDones", unfollowed := true, recurses := true, apart := false }
def ShardDonesSaid : Prop := shardDonesRow.holds Try.pinned (OpenSpec.ofChange shardDonesSpec)

/-- ITS FALSE NEIGHBOUR: 'it returns false'. Refute it at one input. -/
def shardDonesWrong : ChangeSpec := { name := "shardDones", fn := fun _ => fun
  | [d1, d2, d3] => { results := [.lit (.bool false)], args := [d1, d2, d3] }
  | _ => none }
def ShardDonesWrongFalsely : Prop := shardDonesRow.holds Try.pinned (OpenSpec.ofChange shardDonesWrong)

/-- 'gleanerlaw.ShardGoes': WHATEVER THE INPUT: true; the input reads as it did. -/
def shardGoesSpec : ChangeSpec := { name := "shardGoes", fn := fun _ => fun
  | [d1, d2] => { results := [.lit (.bool true)], args := [d1, d2] }
  | _ => none }
def shardGoesRow : OpenClaim := { program := "ytofidfkojmbdoaa", sum := "4376c38098d68c8fd9ac26b0cc0efdda6516900fddc1c9863812d21f29922961", func := "gleaner/gleanerlaw.ShardGoes", spec := "shardGoes", unfollowed := true, recurses := true, apart := false }
def ShardGoesSaid : Prop := shardGoesRow.holds Try.pinned (OpenSpec.ofChange shardGoesSpec)

/-- ITS FALSE NEIGHBOUR: 'it returns false'. Refute it at one input. -/
def shardGoesWrong : ChangeSpec := { name := "shardGoes", fn := fun _ => fun
  | [d1, d2] => { results := [.lit (.bool false)], args := [d1, d2] }
  | _ => none }
def ShardGoesWrongFalsely : Prop := shardGoesRow.holds Try.pinned (OpenSpec.ofChange shardGoesWrong)

/-- 'gleanerlaw.ShardWaits': WHATEVER THE INPUT: true; the input reads as it did. -/
def shardWaitsSpec : ChangeSpec := { name := "shardWaits", fn := fun _ => fun
  | [d1, d2] => { results := [.lit (.bool true)], args := [d1, d2] }
  | _ => none }
def shardWaitsRow : OpenClaim := { program := "ytofidfkojmbdoaa", sum := "4376c38098d68c8fd9ac26b0cc0efdda6516900fddc1c9863812d21f29922961", func := "gleaner/gleanerlaw.ShardWaits", spec := "shardWaits", unfollowed := true, recurses := true, apart := false }
def ShardWaitsSaid : Prop := shardWaitsRow.holds Try.pinned (OpenSpec.ofChange shardWaitsSpec)

/-- ITS FALSE NEIGHBOUR: 'it returns false'. Refute it at one input. -/
def shardWaitsWrong : ChangeSpec := { name := "shardWaits", fn := fun _ => fun
  | [d1, d2] => { results := [.lit (.bool false)], args := [d1, d2] }
  | _ => none }
def ShardWaitsWrongFalsely : Prop := shardWaitsRow.holds Try.pinned (OpenSpec.ofChange shardWaitsWrong)

/-- 'gleanerlaw.ShardWhich': WHATEVER THE INPUT: true; the input reads as it did. -/
def shardWhichSpec : ChangeSpec := { name := "shardWhich", fn := fun _ => fun
  | [d1, d2] => { results := [.lit (.bool true)], args := [d1, d2] }
  | _ => none }
def shardWhichRow : OpenClaim := { program := "ytofidfkojmbdoaa", sum := "4376c38098d68c8fd9ac26b0cc0efdda6516900fddc1c9863812d21f29922961", func := "gleaner/gleanerlaw.ShardWhich", spec := "shardWhich", unfollowed := true, recurses := true, apart := false }
def ShardWhichSaid : Prop := shardWhichRow.holds Try.pinned (OpenSpec.ofChange shardWhichSpec)

/-- ITS FALSE NEIGHBOUR: 'it returns false'. Refute it at one input. -/
def shardWhichWrong : ChangeSpec := { name := "shardWhich", fn := fun _ => fun
  | [d1, d2] => { results := [.lit (.bool false)], args := [d1, d2] }
  | _ => none }
def ShardWhichWrongFalsely : Prop := shardWhichRow.holds Try.pinned (OpenSpec.ofChange shardWhichWrong)

/- THE SECOND FORM. 'bulk': how many values and letters a reading holds, each counted each time it is reached (what is shared counts as often as it is met; a slice's spare places count too). A statement '..UptoSaid' is the law's where the arguments, and the package variables that the reading takes, are together of bulk at most 1048576: NARROWER than '..Said'. Prove '..Said' where nothing that the law and all that it calls make is longer than what came in: it says more and counts as full. Else prove '..UptoSaid'. A law counts once. -/
mutual
def uptoBulk {H : Type} : DataW H → Nat
  | .lit (.string bytes) => bytes.length + 1
  | .lit _ => 1
  | .nil => 1
  | .ptr d => uptoBulk d + 1
  | .slice elems spare => uptoBulkAll elems + uptoBulkAll spare + 1
  | .agg parts => uptoBulkAll parts + 1
  | .iface _ d => uptoBulk d + 1
  | .map entries => uptoBulkEntries entries + 1
  | .held _ => 1
def uptoBulkAll {H : Type} : List (DataW H) → Nat
  | [] => 0
  | d :: r => uptoBulk d + uptoBulkAll r
def uptoBulkEntries {H : Type} : List (Lit × DataW H) → Nat
  | [] => 0
  | x :: r => uptoBulkEntry x + uptoBulkEntries r
def uptoBulkEntry {H : Type} : Lit × DataW H → Nat
  | (.string bytes, d) => bytes.length + uptoBulk d + 1
  | (_, d) => uptoBulk d + 1
 end
def uptoSmall : (H : Type) → List (DataW H) → Bool := fun _ ds => decide (uptoBulkAll ds ≤ 1048576)
def OpenSpec.upto (s : _root_.Go.ChangeSpec) : _root_.Go.OpenSpec := { _root_.Go.OpenSpec.ofChange s with cond := some uptoSmall }

/-- 'gleanerlaw.RecordPacks', WHERE WHAT IT READS IS OF BULK AT MOST 1048576: true; the input reads as it did. -/
def recordPacksUptoRow : OpenClaim := { program := "ytofidfkojmbdoaa", sum := "4376c38098d68c8fd9ac26b0cc0efdda6516900fddc1c9863812d21f29922961", func := "gleaner/gleanerlaw.RecordPacks", spec := "recordPacks", unfollowed := true, recurses := true, apart := false, narrowed := true }
def RecordPacksUptoSaid : Prop := recordPacksUptoRow.holds Try.pinned (OpenSpec.upto recordPacksSpec)

/-- 'gleanerlaw.RecordUnpacks', WHERE WHAT IT READS IS OF BULK AT MOST 1048576: true; the input reads as it did. -/
def recordUnpacksUptoRow : OpenClaim := { program := "ytofidfkojmbdoaa", sum := "4376c38098d68c8fd9ac26b0cc0efdda6516900fddc1c9863812d21f29922961", func := "gleaner/gleanerlaw.RecordUnpacks", spec := "recordUnpacks", unfollowed := true, recurses := true, apart := false, narrowed := true }
def RecordUnpacksUptoSaid : Prop := recordUnpacksUptoRow.holds Try.pinned (OpenSpec.upto recordUnpacksSpec)

/-- 'gleanerlaw.RecordBack', WHERE WHAT IT READS IS OF BULK AT MOST 1048576: true; the input reads as it did. -/
def recordBackUptoRow : OpenClaim := { program := "ytofidfkojmbdoaa", sum := "4376c38098d68c8fd9ac26b0cc0efdda6516900fddc1c9863812d21f29922961", func := "gleaner/gleanerlaw.RecordBack", spec := "recordBack", unfollowed := true, recurses := true, apart := false, narrowed := true }
def RecordBackUptoSaid : Prop := recordBackUptoRow.holds Try.pinned (OpenSpec.upto recordBackSpec)

/-- 'gleanerlaw.ShardChecks', WHERE WHAT IT READS IS OF BULK AT MOST 1048576: true; the input reads as it did. -/
def shardChecksUptoRow : OpenClaim := { program := "ytofidfkojmbdoaa", sum := "4376c38098d68c8fd9ac26b0cc0efdda6516900fddc1c9863812d21f29922961", func := "gleaner/gleanerlaw.ShardChecks", spec := "shardChecks", unfollowed := true, recurses := true, apart := false, narrowed := true }
def ShardChecksUptoSaid : Prop := shardChecksUptoRow.holds Try.pinned (OpenSpec.upto shardChecksSpec)

/-- 'gleanerlaw.ShardPushes', WHERE WHAT IT READS IS OF BULK AT MOST 1048576: true; the input reads as it did. -/
def shardPushesUptoRow : OpenClaim := { program := "ytofidfkojmbdoaa", sum := "4376c38098d68c8fd9ac26b0cc0efdda6516900fddc1c9863812d21f29922961", func := "gleaner/gleanerlaw.ShardPushes", spec := "shardPushes", unfollowed := true, recurses := true, apart := false, narrowed := true }
def ShardPushesUptoSaid : Prop := shardPushesUptoRow.holds Try.pinned (OpenSpec.upto shardPushesSpec)

/-- 'gleanerlaw.ShardNexts', WHERE WHAT IT READS IS OF BULK AT MOST 1048576: true; the input reads as it did. -/
def shardNextsUptoRow : OpenClaim := { program := "ytofidfkojmbdoaa", sum := "4376c38098d68c8fd9ac26b0cc0efdda6516900fddc1c9863812d21f29922961", func := "gleaner/gleanerlaw.ShardNexts", spec := "shardNexts", unfollowed := true, recurses := true, apart := false, narrowed := true }
def ShardNextsUptoSaid : Prop := shardNextsUptoRow.holds Try.pinned (OpenSpec.upto shardNextsSpec)

/-- 'gleanerlaw.ShardDones', WHERE WHAT IT READS IS OF BULK AT MOST 1048576: true; the input reads as it did. -/
def shardDonesUptoRow : OpenClaim := { program := "ytofidfkojmbdoaa", sum := "4376c38098d68c8fd9ac26b0cc0efdda6516900fddc1c9863812d21f29922961", func := "gleaner/gleanerlaw.ShardDones", spec := "shardDones", unfollowed := true, recurses := true, apart := false, narrowed := true }
def ShardDonesUptoSaid : Prop := shardDonesUptoRow.holds Try.pinned (OpenSpec.upto shardDonesSpec)

/-- 'gleanerlaw.ShardGoes', WHERE WHAT IT READS IS OF BULK AT MOST 1048576: true; the input reads as it did. -/
def shardGoesUptoRow : OpenClaim := { program := "ytofidfkojmbdoaa", sum := "4376c38098d68c8fd9ac26b0cc0efdda6516900fddc1c9863812d21f29922961", func := "gleaner/gleanerlaw.ShardGoes", spec := "shardGoes", unfollowed := true, recurses := true, apart := false, narrowed := true }
def ShardGoesUptoSaid : Prop := shardGoesUptoRow.holds Try.pinned (OpenSpec.upto shardGoesSpec)

/-- 'gleanerlaw.ShardWaits', WHERE WHAT IT READS IS OF BULK AT MOST 1048576: true; the input reads as it did. -/
def shardWaitsUptoRow : OpenClaim := { program := "ytofidfkojmbdoaa", sum := "4376c38098d68c8fd9ac26b0cc0efdda6516900fddc1c9863812d21f29922961", func := "gleaner/gleanerlaw.ShardWaits", spec := "shardWaits", unfollowed := true, recurses := true, apart := false, narrowed := true }
def ShardWaitsUptoSaid : Prop := shardWaitsUptoRow.holds Try.pinned (OpenSpec.upto shardWaitsSpec)

/-- 'gleanerlaw.ShardWhich', WHERE WHAT IT READS IS OF BULK AT MOST 1048576: true; the input reads as it did. -/
def shardWhichUptoRow : OpenClaim := { program := "ytofidfkojmbdoaa", sum := "4376c38098d68c8fd9ac26b0cc0efdda6516900fddc1c9863812d21f29922961", func := "gleaner/gleanerlaw.ShardWhich", spec := "shardWhich", unfollowed := true, recurses := true, apart := false, narrowed := true }
def ShardWhichUptoSaid : Prop := shardWhichUptoRow.holds Try.pinned (OpenSpec.upto shardWhichSpec)

end Rows
end Go.Proofs.Ytofidfkojmbdoaa
