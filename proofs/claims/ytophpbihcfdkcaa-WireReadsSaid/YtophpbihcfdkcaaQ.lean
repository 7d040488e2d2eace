/- A region that draws its order, whose operations only read and whose callees make memory: one walk in the text's order; the class of worlds: whatever keeps what was there. -/
import Derived.Test.YtophpbihcfdkcaaP
import Derived.WalkKit
import Derived.BigQuiet
import Derived.Deep.QuietTactic
import Derived.Lib.Hide
namespace Go.Proofs.Ytophpbihcfdkcaa
open Go.RowKit

/-- The worlds in which all that was there in X is as it was. -/
def Later (X : World) : Type := { w : World // Below X.heap.size X w }
def Later.w {X : World} (c : Later X) : World := c.1
theorem Later.below {X : World} (c : Later X) : Below X.heap.size X c.w := c.2
instance later_nonempty (X : World) : Nonempty (Later X) := ⟨⟨X, Below.refl _ _⟩⟩
theorem later_mk {X w : World} (h : Below X.heap.size X w) : ∃ c : Later X, w = c.w := ⟨⟨w, h⟩, rfl⟩

theorem wp_region_later {P : Program} {id : Nat} {Q : Exit → Act → World → Prop} {a : Act} {w : World} {l : List Oper} (hm : P.follows .mixedOrders = true) (hB : Region.lexB .any l.toArray = true)
    (h : wpQuiet P l.toArray (fun w' => ∃ c : Later w, w' = c.w) (fun a' => ∀ w', (∃ c : Later w, w' = c.w) → Q .normal a' w') l a) : (Code.region id l.toArray true).wp P Q a w :=
  wp_region_quiet (C := fun w' => ∃ c : Later w, w' = c.w) hm hB (later_mk ((Below.refl _ _).drew)) (by simpa using h)

/-- A callee's contract in a later world. -/
theorem Calls.later {P : Program} {f : FuncId} {args : Array Value} {X : World} {c : Later X} {v : Value}
    (h : Calls P f args c.w fun e w' => e = .returned v ∧ Below c.w.heap.size c.w w') : Calls P f args c.w fun e w'' => e = .returned v ∧ ∃ d : Later X, w'' = d.w :=
  h.mono fun _ _ ⟨he, hb⟩ => ⟨he, later_mk (c.below.trans (hb.mono c.below.size))⟩
theorem Calls.later_same {P : Program} {f : FuncId} {args : Array Value} {X : World} {c : Later X} {v : Value}
    (h : Calls P f args c.w fun e w' => e = .returned v ∧ c.w = w') : Calls P f args c.w fun e w'' => e = .returned v ∧ ∃ d : Later X, w'' = d.w :=
  h.mono fun _ _ ⟨he, hb⟩ => ⟨he, c, hb.symm⟩
/-- A cell that is there, in a later world. -/
theorem later_cell {X : World} {a : Addr} {v : Value} (h : X.cell? a = some v) : ∀ c : Later X, c.w.cell? a = some v := fun c =>
  (c.below.cell (p := a) (World.block_lt_of_cell? _ _ h)).trans h
theorem later_frozen {X : World} {a : Addr} {v : Value} (h : X.cell? a = some v) : ∀ c : Later X, c.w.frozen? a = X.frozen? a := fun c => c.below.frozen (p := a) (World.block_lt_of_cell? _ _ h)

end Go.Proofs.Ytophpbihcfdkcaa
