-- slim: written by gen/slim.py from XEPD.r.lean.tpl
/- What the plain functions come to: records packed and unpacked by the reference. -/
import Derived.Test.YtgmbgbalcndohaaEPC
namespace Go.Proofs.Ytgmbgbalcndohaa
open Go.RowKit P
set_option linter.unusedVariables false
set_option linter.unusedSimpArgs false
/-! ### Unpacked by the reference -/
section
variable (N : Nat) (k8 : Int → Int → Int → List VRef → List VPoint → Int → List VRef → List VPoint → VCursor → Option (VRecord × Int)) (x7 x8 a0 : Int) (a1 : List VRef) (a2 : List VPoint) (b0 : Int) (b1 : List VRef) (b2 : List VPoint) (rf : Int)
end
theorem manyR_eq {α : Type} {f : List UInt8 → Option (α × List UInt8)} (hf : ∀ {s x t}, f s = some (x, t) → t.length < s.length) (s : List UInt8) : manyR f s = (numR s).bind fun p => repR f p.1 p.2 := by
  unfold manyR
  congr 1
  funext p
  by_cases h : p.1 ≤ p.2.length
  · rw [if_pos h]
  · rw [if_neg h]
    cases hq : repR f p.1 p.2 with
    | none => rfl
    | some q =>
      have := (repR_len hf (t := q.2) (l := q.1) hq).1
      omega
end Go.Proofs.Ytgmbgbalcndohaa
