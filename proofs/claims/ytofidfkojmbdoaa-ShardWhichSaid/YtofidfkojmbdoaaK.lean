-- slim: written by gen/slim.py from XK.lean.tpl
/- Small laws for the walks: bits of the wire's numbers, bytes that the call owns read as a string, what stays below. -/
import Derived.Test.YtofidfkojmbdoaaRows
import Derived.Test.YtofidfkojmbdoaaP
import Derived.WalkKit
import Derived.WalkSpells
import Derived.WalkLawsBesides
import Derived.Lib.VarintBits
import Derived.Lib.BufferRead
import Derived.Lib.Hide
namespace Go.Proofs.Ytofidfkojmbdoaa
open Go.RowKit P

/-- 'byte(n)|128' -/
theorem or128 (n : Int) (h : 0 ≤ n) : bits BinOp.or IntKind.u8 (IntKind.u8.wrap n) 128 = ((bt (n.toNat % 128 + 128)).toNat : Int) := by
  obtain ⟨m, rfl⟩ := Int.eq_ofNat_of_zero_le h
  have e : IntKind.u8.wrap (m : Int) = ((m % 256 : Nat) : Int) := by rw [IntKind.wrap_u8]; omega
  have e3 : (bt ((m : Int).toNat % 128 + 128)).toNat = m % 128 + 128 := by rw [bt_toNat (by omega)]; omega
  rw [e, e3]
  have hb := (bits_nat .u8 8 (by decide) wraps_u8 (m % 256) 128 (by omega) (by omega)).2
  rw [show ((128 : Nat) : Int) = 128 from rfl] at hb
  rw [hb]
  have h2 : m % 256 < 256 := by omega
  have : ∀ x : Fin 256, x.val ||| 128 = x.val % 128 + 128 := by decide +kernel
  have := this ⟨m % 256, h2⟩
  simp only at this
  rw [this]; omega

section
variable {Pr : Program}
/-- 'string(b)', b the call's own. -/
theorem conv_own {w : World} {base : Nat} {e src dst : TypeId} {v : Value} {l : List UInt8} (h : w.ownsRow base e 1 v l.length (Lib.byteCells l))
    (hs : Pr.underlying src = some (.slice e)) (he : Pr.underlying e = some (.int .u8)) (hd : Pr.underlying dst = some .string) :
    (convert src dst v).run Pr w = .ok (.string (mkB l)) w := by
  rcases h.2 with ⟨rfl, h0⟩ | ⟨g, cap, cur, rfl, _, hg, _, _, _, htk⟩
  · have : l = [] := List.length_eq_zero_iff.1 h0
    subst this
    exact Lib.run_convert_nil_bytes w src dst e 0 hs he hd
  · refine run_convert_bytes_back w src dst e ⟨g, 0, none⟩ cap l hs he hd (Lib.bytes_of_row hg ?_)
    simpa using htk

end

theorem one_cell (c : Int) : ∀ u ∈ [Value.int IntKind.u8 c], u.oneCell' = true := by intro u hu; simp at hu; subst hu; rfl

theorem ret_str {s t : ByteArray} (h : s = t) : Ending.returned (.string s) = .returned (.string t) := by rw [h]

/-- How many bytes a text that is read takes at most. -/
def Small (n : Nat) : Prop := n ≤ 140737488351232
theorem Small.le {n : Nat} (h : Small n) : n ≤ 140737488351232 := h

end Go.Proofs.Ytofidfkojmbdoaa
