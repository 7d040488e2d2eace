-- slim: written by gen/slim.py from XK.lean.tpl
/- Small laws for the walks: bits of the wire's numbers, bytes that the call owns read as a string, what stays below. -/
import Derived.Test.YtgmbgbalcndohaaRows
import Derived.Test.YtgmbgbalcndohaaP
import Derived.WalkKit
import Derived.WalkSpells
import Derived.WalkLawsBesides
import Derived.Lib.VarintBits
import Derived.Lib.BufferRead
import Derived.Lib.Hide
namespace Go.Proofs.Ytgmbgbalcndohaa
open Go.RowKit P

theorem mod_dvd_pow (a k : Nat) : (a * 128 ^ k) % 2 ^ (7 * k) = 0 := by
  have : (128 : Nat) ^ k = 2 ^ (7 * k) := by rw [Nat.pow_mul]
  rw [this]; exact Nat.mul_mod_left _ _

/-- 'n |= uint64(c&127) << (7 * i)'. -/
theorem or7 (k acc c : Nat) (ha : acc < 128 ^ k) (hc : c < 256) (hk : k ≤ 9) (h9 : k = 9 → c % 128 ≤ 1) :
    bits BinOp.or IntKind.u64 (acc : Int) (IntKind.u64.wrap (IntKind.u64.wrap (bits BinOp.and IntKind.u8 (c : Int) 127) * 2 ^ (7 * k))) = ((acc + (c % 128) * 128 ^ k : Nat) : Int) := by
  have e7 : (128 : Nat) ^ k = 2 ^ (7 * k) := by rw [Nat.pow_mul]
  have h1 : bits BinOp.and IntKind.u8 (c : Int) 127 = ((c % 128 : Nat) : Int) := by
    rw [u8_and127 (c : Int) (by omega) (by omega)]; omega
  have hw : IntKind.u64.wrap ((c % 128 : Nat) : Int) = ((c % 128 : Nat) : Int) := wraps_u64 _ (by omega) (by omega)
  have hb : (c % 128) * 128 ^ k < 2 ^ 64 := by
    by_cases e : k = 9
    · have h2 := h9 e
      subst e
      have h3 : (c % 128) * 128 ^ 9 ≤ 1 * 128 ^ 9 := Nat.mul_le_mul_right _ h2
      have : (128 : Nat) ^ 9 = 9223372036854775808 := by decide
      omega
    · have h3 : 128 ^ k ≤ (128 : Nat) ^ 8 := Nat.pow_le_pow_right (by decide) (by omega)
      have h4 : (c % 128) * 128 ^ k ≤ 127 * 128 ^ k := Nat.mul_le_mul_right _ (by omega)
      have : (128 : Nat) ^ 8 = 72057594037927936 := by decide
      omega
  have hp : ((c % 128 : Nat) : Int) * 2 ^ (7 * k) = (((c % 128) * 128 ^ k : Nat) : Int) := by rw [e7]; simp
  have ha2 : acc < 2 ^ 64 := by
    have h3 : 128 ^ k ≤ (128 : Nat) ^ 9 := Nat.pow_le_pow_right (by decide) (by omega)
    have : (128 : Nat) ^ 9 = 9223372036854775808 := by decide
    omega
  rw [h1, hw, hp, wraps_u64 _ (by omega) (by exact_mod_cast hb)]
  rw [bits_join_low .u64 64 (by decide) wraps_u64 (7 * k) (acc : Int) _ (by omega) (by rw [e7] at ha; exact_mod_cast ha) (by exact_mod_cast ha2) (by omega)
    (by exact_mod_cast mod_dvd_pow (c % 128) k) (by exact_mod_cast hb)]
  simp

/-- 'byte(n)|128' -/
theorem or128 (n : Int) (h : 0 ≤ n) : bits BinOp.or IntKind.u8 (IntKind.u8.wrap n) 128 = ((bt (n.toNat % 128 + 128)).toNat : Int) := by
  obtain ⟨m, rfl⟩ := Int.eq_ofNat_of_zero_le h
  have e : IntKind.u8.wrap (m : Int) = ((m % 256 : Nat) : Int) := by rw [IntKind.wrap_u8]; omega
  have e3 : (bt ((m : Int).toNat % 128 + 128)).toNat = m % 128 + 128 := by rw [bt_toNat (by omega)]; omega
  rw [e, e3]
  have hb := (bits_nat .u8 8 (by decide) wraps_u8 (m % 256) 128 (by omega) (by omega)).2
  rw [show ((128 : Nat) : Int) = 128 from rfl] at hb
  rw [hb]
  have h2 : m % 256 < 256 := by omega
  have : ∀ x : Fin 256, x.val ||| 128 = x.val % 128 + 128 := by decide +kernel
  have := this ⟨m % 256, h2⟩
  simp only at this
  rw [this]; omega

section
variable {Pr : Program}
/-- 'string(b)', b the call's own. -/
theorem conv_own {w : World} {base : Nat} {e src dst : TypeId} {v : Value} {l : List UInt8} (h : w.ownsRow base e 1 v l.length (Lib.byteCells l))
    (hs : Pr.underlying src = some (.slice e)) (he : Pr.underlying e = some (.int .u8)) (hd : Pr.underlying dst = some .string) :
    (convert src dst v).run Pr w = .ok (.string (mkB l)) w := by
  rcases h.2 with ⟨rfl, h0⟩ | ⟨g, cap, cur, rfl, _, hg, _, _, _, htk⟩
  · have : l = [] := List.length_eq_zero_iff.1 h0
    subst this
    exact Lib.run_convert_nil_bytes w src dst e 0 hs he hd
  · refine run_convert_bytes_back w src dst e ⟨g, 0, none⟩ cap l hs he hd (Lib.bytes_of_row hg ?_)
    simpa using htk

end

theorem one_cell (c : Int) : ∀ u ∈ [Value.int IntKind.u8 c], u.oneCell' = true := by intro u hu; simp at hu; subst hu; rfl

theorem ret_str {s t : ByteArray} (h : s = t) : Ending.returned (.string s) = .returned (.string t) := by rw [h]

/-- How many bytes a text that is read takes at most. -/
def Small (n : Nat) : Prop := n ≤ 140737488351232
theorem Small.le {n : Nat} (h : Small n) : n ≤ 140737488351232 := h

end Go.Proofs.Ytgmbgbalcndohaa
