/- What the plain functions come to: the wire's writing. -/
import Derived.Test.YtofidfkojmbdoaaEX
namespace Go.Proofs.Ytofidfkojmbdoaa
open Go.RowKit P
set_option linter.unusedVariables false
set_option linter.unusedSimpArgs false

theorem wu64 {n : Int} (h1 : 0 ≤ n) (h2 : n < 18446744073709551616) : IntKind.wrap .u64 n = n := by
  simp [IntKind.wrap, IntKind.signed, IntKind.bits]
  omega
theorem toB_u8 (n : Nat) : toB (IntKind.wrap .u8 (n : Int)) = bt (n % 256) := by
  have : IntKind.wrap .u8 (n : Int) = ((n % 256 : Nat) : Int) := by
    simp [IntKind.wrap, IntKind.signed, IntKind.bits]
  rw [this]; rfl
theorem or128F : ∀ m : _root_.Fin 256, toB (bits .or .u8 (b2i (bt m.1)) (b2i 128)) = bt (m.1 % 128 + 128) := by decide +kernel
theorem catC_is {a b : List UInt8} (h : a.length + b.length ≤ 9223372036854775807) : catC a b = some (a ++ b) := by unfold catC; rw [if_pos h]
theorem shr7 (n : Nat) : shrC .u64 (n : Int) 7 = some ((n / 128 : Nat) : Int) := by
  unfold shrC
  rw [if_pos (by omega)]
  have : min (7 : Int).toNat IntKind.u64.bits = 7 := by decide
  rw [this]
  congr 1
  rw [Int.fdiv_eq_ediv_of_nonneg _ (by decide)]
  have : ((2 : Int) ^ 7) = ((128 : Nat) : Int) := by decide
  rw [this, ← Int.natCast_ediv]
theorem number_loop (N : Nat) : ∀ (k n m : Nat) (acc : List UInt8), n < 18446744073709551616 → n < 128 ^ (k + 1) → k < m → acc.length + 2 * k ≤ 1000 → wire_Number_L2 N m (n : Int) acc = some (acc ++ num n)
  | k, n, 0, acc, _, _, h, _ => by omega
  | 0, n, m + 1, acc, h1, h2, h3, h4 => by
    unfold wire_Number_L2
    have : decide ((n : Int) > 127) = false := by simp at h2 ⊢; omega
    rw [this, cond_false, appC_is (by simp; omega), Option.bind_some, toB_u8]
    rw [num_small (by simpa using h2)]
    congr 4
    simp at h2; omega
  | k + 1, n, m + 1, acc, h1, h2, h3, h4 => by
    unfold wire_Number_L2
    by_cases hb : n < 128
    · have : decide ((n : Int) > 127) = false := by simp; omega
      rw [this, cond_false, appC_is (by simp; omega), Option.bind_some, toB_u8, num_small hb]
      congr 4; omega
    · have : decide ((n : Int) > 127) = true := by simp; omega
      have hor := or128F ⟨n % 256, Nat.mod_lt _ (by decide)⟩
      simp only at hor
      rw [this, cond_true, toB_u8, hor, appC_is (by simp; omega), Option.bind_some, shr7, Option.bind_some, number_loop N k (n / 128) m _ (by omega) (by rw [Nat.pow_succ] at h2; omega) (by omega) (by simp; omega), num_big (by omega) h1]
      have : n % 256 % 128 = n % 128 := by omega
      rw [this]; simp
theorem number_is (N n : Nat) (h : n < 18446744073709551616) (hN : 10 < N) : wire_Number N (n : Int) = some (num n) := by
  unfold wire_Number
  exact number_loop N 9 n N [] h (by omega) (by omega) (by simp)
theorem refNumber_loop (N : Nat) : ∀ (k n m : Nat) (acc : List UInt8), n < 18446744073709551616 → n < 128 ^ (k + 1) → k < m → acc.length + 2 * k ≤ 1000 → ref_NumberOf_L2 N m (n : Int) acc = some (acc ++ num n)
  | k, n, 0, acc, _, _, h, _ => by omega
  | 0, n, m + 1, acc, h1, h2, h3, h4 => by
    unfold ref_NumberOf_L2
    have : decide ((n : Int) ≥ 128) = false := by simp at h2 ⊢; omega
    rw [this, cond_false, catC_is (by simp; omega), Option.bind_some, toB_u8, num_small (by simpa using h2)]
    congr 4
    simp at h2; omega
  | k + 1, n, m + 1, acc, h1, h2, h3, h4 => by
    unfold ref_NumberOf_L2
    by_cases hb : n < 128
    · have : decide ((n : Int) ≥ 128) = false := by simp; omega
      rw [this, cond_false, catC_is (by simp; omega), Option.bind_some, toB_u8, num_small hb]
      congr 4; omega
    · have : decide ((n : Int) ≥ 128) = true := by simp; omega
      have hr : remC (n : Int) 128 = some ((n % 128 : Nat) : Int) := by
        unfold remC
        rw [if_neg (by decide)]
        congr 1
      have hq : quoC .u64 (n : Int) 128 = some ((n / 128 : Nat) : Int) := by
        unfold quoC
        rw [if_neg (by decide)]
        congr 1
        rw [Int.tdiv_eq_ediv_of_nonneg (by omega), wu64 (by omega) (by omega)]; omega
      have hw : IntKind.wrap .u64 (((n % 128 : Nat) : Int) + 128) = ((n % 128 + 128 : Nat) : Int) := by rw [wu64 (by omega) (by omega)]; omega
      rw [this, cond_true, hr, Option.bind_some, hw, toB_u8, catC_is (by simp; omega), Option.bind_some, hq, Option.bind_some, refNumber_loop N k (n / 128) m _ (by omega) (by rw [Nat.pow_succ] at h2; omega) (by omega) (by simp; omega), num_big (by omega) h1]
      have : (n % 128 + 128) % 256 = n % 128 + 128 := by omega
      rw [this]; simp
theorem refNumber_is (N n : Nat) (h : n < 18446744073709551616) (hN : 10 < N) : ref_NumberOf N (n : Int) = some (num n) := by
  unfold ref_NumberOf
  exact refNumber_loop N 9 n N [] h (by omega) (by omega) (by simp)

/-! ### Fields -/
def fieldB (k : Nat) (s : List UInt8) : List UInt8 := num (8 * k + 2) ++ num s.length ++ s
theorem fieldB_len {k : Nat} (hk : k ≤ 15) {s : List UInt8} (hs : s.length < 18446744073709551616) : (fieldB k s).length ≤ s.length + 12 := by
  have h1 := num_len 2 (8 * k + 2) (by omega) (by omega) (by simp; omega) (by omega)
  have h2 := num_len10 hs
  simp only [fieldB, List.length_append]; omega
theorem field_is (N k : Nat) (hk : k = 1 ∨ k = 2) (s : List UInt8) (hs : s.length ≤ 1000000000) (hN : 10 < N) : wire_field N (k : Int) s = some (fieldB k s) := by
  have hn := num_len10 (n := s.length) (by omega)
  have h10 := num_len10 (n := 10) (by omega)
  have h18 := num_len10 (n := 18) (by omega)
  have a1 : (shlC .u64 (IntKind.wrap .u64 1) 3) = some 8 := by decide
  have a2 : (shlC .u64 (IntKind.wrap .u64 2) 3) = some 16 := by decide
  have o1 : bits .or .u64 8 2 = ((10 : Nat) : Int) := by decide
  have o2 : bits .or .u64 16 2 = ((18 : Nat) : Int) := by decide
  have hl : wire_Number N (IntKind.wrap .u64 (s.length : Int)) = some (num s.length) := by rw [wu64 (by omega) (by omega)]; exact number_is N _ (by omega) hN
  unfold wire_field
  rcases hk with rfl | rfl
  · show (shlC .u64 (IntKind.wrap .u64 1) 3).bind _ = _
    rw [a1, Option.bind_some, o1, number_is N 10 (by omega) hN, Option.bind_some, hl, Option.bind_some, catC_is (by omega), Option.bind_some, catC_is (by simp; omega)]; rfl
  · show (shlC .u64 (IntKind.wrap .u64 2) 3).bind _ = _
    rw [a2, Option.bind_some, o2, number_is N 18 (by omega) hN, Option.bind_some, hl, Option.bind_some, catC_is (by omega), Option.bind_some, catC_is (by simp; omega)]; rfl
theorem refField_is (N k : Nat) (hk : k = 1 ∨ k = 2) (s : List UInt8) (hs : s.length ≤ 1000000000) (hN : 10 < N) : ref_fieldOf N (k : Int) s = some (fieldB k s) := by
  have hn := num_len10 (n := s.length) (by omega)
  have hl : ref_NumberOf N (IntKind.wrap .u64 (s.length : Int)) = some (num s.length) := by rw [wu64 (by omega) (by omega)]; exact refNumber_is N _ (by omega) hN
  have b1 : ([toB (IntKind.wrap .u8 (w64 ((w64 (8 * 1)) + 2)))] : List UInt8) = num 10 := by decide
  have b2 : ([toB (IntKind.wrap .u8 (w64 ((w64 (8 * 2)) + 2)))] : List UInt8) = num 18 := by decide
  have h10 := num_len10 (n := 10) (by omega)
  have h18 := num_len10 (n := 18) (by omega)
  unfold ref_fieldOf
  rcases hk with rfl | rfl
  · show (ref_NumberOf N (IntKind.wrap .u64 (s.length : Int))).bind (fun z1 => (catC ([toB (IntKind.wrap .u8 (w64 ((w64 (8 * 1)) + 2)))] : List UInt8) z1).bind fun z2 => (catC z2 s).bind fun z3 => some z3) = _
    rw [b1, hl, Option.bind_some, catC_is (by omega), Option.bind_some, catC_is (by simp; omega)]; rfl
  · show (ref_NumberOf N (IntKind.wrap .u64 (s.length : Int))).bind (fun z1 => (catC ([toB (IntKind.wrap .u8 (w64 ((w64 (8 * 2)) + 2)))] : List UInt8) z1).bind fun z2 => (catC z2 s).bind fun z3 => some z3) = _
    rw [b2, hl, Option.bind_some, catC_is (by omega), Option.bind_some, catC_is (by simp; omega)]; rfl

/-! ### Samples -/
def wordF : Nat → Nat → List UInt8
  | 0, _ => []
  | k + 1, n => bt (n % 256) :: wordF k (n / 256)
theorem wordF_len : ∀ k n, (wordF k n).length = k
  | 0, _ => rfl
  | k + 1, n => by simp [wordF, wordF_len k]
theorem wordF_snoc : ∀ k n, wordF (k + 1) n = wordF k n ++ [bt (n / 256 ^ k % 256)]
  | 0, n => by simp [wordF]
  | k + 1, n => by
    have h := wordF_snoc k (n / 256)
    rw [show wordF (k + 1 + 1) n = bt (n % 256) :: wordF (k + 1) (n / 256) from rfl, h]
    simp only [wordF, List.cons_append]
    rw [Nat.div_div_eq_div_mul, Nat.pow_succ, Nat.mul_comm 256]
def uns (t : Int) : Nat := (t % 18446744073709551616).toNat
def sampleB (x : VSample) : List UInt8 := [9] ++ wordF 8 x.Bits.toNat ++ num 16 ++ num (uns x.Time)
def WSmp (x : VSample) : Prop := 0 ≤ x.Bits ∧ x.Bits < 18446744073709551616 ∧ -9223372036854775808 ≤ x.Time ∧ x.Time < 9223372036854775808
theorem uns_lt (t : Int) : uns t < 18446744073709551616 := by unfold uns; omega
theorem sampleB_len (x : VSample) : (sampleB x).length ≤ 29 := by
  have h2 := num_len10 (uns_lt x.Time)
  have h3 := num_len10 (n := 16) (by omega)
  simp only [sampleB, List.length_append, wordF_len]; simp; omega
theorem wrapT (t : Int) : IntKind.wrap .u64 t = (uns t : Int) := by
  simp [IntKind.wrap, IntKind.signed, IntKind.bits, uns]
  omega
theorem shr8 (n i : Nat) (hi : i < 8) : shrC .u64 (n : Int) (w64 (8 * (i : Int))) = some ((n / 256 ^ i : Nat) : Int) := by
  rw [w64_id (by omega) (by omega)]
  unfold shrC
  rw [if_pos (by omega)]
  have : min (8 * (i : Int)).toNat IntKind.u64.bits = 8 * i := by
    have : IntKind.u64.bits = 64 := rfl
    omega
  rw [this]
  congr 1
  have hp : ((2 : Int) ^ (8 * i)) = ((256 ^ i : Nat) : Int) := by
    rw [Int.pow_mul]; simp
  rw [hp, Int.fdiv_eq_ediv_of_nonneg _ (Int.natCast_nonneg _), ← Int.natCast_ediv]
theorem sample_loop (N : Nat) (x : VSample) (hx : WSmp x) (hN : 10 < N) : ∀ (j i m : Nat), i + j = 8 → j < m → wire_sample_L3 N m ([9] ++ wordF i x.Bits.toNat) (i : Int) x = some (sampleB x)
  | j, i, 0, _, h => by omega
  | 0, i, m + 1, hij, h => by
    have hi : i = 8 := by omega
    subst hi
    have h2 := num_len10 (uns_lt x.Time)
    have h3 := num_len10 (n := 16) (by omega)
    have hw := wordF_len 8 x.Bits.toNat
    have hn16 : wire_Number N 16 = some (num 16) := number_is N 16 (by omega) hN
    unfold wire_sample_L3
    have : decide (((8 : Nat) : Int) < 8) = false := by decide
    rw [this, cond_false, hn16, Option.bind_some, catC_is (by simp [hw]; omega), Option.bind_some, wrapT, number_is N _ (uns_lt _) hN, Option.bind_some, catC_is (by simp [hw]; omega)]
    rfl
  | j + 1, i, m + 1, hij, h => by
    have hi : i < 8 := by omega
    have hw := wordF_len i x.Bits.toNat
    have hb : x.Bits = (x.Bits.toNat : Int) := by have := hx.1; omega
    have hsh : shrC .u64 x.Bits (w64 (8 * (i : Int))) = some ((x.Bits.toNat / 256 ^ i : Nat) : Int) := by
      have := shr8 x.Bits.toNat i hi
      rw [← hb] at this; exact this
    unfold wire_sample_L3
    have : decide ((i : Int) < 8) = true := by simp; omega
    have hn : w64 ((i : Int) + 1) = ((i + 1 : Nat) : Int) := by rw [w64_id (by omega) (by omega)]; omega
    rw [this, cond_true, hsh, Option.bind_some, toB_u8, appC_is (by simp [hw]; omega), Option.bind_some, hn, List.append_assoc, ← wordF_snoc]
    exact sample_loop N x hx hN j (i + 1) m (by omega) (by omega)
theorem sample_is (N : Nat) (x : VSample) (hx : WSmp x) (hN : 10 < N) : wire_sample N x = some (sampleB x) := by
  unfold wire_sample
  have := sample_loop N x hx hN 8 0 N (by omega) (by omega)
  simpa [wordF] using this
theorem refWord_loop (N : Nat) : ∀ (j i m n : Nat) (acc : List UInt8), i + j = 8 → j < m → n < 18446744073709551616 → acc.length ≤ i → ref_Word_L3 N m (n : Int) acc (i : Int) = some (acc ++ wordF j n)
  | j, i, 0, n, acc, _, h, _, _ => by omega
  | 0, i, m + 1, n, acc, hij, h, hn, ha => by
    have hi : i = 8 := by omega
    subst hi
    unfold ref_Word_L3
    have : decide (((8 : Nat) : Int) < 8) = false := by decide
    rw [this]; simp [wordF]
  | j + 1, i, m + 1, n, acc, hij, h, hn, ha => by
    unfold ref_Word_L3
    have : decide ((i : Int) < 8) = true := by simp; omega
    have hr : remC (n : Int) 256 = some ((n % 256 : Nat) : Int) := by
      unfold remC
      rw [if_neg (by decide)]
      congr 1
    have hq : quoC .u64 (n : Int) 256 = some ((n / 256 : Nat) : Int) := by
      unfold quoC
      rw [if_neg (by decide)]
      congr 1
      rw [Int.tdiv_eq_ediv_of_nonneg (by omega), wu64 (by omega) (by omega)]; omega
    have hnx : w64 ((i : Int) + 1) = ((i + 1 : Nat) : Int) := by rw [w64_id (by omega) (by omega)]; omega
    rw [this, cond_true, hr, Option.bind_some, toB_u8, appC_is (by simp; omega), Option.bind_some, hq, Option.bind_some, hnx, refWord_loop N j (i + 1) m (n / 256) _ (by omega) (by omega) (by omega) (by simp; omega)]
    simp [wordF]
theorem refWord_is (N n : Nat) (h : n < 18446744073709551616) (hN : 10 < N) : ref_Word N (n : Int) = some (wordF 8 n) := by
  unfold ref_Word
  have := refWord_loop N 8 0 N n [] (by omega) (by omega) h (by simp)
  simpa using this
theorem refUns_is (N : Nat) (t : Int) (h1 : -9223372036854775808 ≤ t) (h2 : t < 9223372036854775808) : ref_Unsigned N t = some (uns t : Int) := by
  unfold ref_Unsigned
  by_cases h : t ≥ 0
  · rw [decide_eq_true h, cond_true, wrapT]
  · rw [decide_eq_false h, cond_false, w64_id (n := t + 1) (by omega) (by omega), w64_id (n := 0 - (t + 1)) (by omega) (by omega), wu64 (n := 0 - (t + 1)) (by omega) (by omega), wrapT]
    congr 2
    unfold uns
    omega
end Go.Proofs.Ytofidfkojmbdoaa
