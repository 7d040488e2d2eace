-- slim: written by gen/slim.py from XP.lean.tpl
/- Plain mathematics of the wire's numbers: bytes of a number, and reading them again. No program in sight. -/
namespace Go.Proofs.Ytofidfkojmbdoaa.P

/-- A string of bytes. -/
def mkB (l : List UInt8) : ByteArray := ⟨l.toArray⟩
theorem size_mkB (l : List UInt8) : (mkB l).size = l.length := by show l.toArray.size = _; simp
theorem mkB_append (a b : List UInt8) : mkB (a ++ b) = mkB a ++ mkB b := by
  apply ByteArray.ext; show (a ++ b).toArray = (mkB a ++ mkB b).data; rw [ByteArray.data_append]; simp [mkB]
theorem size_bs (s : ByteArray) : s.data.toList.length = s.size := by rw [Array.length_toList]; rfl
/-- A byte, closed to simp. -/
def bt (n : Nat) : UInt8 := UInt8.ofNat n
theorem bt_toNat {n : Nat} (h : n < 256) : (bt n).toNat = n := by simp [bt]; omega

/-- A number as bytes, seven bits each, the lowest first. -/
def numF : Nat → Nat → List UInt8
  | 0, n => [bt n]
  | f + 1, n => if n < 128 then [bt n] else bt (n % 128 + 128) :: numF f (n / 128)
def num (n : Nat) : List UInt8 := numF 10 n

theorem numF_fuel : ∀ (f g n : Nat), n < 128 ^ (f + 1) → n < 128 ^ (g + 1) → numF f n = numF g n := by
  intro f
  induction f with
  | zero =>
    intro g n hf hg
    cases g with
    | zero => rfl
    | succ g => simp [numF]; omega
  | succ f ih =>
    intro g n hf hg
    cases g with
    | zero => simp [numF]; omega
    | succ g =>
      simp only [numF]
      split
      · rfl
      · rw [ih g (n / 128) (by rw [Nat.pow_succ] at hf; omega) (by rw [Nat.pow_succ] at hg; omega)]

theorem num_small {n : Nat} (h : n < 128) : num n = [bt n] := by simp [num, numF, h]
theorem num_big {n : Nat} (h : 128 ≤ n) (h2 : n < 18446744073709551616) : num n = bt (n % 128 + 128) :: num (n / 128) := by
  have : ¬ n < 128 := by omega
  simp only [num]
  conv => lhs; unfold numF
  rw [if_neg this, numF_fuel 9 10 (n / 128) (by have : (128 : Nat) ^ (9 + 1) = 1180591620717411303424 := by decide
                                                omega) (by have : (128 : Nat) ^ (10 + 1) = 151115727451828646838272 := by decide
                                                           omega)]

theorem num_ne (n : Nat) : num n ≠ [] := by
  unfold num numF; split <;> simp

theorem num_len : ∀ (k n : Nat), 1 ≤ k → k ≤ 10 → n < 128 ^ k → n < 18446744073709551616 → (num n).length ≤ k := by
  intro k
  induction k with
  | zero => intro n h; omega
  | succ k ih =>
    intro n _ hk h h2
    by_cases hs : n < 128
    · simp [num_small hs]
    · rw [num_big (by omega) h2]
      cases k with
      | zero => simp at h; omega
      | succ k =>
        have := ih (n / 128) (by omega) (by omega) (by rw [Nat.pow_succ] at h; omega) (by omega)
        simp; omega
theorem num_len10 {n : Nat} (h : n < 18446744073709551616) : (num n).length ≤ 10 :=
  num_len 10 n (by omega) (by omega) (by have : (128 : Nat) ^ 10 = 1180591620717411303424 := by decide
                                         omega) h

/-- Seven bits each, the lowest first. -/
def hv : List UInt8 → Nat
  | [] => 0
  | c :: t => c.toNat % 128 + 128 * hv t
/-- Reading a number: (number, how many bytes, errno). -/
def rdF : Nat → Nat → List UInt8 → Nat × Nat × Nat
  | _, _, [] => (0, 0, 1)
  | i, n, c :: t => if i = 9 ∧ 1 < c.toNat then (0, 0, 3) else if c.toNat < 128 then (n + c.toNat * 128 ^ i, i + 1, 0) else rdF (i + 1) (n + (c.toNat - 128) * 128 ^ i) t
def rd (l : List UInt8) : Nat × Nat × Nat := rdF 0 0 l

end Go.Proofs.Ytofidfkojmbdoaa.P
