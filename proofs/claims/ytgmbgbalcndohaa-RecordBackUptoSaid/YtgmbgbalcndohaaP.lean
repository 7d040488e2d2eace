-- slim: written by gen/slim.py from XP.lean.tpl
/- Plain mathematics of the wire's numbers: bytes of a number, and reading them again. No program in sight. -/
namespace Go.Proofs.Ytgmbgbalcndohaa.P

/-- A string of bytes. -/
def mkB (l : List UInt8) : ByteArray := ⟨l.toArray⟩
theorem size_mkB (l : List UInt8) : (mkB l).size = l.length := by show l.toArray.size = _; simp
theorem mkB_append (a b : List UInt8) : mkB (a ++ b) = mkB a ++ mkB b := by
  apply ByteArray.ext; show (a ++ b).toArray = (mkB a ++ mkB b).data; rw [ByteArray.data_append]; simp [mkB]
theorem size_bs (s : ByteArray) : s.data.toList.length = s.size := by rw [Array.length_toList]; rfl
/-- A byte, closed to simp. -/
def bt (n : Nat) : UInt8 := UInt8.ofNat n
theorem bt_toNat {n : Nat} (h : n < 256) : (bt n).toNat = n := by simp [bt]; omega

/-- A number as bytes, seven bits each, the lowest first. -/
def numF : Nat → Nat → List UInt8
  | 0, n => [bt n]
  | f + 1, n => if n < 128 then [bt n] else bt (n % 128 + 128) :: numF f (n / 128)
def num (n : Nat) : List UInt8 := numF 10 n

theorem numF_fuel : ∀ (f g n : Nat), n < 128 ^ (f + 1) → n < 128 ^ (g + 1) → numF f n = numF g n := by
  intro f
  induction f with
  | zero =>
    intro g n hf hg
    cases g with
    | zero => rfl
    | succ g => simp [numF]; omega
  | succ f ih =>
    intro g n hf hg
    cases g with
    | zero => simp [numF]; omega
    | succ g =>
      simp only [numF]
      split
      · rfl
      · rw [ih g (n / 128) (by rw [Nat.pow_succ] at hf; omega) (by rw [Nat.pow_succ] at hg; omega)]

theorem num_small {n : Nat} (h : n < 128) : num n = [bt n] := by simp [num, numF, h]
theorem num_big {n : Nat} (h : 128 ≤ n) (h2 : n < 18446744073709551616) : num n = bt (n % 128 + 128) :: num (n / 128) := by
  have : ¬ n < 128 := by omega
  simp only [num]
  conv => lhs; unfold numF
  rw [if_neg this, numF_fuel 9 10 (n / 128) (by have : (128 : Nat) ^ (9 + 1) = 1180591620717411303424 := by decide
                                                omega) (by have : (128 : Nat) ^ (10 + 1) = 151115727451828646838272 := by decide
                                                           omega)]

theorem num_ne (n : Nat) : num n ≠ [] := by
  unfold num numF; split <;> simp

theorem num_len : ∀ (k n : Nat), 1 ≤ k → k ≤ 10 → n < 128 ^ k → n < 18446744073709551616 → (num n).length ≤ k := by
  intro k
  induction k with
  | zero => intro n h; omega
  | succ k ih =>
    intro n _ hk h h2
    by_cases hs : n < 128
    · simp [num_small hs]
    · rw [num_big (by omega) h2]
      cases k with
      | zero => simp at h; omega
      | succ k =>
        have := ih (n / 128) (by omega) (by omega) (by rw [Nat.pow_succ] at h; omega) (by omega)
        simp; omega
theorem num_len10 {n : Nat} (h : n < 18446744073709551616) : (num n).length ≤ 10 :=
  num_len 10 n (by omega) (by omega) (by have : (128 : Nat) ^ 10 = 1180591620717411303424 := by decide
                                         omega) h

/-- Seven bits each, the lowest first. -/
def hv : List UInt8 → Nat
  | [] => 0
  | c :: t => c.toNat % 128 + 128 * hv t
theorem hv_lt : ∀ l : List UInt8, hv l < 128 ^ l.length
  | [] => by simp [hv]
  | c :: t => by
    have := hv_lt t
    simp only [hv, List.length_cons, Nat.pow_succ]; omega
theorem hv_append : ∀ a b : List UInt8, hv (a ++ b) = hv a + 128 ^ a.length * hv b
  | [], b => by simp [hv]
  | c :: a, b => by
    simp only [List.cons_append, hv, hv_append a b, List.length_cons, Nat.pow_succ, Nat.mul_add]
    have : 128 * (128 ^ a.length * hv b) = 128 ^ a.length * 128 * hv b := by rw [← Nat.mul_assoc, Nat.mul_comm 128]
    omega

/-- Reading a number: (number, how many bytes, errno). -/
def rdF : Nat → Nat → List UInt8 → Nat × Nat × Nat
  | _, _, [] => (0, 0, 1)
  | i, n, c :: t => if i = 9 ∧ 1 < c.toNat then (0, 0, 3) else if c.toNat < 128 then (n + c.toNat * 128 ^ i, i + 1, 0) else rdF (i + 1) (n + (c.toNat - 128) * 128 ^ i) t
def rd (l : List UInt8) : Nat × Nat × Nat := rdF 0 0 l

theorem rdF_num : ∀ (f i n m : Nat) (t : List UInt8), f + i = 10 → m * 128 ^ i < 18446744073709551616 → m < 18446744073709551616 → i ≤ 9 →
    rdF i n (num m ++ t) = (n + m * 128 ^ i, i + (num m).length, 0) := by
  intro f
  induction f with
  | zero => intro i n m t h _ _ h9; omega
  | succ f ih =>
    intro i n m t hf h h2 h9
    have hp : i = 9 → m ≤ 1 := by
      intro e; subst e
      have : (128 : Nat) ^ 9 = 9223372036854775808 := by decide
      rw [this] at h; omega
    by_cases hs : m < 128
    · rw [num_small hs]
      have e : (bt m).toNat = m := bt_toNat (by omega)
      simp only [List.cons_append, List.nil_append, rdF, e]
      rw [if_neg (by omega), if_pos hs]; simp
    · rw [num_big (by omega) h2]
      have e : (bt (m % 128 + 128)).toNat = m % 128 + 128 := bt_toNat (by omega)
      simp only [List.cons_append, rdF, e]
      rw [if_neg (by omega), if_neg (by omega)]
      have hm : m / 128 * 128 ^ (i + 1) ≤ m * 128 ^ i := by
        rw [Nat.pow_succ, Nat.mul_comm (128 ^ i) 128, ← Nat.mul_assoc]
        exact Nat.mul_le_mul_right _ (by omega)
      have h9' : i ≠ 9 := fun e => by have := hp e; omega
      rw [ih (i + 1) _ (m / 128) t (by omega) (by omega) (by omega) (by omega)]
      have e2 : m * 128 ^ i = (m % 128) * 128 ^ i + m / 128 * 128 ^ (i + 1) := by
        rw [Nat.pow_succ, Nat.mul_comm (128 ^ i) 128, ← Nat.mul_assoc, ← Nat.add_mul]
        congr 1; omega
      simp only [List.length_cons, Prod.mk.injEq, and_true]
      constructor
      · rw [e2]; simp only [Nat.add_sub_cancel]; omega
      · omega
theorem rd_num {m : Nat} (h : m < 18446744073709551616) (t : List UInt8) : rd (num m ++ t) = (m, (num m).length, 0) := by
  have := rdF_num 10 0 0 m t rfl (by simpa using h) h (by omega)
  simpa [rd] using this

/-- Reading on behind bytes that go on. -/
theorem rd_go : ∀ (k : Nat) (i n : Nat) (l : List UInt8), k + i ≤ 9 → k ≤ l.length → (∀ j (h : j < l.length), j < k → 128 ≤ l[j].toNat) → rdF i n l = rdF (i + k) (n + 128 ^ i * hv (l.take k)) (l.drop k) := by
  intro k
  induction k with
  | zero => intro i n l _ _ _; simp [hv]
  | succ k ih =>
    intro i n l hk hl h
    cases l with
    | nil => simp at hl
    | cons c t =>
      have hc : 128 ≤ c.toNat := h 0 (by simp) (by omega)
      have hc2 := c.toNat_lt
      simp only [rdF]
      rw [if_neg (by omega), if_neg (by omega), ih (i + 1) _ t (by omega) (by simpa using hl) (fun j hj hjk => h (j + 1) (by simpa using hj) (by omega))]
      simp only [List.take_succ_cons, List.drop_succ_cons, hv]
      have e : c.toNat % 128 = c.toNat - 128 := by omega
      rw [e, show i + 1 + k = i + (k + 1) by omega, Nat.pow_succ, Nat.mul_add, Nat.mul_comm (128 ^ i) (c.toNat - 128), Nat.mul_assoc, Nat.add_assoc]

theorem rd_at (l : List UInt8) (k : Nat) (hk : k ≤ 9) (hl : k ≤ l.length) (h : ∀ j (h : j < l.length), j < k → 128 ≤ l[j].toNat) : rd l = rdF k (hv (l.take k)) (l.drop k) := by
  have := rd_go k 0 0 l (by omega) hl h
  simpa [rd] using this

theorem rd_end (l : List UInt8) (k : Nat) (hk : k ≤ 9) (hl : k = l.length) (h : ∀ j (h : j < l.length), j < k → 128 ≤ l[j].toNat) : rd l = (0, 0, 1) := by
  rw [rd_at l k hk (by omega) h, List.drop_of_length_le (by omega)]; rfl
theorem rd_over (l : List UInt8) (hl : 9 < l.length) (h : ∀ j (h : j < l.length), j < 9 → 128 ≤ l[j].toNat) (hc : 1 < l[9].toNat) : rd l = (0, 0, 3) := by
  rw [rd_at l 9 (by omega) (by omega) h, List.drop_eq_getElem_cons hl]
  simp [rdF, hc]
theorem rd_ok (l : List UInt8) (k : Nat) (hk : k ≤ 9) (hl : k < l.length) (h : ∀ j (h : j < l.length), j < k → 128 ≤ l[j].toNat) (hc : l[k].toNat < 128) (h9 : k = 9 → l[k].toNat ≤ 1) : rd l = (hv (l.take (k + 1)), k + 1, 0) := by
  rw [rd_at l k hk (by omega) h, List.drop_eq_getElem_cons hl]
  have hg : ¬ (k = 9 ∧ 1 < l[k].toNat) := by rintro ⟨e, h2⟩; have := h9 e; omega
  simp only [rdF]
  rw [if_neg hg, if_pos hc, List.take_succ_eq_append_getElem hl, hv_append]
  have e : k ≤ l.length := by omega
  simp only [hv, List.length_take, Nat.min_eq_left e, Nat.mul_zero, Nat.add_zero]
  rw [Nat.mod_eq_of_lt hc, Nat.mul_comm]

/-- What is read is well formed. -/
theorem rdF_ok : ∀ (l : List UInt8) (i n m k : Nat), rdF i n l = (m, k, 0) → i < k ∧ k ≤ i + l.length ∧ n ≤ m := by
  intro l
  induction l with
  | nil => intro i n m k h; simp [rdF] at h
  | cons c t ih =>
    intro i n m k h
    simp only [rdF] at h
    split at h
    · simp at h
    · split at h
      · simp at h; simp; omega
      · have := ih _ _ _ _ h; simp; omega
theorem rdF_lt : ∀ (l : List UInt8) (i n m k : Nat), i ≤ 9 → n < 128 ^ i → rdF i n l = (m, k, 0) → m < 18446744073709551616 ∧ k ≤ 10 := by
  intro l
  induction l with
  | nil => intro i n m k _ _ h; simp [rdF] at h
  | cons c t ih =>
    intro i n m k hi hn h
    have hc := c.toNat_lt
    simp only [rdF] at h
    split at h
    · simp at h
    · rename_i h9
      split at h
      · rename_i h1
        simp at h
        obtain ⟨rfl, rfl⟩ := h
        refine ⟨?_, by omega⟩
        by_cases e : i = 9
        · subst e
          have : (128 : Nat) ^ 9 = 9223372036854775808 := by decide
          rw [this] at hn ⊢
          have h2 : c.toNat * 9223372036854775808 ≤ 1 * 9223372036854775808 := Nat.mul_le_mul_right _ (by omega)
          omega
        · have h3 : 128 ^ i ≤ (128 : Nat) ^ 8 := Nat.pow_le_pow_right (by decide) (by omega)
          have h4 : c.toNat * 128 ^ i ≤ 127 * 128 ^ i := Nat.mul_le_mul_right _ (by omega)
          have : (128 : Nat) ^ 8 = 72057594037927936 := by decide
          omega
      · rename_i h1
        have e : i ≠ 9 := by rintro rfl; exact h9 ⟨rfl, by omega⟩
        refine ih (i + 1) _ m k (by omega) ?_ h
        have h4 : (c.toNat - 128) * 128 ^ i ≤ 127 * 128 ^ i := Nat.mul_le_mul_right _ (by omega)
        rw [Nat.pow_succ]; omega
theorem rd_fine {l : List UInt8} {m k : Nat} (h : rd l = (m, k, 0)) : 1 ≤ k ∧ k ≤ l.length ∧ k ≤ 10 ∧ m < 18446744073709551616 := by
  have h1 := rdF_ok l 0 0 m k h
  have h2 := rdF_lt l 0 0 m k (by omega) (by simp) h
  omega
end Go.Proofs.Ytgmbgbalcndohaa.P
