/- What the plain functions come to: the sum of labels, the program's and the reference's by four digits. -/
import Derived.Test.YtbpgpfigndlohaaEW
import Derived.Test.YtbpgpfigndlohaaFE1p
namespace Go.Proofs.Ytbpgpfigndlohaa
open Go.RowKit P
set_option linter.unusedVariables false
set_option linter.unusedSimpArgs false

theorem remN {a b : Nat} (hb : b ≠ 0) : remC (a : Int) (b : Int) = some ((a % b : Nat) : Int) := by
  unfold remC
  rw [if_neg (by omega)]
  congr 1
theorem quoN {a b : Nat} (hb : b ≠ 0) (ha : a < 9223372036854775808) : quoC .i64 (a : Int) (b : Int) = some ((a / b : Nat) : Int) := by
  unfold quoC
  rw [if_neg (by omega)]
  congr 1
  rw [Int.tdiv_eq_ediv_of_nonneg (by omega)]
  have h1 : ((a : Int) / (b : Int)) = ((a / b : Nat) : Int) := (Int.natCast_ediv a b).symm
  have h2 := Nat.div_le_self a b
  rw [h1]
  generalize a / b = q at h2
  have := w64_id (n := (q : Int)) (by omega) (by omega)
  unfold w64 at this
  exact this
theorem wuE {n : Int} (h1 : 0 ≤ n) (h2 : n < 18446744073709551616) : IntKind.wrap .u64 n = n := by rw [IntKind.wrap_u64]; omega
theorem w64N {n : Nat} (h : n < 9223372036854775808) : w64 (n : Int) = (n : Int) := w64_id (by omega) (by omega)
theorem xor_parts (a b : Nat) : a ^^^ b = (a + b) % 2 + 2 * ((a / 2) ^^^ (b / 2)) := by
  have h1 := Nat.xor_div_two (a := a) (b := b)
  have h2 := Nat.xor_mod_two_pow (a := a) (b := b) (n := 1)
  rw [show 2 ^ 1 = 2 from rfl] at h2
  have h3 : (a ^^^ b) % 2 = (a + b) % 2 := by
    rcases Nat.mod_two_eq_zero_or_one a with ha | ha <;> rcases Nat.mod_two_eq_zero_or_one b with hb | hb <;> rw [ha, hb] at h2 <;> (rw [h2]; simp; omega)
  omega
theorem xor_loop (N : Nat) : ∀ (k a b acc p n : Nat), a < 2 ^ k → b < 2 ^ k → k < n → acc ≤ p → p * 2 ^ k ≤ 1152921504606846976 → a < 1000000 → b < 1000000 → ref_Xor_L2 N n (a : Int) (b : Int) (acc : Int) (p : Int) = some ((acc + p * (a ^^^ b) : Nat) : Int)
  | 0, a, b, acc, p, n, ha, hb, hn, hap, hs, ha2, hb2 => by
    obtain ⟨m, rfl⟩ : ∃ m, n = m + 1 := ⟨n - 1, by omega⟩
    have h1 : a = 0 := by simpa using ha
    have h2 : b = 0 := by simpa using hb
    subst h1 h2
    unfold ref_Xor_L2
    simp
  | k + 1, a, b, acc, p, n, ha, hb, hn, hap, hs, ha2, hb2 => by
    obtain ⟨m, rfl⟩ : ∃ m, n = m + 1 := ⟨n - 1, by omega⟩
    by_cases h0 : a = 0 ∧ b = 0
    · obtain ⟨h1, h2⟩ := h0
      subst h1 h2
      unfold ref_Xor_L2
      simp
    · have hp2 : 2 ^ (k + 1) = 2 * 2 ^ k := by rw [Nat.pow_succ]; omega
      have hpp : p * 2 ^ (k + 1) = 2 * p * 2 ^ k := by rw [hp2, ← Nat.mul_assoc, Nat.mul_comm p 2]
      have hpos : 0 < 2 ^ k := Nat.two_pow_pos k
      have hp : p ≤ p * 2 ^ k := Nat.le_mul_of_pos_right p hpos
      have hmul : 2 * p * 2 ^ k = 2 * (p * 2 ^ k) := Nat.mul_assoc 2 p (2 ^ k)
      have go : ref_Xor_R3 N (ref_Xor_L2 N m) m (a : Int) (b : Int) (acc : Int) (p : Int) = some ((acc + p * (a ^^^ b) : Nat) : Int) := by
        unfold ref_Xor_R3
        rw [show (2 : Int) = ((2 : Nat) : Int) from rfl, remN (a := a) (b := 2) (by decide), Option.bind_some, remN (a := b) (b := 2) (by decide), Option.bind_some]
        have r5 : ∀ acc' : Nat, acc' ≤ 2 * p → ref_Xor_R5 N (ref_Xor_L2 N m) m (a : Int) (b : Int) (acc' : Int) (p : Int) = some ((acc' + 2 * p * ((a / 2) ^^^ (b / 2)) : Nat) : Int) := fun acc' h1 => by
          unfold ref_Xor_R5
          rw [show (2 : Int) = ((2 : Nat) : Int) from rfl, quoN (a := a) (b := 2) (by decide) (by omega), Option.bind_some, quoN (a := b) (b := 2) (by decide) (by omega), Option.bind_some, show ((2 : Nat) : Int) * (p : Int) = ((2 * p : Nat) : Int) by omega, w64N (by omega)]
          exact xor_loop N k (a / 2) (b / 2) acc' (2 * p) m (by omega) (by omega) (by omega) h1 (by omega) (by omega) (by omega)
        have hx := xor_parts a b
        by_cases he : a % 2 = b % 2
        · have hb' : (((a % 2 : Nat) : Int) != ((b % 2 : Nat) : Int)) = false := by simp; omega
          rw [hb', cond_false, r5 acc (by omega)]
          have h2 : (a + b) % 2 = 0 := by omega
          rw [hx, h2, Nat.zero_add]
          congr 3
          rw [← Nat.mul_assoc, Nat.mul_comm p 2]
        · have hb' : (((a % 2 : Nat) : Int) != ((b % 2 : Nat) : Int)) = true := by simp; omega
          have h3 : acc + p + 2 * p * ((a / 2) ^^^ (b / 2)) = acc + p * (a ^^^ b) := by
            have h2 : (a + b) % 2 = 1 := by omega
            rw [hx, h2, Nat.mul_add, Nat.mul_one, ← Nat.mul_assoc p 2, Nat.mul_comm p 2]; omega
          rw [hb', cond_true, show (acc : Int) + (p : Int) = ((acc + p : Nat) : Int) by omega, w64N (by omega), r5 (acc + p) (by omega), h3]
      unfold ref_Xor_L2
      by_cases h1 : 0 < a
      · have : decide ((a : Int) > 0) = true := by simpa using h1
        rw [this, cond_true]; exact go
      · have e1 : decide ((a : Int) > 0) = false := by simp; omega
        have e2 : decide ((b : Int) > 0) = true := by simp; omega
        rw [e1, cond_false, e2, cond_true]; exact go
theorem xor_is (N a b : Nat) (ha : a < 256) (hb : b < 256) (hN : 10 ≤ N) : ref_Xor N (a : Int) (b : Int) = some ((a ^^^ b : Nat) : Int) := by
  unfold ref_Xor
  have := xor_loop N 8 a b 0 1 N (by omega) (by omega) (by omega) (by omega) (by omega) (by omega) (by omega)
  rw [Nat.zero_add, Nat.one_mul] at this
  exact this
/-! ### One byte more -/
def fnvB (h c : Nat) : Nat := ((h ^^^ c) * 1099511628211) % 18446744073709551616
def valD (a b c d : Nat) : Nat := a + 65536 * b + 4294967296 * c + 281474976710656 * d
theorem xor_low (h c : Nat) (hc : c < 256) : h ^^^ c = 256 * (h / 256) + ((h % 256) ^^^ c) := by
  have h1 := Nat.xor_div_two_pow (a := h) (b := c) (n := 8)
  have h2 := Nat.xor_mod_two_pow (a := h) (b := c) (n := 8)
  rw [show 2 ^ 8 = 256 from rfl] at h1 h2
  have h3 : c / 256 = 0 := by omega
  have h4 : c % 256 = c := by omega
  rw [h3, Nat.xor_zero] at h1
  rw [h4] at h2
  omega
theorem xor_lt8 {a b : Nat} (ha : a < 256) (hb : b < 256) : a ^^^ b < 256 := Nat.xor_lt_two_pow (n := 8) ha hb
/-- What the four digits come to. -/
theorem digits_mul (e0 d1 d2 d3 : Nat) : ∃ k, valD e0 d1 d2 d3 * 1099511628211 = (e0 * 435 + 65536 * (d1 * 435) + 4294967296 * (d2 * 435 + e0 % 256 * 256) + 281474976710656 * (d3 * 435 + (e0 / 256 + d1 % 256 * 256))) + 18446744073709551616 * k := by
  refine ⟨d1 / 256 + d2 * 256 + d3 * 16777216, ?_⟩
  unfold valD
  omega
theorem digits_carry (t0 t1 t2 t3 : Nat) : ∃ k, t0 + 65536 * t1 + 4294967296 * t2 + 281474976710656 * t3 = valD (t0 % 65536) ((t0 / 65536 + t1) % 65536) (((t0 / 65536 + t1) / 65536 + t2) % 65536) ((((t0 / 65536 + t1) / 65536 + t2) / 65536 + t3) % 65536) + 18446744073709551616 * k := by
  refine ⟨(((t0 / 65536 + t1) / 65536 + t2) / 65536 + t3) / 65536, ?_⟩
  unfold valD
  omega
theorem valD_lt {a b c d : Nat} (ha : a < 65536) (hb : b < 65536) (hc : c < 65536) (hd : d < 65536) : valD a b c d < 18446744073709551616 := by unfold valD; omega
def dI (l : List Nat) : List Int := l.map fun (n : Nat) => (n : Int)
/-- Four digits, and what they are. -/
def Dig (l : List Int) (h : Nat) : Prop := ∃ a b c d : Nat, l = [(a : Int), (b : Int), (c : Int), (d : Int)] ∧ a < 65536 ∧ b < 65536 ∧ c < 65536 ∧ d < 65536 ∧ h = valD a b c d
theorem setA_is {α : Type} {l : List α} {o : Nat} {v : α} (h : o < l.length) : setA l o v = some (l.set o v) := by unfold setA; rw [if_pos h]
theorem idx4 {n : Nat} (h : n < 4) : idxN 4 (n : Int) = some n := by
  unfold idxN
  rw [if_pos (by omega)]
  congr 1
set_option maxHeartbeats 1000000 in
theorem step_loop (N n : Nat) (d0 d1 d2 d3 s2 s3 : Nat) (h0 : d0 < 65536) (h1 : d1 < 65536) (h2 : d2 < 65536) (h3 : d3 < 65536) (k2 : s2 < 16777216) (k3 : s3 < 16777216) (hn : 6 ≤ n) :
    ref_SumOf_1_i0_L4 N n [0, 0, (s2 : Int), (s3 : Int)] 0 0 [(d0 : Int), (d1 : Int), (d2 : Int), (d3 : Int)] =
      some [((d0 * 435 % 65536 : Nat) : Int), (((d0 * 435 / 65536 + d1 * 435) % 65536 : Nat) : Int), ((((d0 * 435 / 65536 + d1 * 435) / 65536 + (d2 * 435 + s2)) % 65536 : Nat) : Int), (((((d0 * 435 / 65536 + d1 * 435) / 65536 + (d2 * 435 + s2)) / 65536 + (d3 * 435 + s3)) % 65536 : Nat) : Int)] := by
  obtain ⟨m, rfl⟩ : ∃ m, n = m + 5 := ⟨n - 5, by omega⟩
  have one : ∀ (m i : Nat) (x : List Int) (b : List Int) (c d s : Nat), i < 4 → b[i]? = some (d : Int) → x[i]? = some (s : Int) → b.length = 4 → c < 1000000000 → d < 65536 → s < 16777216 → ref_SumOf_1_i0_L4 N (m + 1) x (c : Int) (i : Int) b = ref_SumOf_1_i0_L4 N m x (((c + (d * 435 + s)) / 65536 : Nat) : Int) ((i + 1 : Nat) : Int) (b.set i (((c + (d * 435 + s)) % 65536 : Nat) : Int)) := by
    intro m i x b c d s hi hb hx hl hc hd hs
    rw [ref_SumOf_1_i0_L4]
    have e1 : decide ((i : Int) < 4) = true := by simp; omega
    have e2 : idxC x (i : Int) = some (s : Int) := by unfold idxC; simp [hx]
    have e3 : w64 ((c : Int) + (w64 ((w64 ((d : Int) * 435)) + (s : Int)))) = ((c + (d * 435 + s) : Nat) : Int) := by
      rw [w64_id (n := (d : Int) * 435) (by omega) (by omega), w64_id (n := (d : Int) * 435 + (s : Int)) (by omega) (by omega), w64_id (by omega) (by omega)]; omega
    have e4 : w64 ((i : Int) + 1) = ((i + 1 : Nat) : Int) := by rw [w64_id (by omega) (by omega)]; omega
    simp only [e1, cond_true, idx4 hi, Option.bind_some, Nat.zero_add, hb, e2, e3]
    rw [show (65536 : Int) = ((65536 : Nat) : Int) from rfl, remN (by decide), quoN (by decide) (by omega)]
    simp only [Option.bind_some]
    rw [setA_is (by omega), Option.bind_some, e4]
  have z : ∀ q : Nat, (0 : Int) = ((0 : Nat) : Int) := fun _ => rfl
  rw [show ref_SumOf_1_i0_L4 N (m + 5) [0, 0, (s2 : Int), (s3 : Int)] 0 0 [(d0 : Int), (d1 : Int), (d2 : Int), (d3 : Int)] = ref_SumOf_1_i0_L4 N (m + 4 + 1) [0, 0, (s2 : Int), (s3 : Int)] ((0 : Nat) : Int) ((0 : Nat) : Int) [(d0 : Int), (d1 : Int), (d2 : Int), (d3 : Int)] from rfl]
  rw [one (m + 4) 0 _ _ 0 d0 0 (by omega) rfl rfl rfl (by omega) h0 (by omega)]
  rw [one (m + 3) 1 _ _ _ d1 0 (by omega) rfl rfl rfl (by omega) h1 (by omega)]
  rw [one (m + 2) 2 _ _ _ d2 s2 (by omega) rfl rfl rfl (by omega) h2 k2]
  rw [one (m + 1) 3 _ _ _ d3 s3 (by omega) rfl rfl rfl (by omega) h3 k3]
  rw [ref_SumOf_1_i0_L4]
  have e5 : decide (((3 + 1 : Nat) : Int) < 4) = false := by decide
  rw [e5, cond_false]
  simp only [List.set_cons_zero, List.set_cons_succ, Nat.zero_add, Nat.add_zero]
/-- One byte more, by digits. -/
theorem add_is (N : Nat) (l : List Int) (h c : Nat) (hl : Dig l h) (hc : c < 256) (hN : 10 ≤ N) : ∃ l', ref_SumOf_1_i0 N (c : Int) l = some l' ∧ Dig l' (fnvB h c) := by
  obtain ⟨d0, d1, d2, d3, rfl, h0, h1, h2, h3, hv⟩ := hl
  have hx := xor_lt8 (a := d0 % 256) (b := c) (by omega) hc
  have e0eq : d0 / 256 * 256 + ((d0 % 256) ^^^ c) < 65536 := by omega
  generalize hE : d0 / 256 * 256 + ((d0 % 256) ^^^ c) = E at e0eq
  have hhx : h ^^^ c = valD E d1 d2 d3 := by
    have h1 := xor_low h c hc
    have h2 : h % 256 = d0 % 256 := by rw [hv]; unfold valD; omega
    rw [h2] at h1
    rw [h1, ← hE, hv]
    unfold valD
    omega
  have step := step_loop N N E d1 d2 d3 (E % 256 * 256) (E / 256 + d1 % 256 * 256) e0eq h1 h2 h3 (by omega) (by omega) (by omega)
  have run : ref_SumOf_1_i0 N (c : Int) [(d0 : Int), (d1 : Int), (d2 : Int), (d3 : Int)] = ref_SumOf_1_i0_L4 N N [0, 0, ((E % 256 * 256 : Nat) : Int), ((E / 256 + d1 % 256 * 256 : Nat) : Int)] 0 0 [(E : Int), (d1 : Int), (d2 : Int), (d3 : Int)] := by
    unfold ref_SumOf_1_i0
    have i0 : idxN 4 0 = some 0 := rfl
    have i1 : idxN 4 1 = some 1 := rfl
    have g0 : ∀ (a : Int) (r : List Int), (a :: r)[0 + 0]? = some a := fun _ _ => rfl
    have g1 : ∀ (a b : Int) (r : List Int), (a :: b :: r)[0 + 1]? = some b := fun _ _ _ => rfl
    simp only [i0, i1, Option.bind_some, g0, g1]
    rw [show (256 : Int) = ((256 : Nat) : Int) from rfl, quoN (by decide) (by omega), Option.bind_some, remN (by decide), Option.bind_some, xor_is N (d0 % 256) c (by omega) hc hN, Option.bind_some]
    have e3 : w64 ((w64 (((d0 / 256 : Nat) : Int) * ((256 : Nat) : Int))) + (((d0 % 256) ^^^ c : Nat) : Int)) = (E : Int) := by
      rw [w64_id (n := ((d0 / 256 : Nat) : Int) * ((256 : Nat) : Int)) (by omega) (by omega), w64_id (by omega) (by omega)]; omega
    rw [e3, setA_is (by simp), Option.bind_some]
    simp only [Nat.add_zero, List.set_cons_zero]
    simp only [g0, g1, Option.bind_some]
    rw [remN (by decide), Option.bind_some, quoN (by decide) (by omega), Option.bind_some, remN (by decide), Option.bind_some]
    have e4 : w64 (((E % 256 : Nat) : Int) * ((256 : Nat) : Int)) = ((E % 256 * 256 : Nat) : Int) := by rw [w64_id (by omega) (by omega)]; omega
    have e5 : w64 (((E / 256 : Nat) : Int) + (w64 (((d1 % 256 : Nat) : Int) * ((256 : Nat) : Int)))) = ((E / 256 + d1 % 256 * 256 : Nat) : Int) := by
      rw [w64_id (n := ((d1 % 256 : Nat) : Int) * ((256 : Nat) : Int)) (by omega) (by omega), w64_id (by omega) (by omega)]; omega
    rw [e4, e5]
  refine ⟨_, run.trans step, ?_⟩
  · refine ⟨_, _, _, _, rfl, Nat.mod_lt _ (by decide), Nat.mod_lt _ (by decide), Nat.mod_lt _ (by decide), Nat.mod_lt _ (by decide), ?_⟩
    unfold fnvB
    rw [hhx]
    obtain ⟨k, hk⟩ := digits_mul E d1 d2 d3
    obtain ⟨k', hk'⟩ := digits_carry (E * 435) (d1 * 435) (d2 * 435 + E % 256 * 256) (d3 * 435 + (E / 256 + d1 % 256 * 256))
    rw [hk, hk']
    have hlt := valD_lt (a := E * 435 % 65536) (b := (E * 435 / 65536 + d1 * 435) % 65536) (c := ((E * 435 / 65536 + d1 * 435) / 65536 + (d2 * 435 + E % 256 * 256)) % 65536) (d := (((E * 435 / 65536 + d1 * 435) / 65536 + (d2 * 435 + E % 256 * 256)) / 65536 + (d3 * 435 + (E / 256 + d1 % 256 * 256))) % 65536) (Nat.mod_lt _ (by decide)) (Nat.mod_lt _ (by decide)) (Nat.mod_lt _ (by decide)) (Nat.mod_lt _ (by decide))
    rw [Nat.add_assoc, ← Nat.mul_add, Nat.add_mul_mod_self_left]
    exact Nat.mod_eq_of_lt hlt
/-! ### Texts, labels -/
def fnvS (h : Nat) (s : List UInt8) : Nat := (s ++ [255]).foldl (fun h (c : UInt8) => fnvB h c.toNat) h
def fnvL (h : Nat) (l : List VLabel) : Nat := l.foldl (fun h x => fnvS (fnvS h x.Name) x.Value) h
theorem fnvB_lt (h c : Nat) : fnvB h c < 18446744073709551616 := Nat.mod_lt _ (by decide)
theorem text_loop (N : Nat) (hN : 10 ≤ N) : ∀ (r p : List UInt8) (n h : Nat) (l : List Int), r.length < n → (p ++ r).length < 140737488355328 → Dig l h → ∃ l', ref_SumOf_2_i0_L1 N n (p ++ r) (p.length : Int) l = some l' ∧ Dig l' ((r ++ [255]).foldl (fun h (c : UInt8) => fnvB h c.toNat) h)
  | [], p, n, h, l, hn, hs, hl => by
    obtain ⟨m, rfl⟩ : ∃ m, n = m + 1 := ⟨n - 1, by simp at hn; omega⟩
    obtain ⟨l', h1, h2⟩ := add_is N l h 255 hl (by decide) hN
    refine ⟨l', ?_, ?_⟩
    · rw [ref_SumOf_2_i0_L1, lt_end, cond_false, show (255 : Int) = ((255 : Nat) : Int) from rfl, h1, Option.bind_some]
    · rw [List.nil_append, List.foldl_cons, List.foldl_nil, show (255 : UInt8).toNat = 255 from rfl]; exact h2
  | c :: r, p, n, h, l, hn, hs, hl => by
    obtain ⟨m, rfl⟩ : ∃ m, n = m + 1 := ⟨n - 1, by simp at hn; omega⟩
    have hc : c.toNat < 256 := c.toNat_lt
    obtain ⟨l1, h1, h2⟩ := add_is N l h c.toNat hl hc hN
    have ih := text_loop N hN r (p ++ [c]) m (fnvB h c.toNat) l1 (by simp at hn; omega) (by simpa using hs) h2
    obtain ⟨l', k1, k2⟩ := ih
    refine ⟨l', ?_, k2⟩
    rw [ref_SumOf_2_i0_L1, lt_cat, cond_true, idxC_cat, Option.bind_some]
    have e1 : w64 (b2i c) = ((c.toNat : Nat) : Int) := w64N (by omega)
    rw [e1, h1, Option.bind_some, w64_next p c (by simp at hs; omega), cat_next]
    exact k1
theorem text_is (N : Nat) (hN : 10 ≤ N) (s : List UInt8) (h : Nat) (l : List Int) (hs : s.length < N) (hs2 : s.length < 140737488355328) (hl : Dig l h) : ∃ l', ref_SumOf_2_i0 N s l = some l' ∧ Dig l' (fnvS h s) := by
  unfold ref_SumOf_2_i0
  exact text_loop N hN s [] N h l hs (by simpa using hs2) hl
theorem dig_lt {l : List Int} {h : Nat} (hl : Dig l h) : h < 18446744073709551616 := by
  obtain ⟨a, b, c, d, _, h1, h2, h3, h4, rfl⟩ := hl
  exact valD_lt h1 h2 h3 h4
theorem sum_end (N n : Nat) (l : List Int) (h : Nat) (hl : Dig l h) : ref_SumOf_L11 N (n + 5) 0 3 l = some (h : Int) := by
  obtain ⟨a, b, c, d, rfl, h1, h2, h3, h4, rfl⟩ := hl
  have one : ∀ (m i v z : Nat) (q : List Int), i < 4 → q[i]? = some (z : Int) → v * 65536 + z < 18446744073709551616 → v < 281474976710656 → z < 65536 → ref_SumOf_L11 N (m + 1) (v : Int) (i : Int) q = ref_SumOf_L11 N m ((v * 65536 + z : Nat) : Int) ((i : Int) - 1) q := by
    intro m i v z q hi hq hv hv2 hz
    rw [ref_SumOf_L11]
    have e1 : decide ((i : Int) ≥ 0) = true := by simp
    have e2 : IntKind.wrap .u64 ((IntKind.wrap .u64 ((v : Int) * 65536)) + (IntKind.wrap .u64 (z : Int))) = ((v * 65536 + z : Nat) : Int) := by
      rw [wuE (n := (v : Int) * 65536) (by omega) (by omega), wuE (n := (z : Int)) (by omega) (by omega), wuE (by omega) (by omega)]; omega
    have e3 : w64 ((i : Int) - 1) = (i : Int) - 1 := w64_id (by omega) (by omega)
    rw [e1, cond_true, idx4 hi, Option.bind_some, Nat.zero_add, hq, Option.bind_some, e2, e3]
  rw [show ref_SumOf_L11 N (n + 5) 0 3 [(a : Int), (b : Int), (c : Int), (d : Int)] = ref_SumOf_L11 N (n + 4 + 1) ((0 : Nat) : Int) ((3 : Nat) : Int) [(a : Int), (b : Int), (c : Int), (d : Int)] from rfl]
  rw [one (n + 4) 3 0 d _ (by omega) rfl (by omega) (by omega) h4, show ((3 : Nat) : Int) - 1 = ((2 : Nat) : Int) from rfl]
  rw [one (n + 3) 2 _ c _ (by omega) rfl (by omega) (by omega) h3, show ((2 : Nat) : Int) - 1 = ((1 : Nat) : Int) from rfl]
  rw [one (n + 2) 1 _ b _ (by omega) rfl (by omega) (by omega) h2, show ((1 : Nat) : Int) - 1 = ((0 : Nat) : Int) from rfl]
  rw [one (n + 1) 0 _ a _ (by omega) rfl (by omega) (by omega) h1]
  rw [ref_SumOf_L11]
  have e : decide (((0 : Nat) : Int) - 1 ≥ 0) = false := by decide
  rw [e, cond_false]
  unfold valD
  congr 2
  omega
theorem sumOf_loop (N : Nat) (hN : 10 ≤ N) : ∀ (r p : List VLabel) (n h : Nat) (l : List Int), r.length + 6 ≤ n → (∀ z ∈ r, z.Name.length < N ∧ z.Value.length < N ∧ z.Name.length < 140737488355328 ∧ z.Value.length < 140737488355328) → (p ++ r).length < 140737488355328 → Dig l h → ref_SumOf_L5 N n (p ++ r) (p.length : Int) l = some (fnvL h r : Int)
  | [], p, n, h, l, hn, hz, hs, hl => by
    obtain ⟨m, rfl⟩ : ∃ m, n = m + 5 + 1 := ⟨n - 6, by simp at hn; omega⟩
    rw [ref_SumOf_L5, lt_end, cond_false, sum_end N m l h hl]; rfl
  | z :: r, p, n, h, l, hn, hz, hs, hl => by
    obtain ⟨m, rfl⟩ : ∃ m, n = m + 1 := ⟨n - 1, by simp at hn; omega⟩
    obtain ⟨z1, z2, z3, z4⟩ := hz z List.mem_cons_self
    obtain ⟨l1, h1, h2⟩ := text_is N hN z.Name h l z1 z3 hl
    obtain ⟨l2, h3, h4⟩ := text_is N hN z.Value (fnvS h z.Name) l1 z2 z4 h2
    have ih := sumOf_loop N hN r (p ++ [z]) m (fnvS (fnvS h z.Name) z.Value) l2 (by simp at hn; omega) (fun y hy => hz y (List.mem_cons_of_mem _ hy)) (by simpa using hs) h4
    rw [ref_SumOf_L5, lt_cat, cond_true, idxC_cat, Option.bind_some, h1, Option.bind_some, Option.bind_some, h3, Option.bind_some, w64_next p z (by simp at hs; omega), cat_next]
    exact ih
def fnvA (l : List VLabel) : Nat := fnvL 14695981039346656037 l
theorem dig_first : Dig [8997, 33826, 40164, 52210] 14695981039346656037 := ⟨8997, 33826, 40164, 52210, rfl, by decide, by decide, by decide, by decide, by decide⟩
theorem len_all (l : List VLabel) : ∃ N0, ∀ N, N0 ≤ N → ∀ z ∈ l, z.Name.length < N ∧ z.Value.length < N := by
  induction l with
  | nil => exact ⟨0, fun N _ z hz => by cases hz⟩
  | cons x l ih =>
    obtain ⟨N0, h⟩ := ih
    refine ⟨max N0 (x.Name.length + x.Value.length + 1), fun N hN z hz => ?_⟩
    rcases List.mem_cons.1 hz with rfl | hz
    · omega
    · exact h N (by omega) z hz
theorem refSum_ev (l : List VLabel) (hw : WLab l) : Ev (fun N => ref_SumOf N l) (fnvA l : Int) := by
  obtain ⟨N0, h0⟩ := len_all l
  refine ⟨max N0 (l.length + 20), fun N hN => ?_⟩
  show ref_SumOf N l = _
  unfold ref_SumOf
  exact sumOf_loop N (by omega) l [] N _ _ (by omega) (fun z hz => ⟨(h0 N (by omega) z hz).1, (h0 N (by omega) z hz).2, (hw.2 z hz).1, (hw.2 z hz).2⟩) (by simpa using hw.1) dig_first
/-! ### The program's -/
theorem bv64 {a : Nat} (h : a < 18446744073709551616) : (BitVec.ofInt 64 (a : Int)).toNat = a := by
  rw [BitVec.ofInt_natCast, BitVec.toNat_ofNat]
  exact Nat.mod_eq_of_lt h
theorem xor64 {a b : Nat} (ha : a < 18446744073709551616) (hb : b < 18446744073709551616) : bits .xor .u64 (a : Int) (b : Int) = ((a ^^^ b : Nat) : Int) := by
  have h : (BitVec.ofInt 64 (a : Int) ^^^ BitVec.ofInt 64 (b : Int)).toNat = a ^^^ b := by rw [BitVec.toNat_xor, bv64 ha, bv64 hb]
  show IntKind.u64.wrap ((BitVec.ofInt 64 (a : Int) ^^^ BitVec.ofInt 64 (b : Int)).toNat : Int) = _
  have hx : a ^^^ b < 18446744073709551616 := Nat.xor_lt_two_pow (n := 64) ha hb
  rw [h, wuE (by omega) (by omega)]
theorem fnv_step (h c : Nat) (hh : h < 18446744073709551616) (hc : c < 256) : IntKind.wrap .u64 ((bits .xor .u64 (h : Int) (IntKind.wrap .u64 (c : Int))) * 1099511628211) = (fnvB h c : Int) := by
  rw [wuE (n := (c : Int)) (by omega) (by omega), xor64 hh (by omega), IntKind.wrap_u64]
  unfold fnvB
  omega
theorem psum_loop (N : Nat) : ∀ (r p : List UInt8) (n h : Nat), r.length < n → (p ++ r).length < 140737488355328 → h < 18446744073709551616 → labels_sum_L2 N n (h : Int) (p ++ r) ((p ++ r).length : Int) (p.length : Int) = some ((r.foldl (fun h (c : UInt8) => fnvB h c.toNat) h : Nat) : Int)
  | [], p, n, h, hn, hs, hh => by
    obtain ⟨m, rfl⟩ : ∃ m, n = m + 1 := ⟨n - 1, by simp at hn; omega⟩
    rw [labels_sum_L2, lt_end, cond_false]; rfl
  | c :: r, p, n, h, hn, hs, hh => by
    obtain ⟨m, rfl⟩ : ∃ m, n = m + 1 := ⟨n - 1, by simp at hn; omega⟩
    have ih := psum_loop N r (p ++ [c]) m (fnvB h c.toNat) (by simp at hn; omega) (by simpa using hs) (fnvB_lt _ _)
    rw [labels_sum_L2, lt_cat, cond_true, idxC_cat, Option.bind_some]
    have e1 := fnv_step h c.toNat hh c.toNat_lt
    have e2 : b2i c = ((c.toNat : Nat) : Int) := rfl
    rw [e2, e1, w64_next p c (by simp at hs; omega), cat_next]
    exact ih
theorem psum_is (N : Nat) (s : List UInt8) (h : Nat) (hs : s.length + 2 < N) (hs2 : s.length < 140737488355320) (hh : h < 18446744073709551616) : labels_sum N (h : Int) s = some (fnvS h s : Int) := by
  unfold labels_sum
  have : appC 1 s ([255] : List UInt8) = some (s ++ [255]) := by unfold appC; rw [if_pos (by simp; omega)]
  rw [this, Option.bind_some]
  exact psum_loop N (s ++ [255]) [] N h (by simp; omega) (by simp; omega) hh
theorem fnvS_lt (h : Nat) (s : List UInt8) (hh : h < 18446744073709551616) : fnvS h s < 18446744073709551616 := by
  unfold fnvS
  rw [List.foldl_append, List.foldl_cons, List.foldl_nil]
  exact fnvB_lt _ _
theorem raw_loop (N : Nat) : ∀ (r p : List VLabel) (n h : Nat), r.length < n → (∀ z ∈ r, z.Name.length + 2 < N ∧ z.Value.length + 2 < N ∧ z.Name.length < 140737488355320 ∧ z.Value.length < 140737488355320) → (p ++ r).length < 140737488355328 → h < 18446744073709551616 → labels_RawSum_L3 N n (h : Int) (p ++ r) ((p ++ r).length : Int) (p.length : Int) = some (fnvL h r : Int)
  | [], p, n, h, hn, hz, hs, hh => by
    obtain ⟨m, rfl⟩ : ∃ m, n = m + 1 := ⟨n - 1, by simp at hn; omega⟩
    rw [labels_RawSum_L3, lt_end, cond_false]; rfl
  | z :: r, p, n, h, hn, hz, hs, hh => by
    obtain ⟨m, rfl⟩ : ∃ m, n = m + 1 := ⟨n - 1, by simp at hn; omega⟩
    obtain ⟨z1, z2, z3, z4⟩ := hz z List.mem_cons_self
    have k1 := psum_is N z.Name h z1 z3 hh
    have k2 := psum_is N z.Value (fnvS h z.Name) z2 z4 (fnvS_lt _ _ hh)
    have ih := raw_loop N r (p ++ [z]) m (fnvS (fnvS h z.Name) z.Value) (by simp at hn; omega) (fun y hy => hz y (List.mem_cons_of_mem _ hy)) (by simpa using hs) (fnvS_lt _ _ (fnvS_lt _ _ hh))
    rw [labels_RawSum_L3, lt_cat, cond_true, idxC_cat, Option.bind_some, k1, Option.bind_some, k2, Option.bind_some, w64_next p z (by simp at hs; omega), cat_next]
    exact ih
/-- Labels whose texts are not near the bound. -/
def WLab8 (l : List VLabel) : Prop := ∀ z ∈ l, z.Name.length < 140737488355320 ∧ z.Value.length < 140737488355320
theorem rawSum_ev (l : List VLabel) (hw : WLab l) (h8 : WLab8 l) : Ev (fun N => labels_RawSum N l) (fnvA l : Int) := by
  obtain ⟨N0, h0⟩ := len_all l
  refine ⟨max (N0 + 2) (l.length + 20), fun N hN => ?_⟩
  show labels_RawSum N l = _
  unfold labels_RawSum
  exact raw_loop N l [] N _ (by omega) (fun z hz => ⟨by have := (h0 (N - 2) (by omega) z hz).1; omega, by have := (h0 (N - 2) (by omega) z hz).2; omega, (h8 z hz).1, (h8 z hz).2⟩) (by simpa using hw.1) (by decide)
theorem eachF_room (e : Bool) : ∀ {l : List VLabel}, eachF e l = none → ∀ z ∈ l, z.Name.length ≤ 40 ∧ z.Value.length ≤ 100
  | [], _, z, hz => by cases hz
  | x :: l, h, z, hz => by
    unfold eachF at h
    split at h
    · cases h
    · rename_i hn
      split at h
      · cases h
      · split at h
        · cases h
        · rename_i hv
          rcases List.mem_cons.1 hz with rfl | hz
          · refine ⟨?_, by omega⟩
            have : isNameL z.Name = true := by simpa using hn
            unfold isNameL at this
            simp only [Bool.and_eq_true, decide_eq_true_eq] at this
            exact this.2
          · exact eachF_room e h z hz
theorem eachF_pos (e : Bool) : ∀ {l : List VLabel} {x : Int}, eachF e l = some x → x ≠ 0
  | [], x, h => by cases h
  | y :: l, x, h => by
    unfold eachF at h
    split at h
    · cases h; decide
    · split at h
      · cases h; decide
      · split at h
        · cases h; decide
        · exact eachF_pos e h
theorem chk_each {l : List VLabel} (h : chkL l = 0) : l.length ≤ 20 ∧ eachF false l = none := by
  have h1 : eachB false l = 0 := by
    unfold chkL at h
    split at h
    · assumption
    · exact h
  unfold eachB at h1
  split at h1
  · cases h1
  · refine ⟨by omega, ?_⟩
    cases hf : eachF false l with
    | none => rfl
    | some x => rw [hf] at h1; exact absurd h1 (eachF_pos false hf)
theorem chk8 {l : List VLabel} (h : chkL l = 0) : WLab8 l := fun z hz => by
  have := eachF_room false (chk_each h).2 z hz
  omega
theorem check1_is (N : Nat) (l : List VLabel) (e : Int) (h : labels_Check N l = some e) (hN : 3 ≤ N) : labels_check N [l] = some e := by
  unfold labels_check
  have key : ∀ m, labels_check_L2 N (m + 2) [l] 1 0 = some e := fun m => by
    rw [labels_check_L2]
    have e0 : decide ((0 : Int) < 1) = true := rfl
    have e1 : idxC [l] 0 = some l := rfl
    rw [e0, cond_true, e1, Option.bind_some, h, Option.bind_some]
    by_cases he : e = 0
    · have e2 : (e != 0) = false := by simpa using he
      rw [e2, cond_false, labels_check_L2, w64_id (by omega) (by omega)]
      have e3 : decide ((0 : Int) + 1 < 1) = false := rfl
      rw [e3, cond_false, he]
    · have e2 : (e != 0) = true := by simpa using he
      rw [e2, cond_true]
  have := key (N - 2)
  rw [show N - 2 + 2 = N by omega] at this
  exact this
theorem psumAll_ev (l : List VLabel) (hw : WLab l) : Ev (fun N => labels_Sum N l) (if chkL l = 0 then (fnvA l : Int) else 0, chkL l) := by
  obtain ⟨N1, h1⟩ := check_ev l hw
  by_cases hc : chkL l = 0
  · obtain ⟨N2, h2⟩ := rawSum_ev l hw (chk8 hc)
    refine ⟨max N1 (max N2 3), fun N hN => ?_⟩
    have h1 := h1 N (by omega)
    have h2 := h2 N (by omega)
    simp only at h1 h2
    show labels_Sum N l = _
    unfold labels_Sum
    rw [check1_is N l _ h1 (by omega), Option.bind_some, hc, if_pos rfl, h2]; rfl
  · refine ⟨max N1 3, fun N hN => ?_⟩
    have h1 := h1 N (by omega)
    simp only at h1
    show labels_Sum N l = _
    unfold labels_Sum
    have e2 : (chkL l != 0) = true := by simpa using hc
    rw [check1_is N l _ h1 (by omega), Option.bind_some, e2, cond_true, if_neg hc]
end Go.Proofs.Ytbpgpfigndlohaa
