/- What the plain functions come to: records, read by the program. -/
import Derived.Test.YtgmbgbalcndohaaEP
import Derived.Lib.EndianBits
namespace Go.Proofs.Ytgmbgbalcndohaa
open Go.RowKit P
set_option linter.unusedVariables false
set_option linter.unusedSimpArgs false
theorem appC_is {α : Type} (by_ : Nat) (l m : List α) (h : l.length + m.length ≤ 1048577) (hb : by_ ≤ 1000000) : appC by_ l m = some (l ++ m) := by
  unfold appC
  rw [if_pos]
  have : (l.length + m.length) * by_ ≤ 1048577 * 1000000 := Nat.mul_le_mul h hb
  omega
def labelR (s : List UInt8) : Option (VLabel × List UInt8) := (textR s).bind fun p => (textR p.2).bind fun q => some (⟨p.1, q.1⟩, q.2)
theorem labelR_len {s t : List UInt8} {x : VLabel} (h : labelR s = some (x, t)) : t.length < s.length := by
  obtain ⟨⟨a, u⟩, h1, h2⟩ := Option.bind_eq_some_iff.1 h
  obtain ⟨⟨b, w⟩, h3, h4⟩ := Option.bind_eq_some_iff.1 h2
  cases h4
  have := textR_len h1
  have := textR_len h3
  simp only at *
  omega
/-- So many, one behind the other. -/
def repR {α : Type} (f : List UInt8 → Option (α × List UInt8)) : Nat → List UInt8 → Option (List α × List UInt8)
  | 0, s => some ([], s)
  | n + 1, s => (f s).bind fun p => (repR f n p.2).bind fun q => some (p.1 :: q.1, q.2)
theorem repR_len {α : Type} {f : List UInt8 → Option (α × List UInt8)} (hf : ∀ {s x t}, f s = some (x, t) → t.length < s.length) : ∀ {n : Nat} {s t : List UInt8} {l : List α}, repR f n s = some (l, t) → t.length + n ≤ s.length ∧ l.length = n
  | 0, s, t, l, h => by cases h; exact ⟨by omega, rfl⟩
  | n + 1, s, t, l, h => by
    obtain ⟨⟨a, u⟩, h1, h2⟩ := Option.bind_eq_some_iff.1 h
    obtain ⟨⟨b, w⟩, h3, h4⟩ := Option.bind_eq_some_iff.1 h2
    cases h4
    have := hf h1
    have := repR_len hf h3
    simp only [List.length_cons] at *
    omega
def manyR {α : Type} (f : List UInt8 → Option (α × List UInt8)) (s : List UInt8) : Option (List α × List UInt8) := (numR s).bind fun p => if p.1 ≤ p.2.length then repR f p.1 p.2 else none
theorem manyR_len {α : Type} {f : List UInt8 → Option (α × List UInt8)} (hf : ∀ {s x t}, f s = some (x, t) → t.length < s.length) {s t : List UInt8} {l : List α} (h : manyR f s = some (l, t)) : t.length < s.length := by
  obtain ⟨⟨a, u⟩, h1, h2⟩ := Option.bind_eq_some_iff.1 h
  have := numR_len h1
  split at h2
  · have := (repR_len hf h2).1
    simp only at *
    omega
  · cases h2
theorem label_is (N : Nat) (ref : Int) (ls : List VLabel) (s : List UInt8) (hs : s.length ≤ 1048576) (hl : ls.length ≤ 1048576) : record_reader_record_1_1_i0 N ref ls ⟨s⟩ = some (match labelR s with
    | some (x, t) => .ok (ref, ls ++ [x], ⟨t⟩)
    | none => .pan wrongP) := by
  unfold record_reader_record_1_1_i0 labelR
  rw [text_is N s hs, Option.bind_some]
  cases h : textR s with
  | none => rfl
  | some p =>
    obtain ⟨a, t⟩ := p
    have := textR_len h
    simp only [Option.bind_some]
    rw [text_is N t (by omega), Option.bind_some]
    cases h2 : textR t with
    | none => rfl
    | some q =>
      obtain ⟨b, u⟩ := q
      simp only [Option.bind_some]
      rw [appC_is 32 ls _ (by simp; omega) (by omega), Option.bind_some]
theorem lt_nat {a b : Nat} (h : a < b) : decide ((a : Int) < (b : Int)) = true := by simp; omega
theorem nlt_nat {a b : Nat} (h : b ≤ a) : decide ((a : Int) < (b : Int)) = false := by simp; omega
theorem w64_succ {j : Nat} (h : j ≤ 4611686018427387904) : w64 ((j : Int) + 1) = ((j + 1 : Nat) : Int) := w64_id (by omega) (by omega)
theorem labels_loop (N : Nat) (ref : Int) : ∀ (k j m : Nat) (ls : List VLabel) (s : List UInt8), s.length ≤ 1048576 → ls.length + k ≤ 1048576 → j + k ≤ 1048576 → k < m → record_reader_many_i0_L4 N m ((j + k : Nat) : Int) (j : Int) ⟨s⟩ ref ls = some (match repR labelR k s with
    | some (xs, t) => .ok (⟨t⟩, ref, ls ++ xs)
    | none => .pan wrongP)
  | k, j, 0, ls, s, _, _, _, h => by omega
  | 0, j, m + 1, ls, s, hs, hl, hj, h => by
    unfold record_reader_many_i0_L4
    rw [nlt_nat (by omega)]
    simp only [cond_false, repR, List.append_nil]
  | k + 1, j, m + 1, ls, s, hs, hl, hj, h => by
    unfold record_reader_many_i0_L4
    rw [lt_nat (by omega), cond_true, label_is N ref ls s hs (by omega), Option.bind_some]
    unfold repR
    cases h1 : labelR s with
    | none => rfl
    | some p =>
      obtain ⟨x, t⟩ := p
      have := labelR_len h1
      simp only [Option.bind_some]
      rw [w64_succ (by omega), show j + (k + 1) = (j + 1) + k by omega, labels_loop N ref k (j + 1) m (ls ++ [x]) t (by omega) (by simp; omega) (by omega) (by omega)]
      cases repR labelR k t with
      | none => rfl
      | some q => simp
theorem many0_is (N : Nat) (ref : Int) (s : List UInt8) (hs : s.length ≤ 1048576) (hN : 1048577 ≤ N) : record_reader_many_i0 N ⟨s⟩ ref [] = some (match manyR labelR s with
    | some (xs, t) => .ok (⟨t⟩, ref, xs)
    | none => .pan wrongP) := by
  unfold record_reader_many_i0 manyR
  rw [number_is N s hs, Option.bind_some]
  unfold numP
  cases h : numR s with
  | none => rfl
  | some p =>
    obtain ⟨n, t⟩ := p
    have := numR_len h
    simp only [Option.bind_some]
    by_cases hn : n ≤ t.length
    · have c : decide ((n : Int) > (t.length : Int)) = false := by simp; omega
      rw [c, cond_false, if_pos hn]
      have := labels_loop N ref n 0 N [] t (by omega) (by simp; omega) (by omega) (by omega)
      rw [Nat.zero_add] at this
      simp only [List.nil_append] at this
      exact this
    · have c : decide ((n : Int) > (t.length : Int)) = true := by simp; omega
      rw [c, cond_true, if_neg hn]; rfl
def refR (s : List UInt8) : Option (VRef × List UInt8) := (numR s).bind fun p => (manyR labelR p.2).bind fun q => some (⟨(p.1 : Int), q.1⟩, q.2)
theorem refR_len {s t : List UInt8} {x : VRef} (h : refR s = some (x, t)) : t.length < s.length := by
  obtain ⟨⟨a, u⟩, h1, h2⟩ := Option.bind_eq_some_iff.1 h
  obtain ⟨⟨b, w⟩, h3, h4⟩ := Option.bind_eq_some_iff.1 h2
  cases h4
  have := numR_len h1
  have := manyR_len labelR_len h3
  simp only at *
  omega
theorem ref_is (N : Nat) (k : Int) (rs : List VRef) (ps : List VPoint) (s : List UInt8) (hs : s.length ≤ 1048576) (hl : rs.length ≤ 1048576) (hN : 1048577 ≤ N) : record_reader_record_1_i0 N k rs ps ⟨s⟩ = some (match refR s with
    | some (x, t) => .ok (k, rs ++ [x], ps, ⟨t⟩)
    | none => .pan wrongP) := by
  unfold record_reader_record_1_i0 refR
  rw [number_is N s hs, Option.bind_some]
  unfold numP
  cases h : numR s with
  | none => rfl
  | some p =>
    obtain ⟨a, t⟩ := p
    have := numR_len h
    simp only [Option.bind_some]
    rw [many0_is N a t (by omega) hN, Option.bind_some]
    cases h2 : manyR labelR t with
    | none => rfl
    | some q =>
      obtain ⟨b, u⟩ := q
      simp only [Option.bind_some]
      rw [appC_is 32 rs _ (by simp; omega) (by omega), Option.bind_some]
theorem refs_loop (N : Nat) (kd : Int) (ps : List VPoint) (hN : 1048577 ≤ N) : ∀ (k j m : Nat) (rs : List VRef) (s : List UInt8), s.length ≤ 1048576 → rs.length + k ≤ 1048576 → j + k ≤ 1048576 → k < m → record_reader_many_i1_L4 N m ((j + k : Nat) : Int) (j : Int) ⟨s⟩ kd rs ps = some (match repR refR k s with
    | some (xs, t) => .ok (⟨t⟩, kd, rs ++ xs, ps)
    | none => .pan wrongP)
  | k, j, 0, ls, s, _, _, _, h => by omega
  | 0, j, m + 1, ls, s, hs, hl, hj, h => by
    unfold record_reader_many_i1_L4
    rw [nlt_nat (by omega)]
    simp only [cond_false, repR, List.append_nil]
  | k + 1, j, m + 1, ls, s, hs, hl, hj, h => by
    unfold record_reader_many_i1_L4
    rw [lt_nat (by omega), cond_true, ref_is N kd ls ps s hs (by omega) hN, Option.bind_some]
    unfold repR
    cases h1 : refR s with
    | none => rfl
    | some p =>
      obtain ⟨x, t⟩ := p
      have := refR_len h1
      simp only [Option.bind_some]
      rw [w64_succ (by omega), show j + (k + 1) = (j + 1) + k by omega, refs_loop N kd ps hN k (j + 1) m (ls ++ [x]) t (by omega) (by simp; omega) (by omega) (by omega)]
      cases repR refR k t with
      | none => rfl
      | some q => simp
theorem many1_is (N : Nat) (kd : Int) (s : List UInt8) (hs : s.length ≤ 1048576) (hN : 1048577 ≤ N) : record_reader_many_i1 N ⟨s⟩ kd [] [] = some (match manyR refR s with
    | some (xs, t) => .ok (⟨t⟩, kd, xs, [])
    | none => .pan wrongP) := by
  unfold record_reader_many_i1 manyR
  rw [number_is N s hs, Option.bind_some]
  unfold numP
  cases h : numR s with
  | none => rfl
  | some p =>
    obtain ⟨n, t⟩ := p
    have := numR_len h
    simp only [Option.bind_some]
    by_cases hn : n ≤ t.length
    · have c : decide ((n : Int) > (t.length : Int)) = false := by simp; omega
      rw [c, cond_false, if_pos hn]
      have := refs_loop N kd [] hN n 0 N [] t (by omega) (by simp; omega) (by omega) (by omega)
      rw [Nat.zero_add] at this
      simp only [List.nil_append] at this
      exact this
    · have c : decide ((n : Int) > (t.length : Int)) = true := by simp; omega
      rw [c, cond_true, if_neg hn]; rfl
/-! ### Points -/
/-- Bytes as a number, the lowest first. -/
def wv : List UInt8 → Nat
  | [] => 0
  | c :: r => c.toNat + 256 * wv r
theorem wv_lt : ∀ l : List UInt8, wv l < 256 ^ l.length
  | [] => by simp [wv]
  | c :: r => by
    have := wv_lt r
    have h := c.toNat_lt
    simp only [wv, List.length_cons, Nat.pow_succ]
    omega
theorem wv_snoc : ∀ (l : List UInt8) (c : UInt8), wv (l ++ [c]) = wv l + 256 ^ l.length * c.toNat
  | [], c => by simp [wv]
  | b :: r, c => by
    simp only [List.cons_append, wv, wv_snoc r c, List.length_cons, Nat.pow_succ, Nat.mul_add]
    have : 256 * (256 ^ r.length * c.toNat) = 256 ^ r.length * 256 * c.toNat := by rw [← Nat.mul_assoc, Nat.mul_comm 256]
    omega
/-- A time, out of a number from 0 on. -/
def unz (t : Nat) : Int := if t % 2 = 0 then ((t / 2 : Nat) : Int) else -(((t + 1) / 2 : Nat) : Int)
def pointR (s : List UInt8) : Option (VPoint × List UInt8) := (numR s).bind fun p => (numR p.2).bind fun q => (takeR 8 q.2).bind fun r => some (⟨(p.1 : Int), unz q.1, (wv r.1 : Nat)⟩, r.2)
theorem pointR_len {s t : List UInt8} {x : VPoint} (h : pointR s = some (x, t)) : t.length < s.length := by
  obtain ⟨⟨a, u⟩, h1, h2⟩ := Option.bind_eq_some_iff.1 h
  obtain ⟨⟨b, w⟩, h3, h4⟩ := Option.bind_eq_some_iff.1 h2
  obtain ⟨⟨c, y⟩, h5, h6⟩ := Option.bind_eq_some_iff.1 h4
  cases h6
  have := numR_len h1
  have := numR_len h3
  have h7 := congrArg List.length (takeR_some h5).1
  simp only [List.length_append] at *
  omega
theorem shl8 (c : UInt8) (j : Nat) (hj : j < 8) : shlC .u64 (IntKind.wrap .u64 (b2i c)) (w64 (8 * (j : Int))) = some ((256 ^ j * c.toNat : Nat) : Int) := by
  have h := c.toNat_lt
  have h1 : IntKind.wrap .u64 (b2i c) = (c.toNat : Int) := by
    show IntKind.wrap .u64 ((c.toNat : Nat) : Int) = _
    exact wraps_u64 _ (by omega) (by omega)
  rw [h1, w64_id (by omega) (by omega)]
  unfold shlC
  rw [if_pos (by omega)]
  have e : min (8 * (j : Int)).toNat IntKind.u64.bits = 8 * j := by
    have : IntKind.u64.bits = 64 := rfl
    omega
  rw [e]
  have e2 : ((2 : Int) ^ (8 * j)) = ((256 ^ j : Nat) : Int) := by
    rw [Int.pow_mul]; norm_cast
  rw [e2]
  have hlt : 256 ^ j * c.toNat < 18446744073709551616 := by
    have h8 : 256 ^ j ≤ 256 ^ 7 := Nat.pow_le_pow_right (by decide) (by omega)
    have h9 : (256 : Nat) ^ 7 = 72057594037927936 := by decide
    have := Nat.mul_le_mul (h9 ▸ h8) (show c.toNat ≤ 255 by omega)
    omega
  congr 1
  rw [← Int.natCast_mul, Nat.mul_comm c.toNat]
  exact wraps_u64 _ (by omega) (by omega)
theorem or_low (a b j : Nat) (hj : j < 8) (ha : a < 256 ^ j) (hb : b < 256) : bits .or .u64 (a : Int) ((256 ^ j * b : Nat) : Int) = ((a + 256 ^ j * b : Nat) : Int) := by
  have hp : (256 : Nat) ^ j = 2 ^ (8 * j) := by rw [Nat.pow_mul]
  have h8 : 256 ^ j ≤ 256 ^ 7 := Nat.pow_le_pow_right (by decide) (by omega)
  have h9 : (256 : Nat) ^ 7 = 72057594037927936 := by decide
  have hm := Nat.mul_le_mul (h9 ▸ h8) (show b ≤ 255 by omega)
  have hz : ((256 ^ j * b : Nat) : Int) % 2 ^ (8 * j) = 0 := by
    have : ((2 : Int) ^ (8 * j)) = ((256 ^ j : Nat) : Int) := by rw [hp]; norm_cast
    rw [this, ← Int.natCast_emod, Nat.mul_mod_right]; rfl
  have hy : (a : Int) < 2 ^ (8 * j) := by
    have : ((2 : Int) ^ (8 * j)) = ((256 ^ j : Nat) : Int) := by rw [hp]; norm_cast
    rw [this]; omega
  rw [bits_join_low .u64 64 (by decide) wraps_u64 (8 * j) (a : Int) ((256 ^ j * b : Nat) : Int) (by omega) hy (by omega) (by omega) hz (by omega)]
  omega
theorem point_loop (N : Nat) (w : List UInt8) (hw : w.length = 8) (rf tm kd : Int) (rs : List VRef) (ps : List VPoint) (hp : ps.length ≤ 1048576) (rd : Vreader) : ∀ (k j m : Nat), j + k = 8 → k < m → record_reader_record_2_i0_L5 N m w (8 : Int) (j : Int) ⟨rf, tm, (wv (w.take j) : Nat)⟩ kd rs ps rd = some (.ok (kd, rs, ps ++ [⟨rf, tm, (wv w : Nat)⟩], rd))
  | k, j, 0, _, h => by omega
  | 0, j, m + 1, hj, h => by
    unfold record_reader_record_2_i0_L5
    have c : decide ((j : Int) < 8) = false := by simp; omega
    rw [c, cond_false, List.take_of_length_le (by omega), appC_is 24 ps _ (by simp; omega) (by omega), Option.bind_some]
  | k + 1, j, m + 1, hj, h => by
    unfold record_reader_record_2_i0_L5
    have c : decide ((j : Int) < 8) = true := by simp; omega
    have hlt : j < w.length := by omega
    have hb := (w[j]).toNat_lt
    have ht := wv_lt (w.take j)
    have hlen : (w.take j).length = j := by rw [List.length_take]; omega
    rw [hlen] at ht
    rw [c, cond_true, idxC_get hlt, Option.bind_some, shl8 _ j (by omega), Option.bind_some, w64_succ (by omega)]
    simp only
    rw [or_low _ _ j (by omega) ht hb]
    have hs : wv (w.take (j + 1)) = wv (w.take j) + 256 ^ j * (w[j]).toNat := by
      rw [List.take_succ_eq_append_getElem hlt, wv_snoc, hlen]
    rw [← hs]
    exact point_loop N w hw rf tm kd rs ps hp rd k (j + 1) m (by omega) (by omega)
theorem point4_is (N n : Nat) (hn : 9 < n) (rf tm kd : Int) (rs : List VRef) (ps : List VPoint) (hp : ps.length ≤ 1048576) (s : List UInt8) (hs : s.length ≤ 1048576) : record_reader_record_2_i0_R4 N n ⟨rf, tm, 0⟩ kd rs ps ⟨s⟩ = some (match takeR 8 s with
    | some (w, t) => .ok (kd, rs, ps ++ [⟨rf, tm, (wv w : Nat)⟩], ⟨t⟩)
    | none => .pan wrongP) := by
  unfold record_reader_record_2_i0_R4
  rw [show (8 : Int) = ((8 : Nat) : Int) from rfl, take_is N 8 s hs, Option.bind_some]
  cases h : takeR 8 s with
  | none => rfl
  | some p =>
    obtain ⟨w, t⟩ := p
    have hw := (takeR_some h).2
    have := point_loop N w hw rf tm kd rs ps hp ⟨t⟩ 8 0 n rfl (by omega)
    simp only [List.take_zero, wv] at this
    simp only [hw]
    exact this
theorem point_is (N : Nat) (kd : Int) (rs : List VRef) (ps : List VPoint) (s : List UInt8) (hs : s.length ≤ 1048576) (hp : ps.length ≤ 1048576) (hN : 1048577 ≤ N) : record_reader_record_2_i0 N kd rs ps ⟨s⟩ = some (match pointR s with
    | some (x, t) => .ok (kd, rs, ps ++ [x], ⟨t⟩)
    | none => .pan wrongP) := by
  unfold record_reader_record_2_i0 pointR
  rw [number_is N s hs, Option.bind_some]
  unfold numP
  cases h : numR s with
  | none => rfl
  | some p =>
    obtain ⟨a, t⟩ := p
    have := numR_len h
    simp only [Option.bind_some]
    rw [number_is N t (by omega), Option.bind_some]
    unfold numP
    cases h2 : numR t with
    | none => rfl
    | some q =>
      obtain ⟨b, u⟩ := q
      have := numR_len h2
      have hb := (numR_some h2).2
      simp only [Option.bind_some]
      unfold record_reader_record_2_i0_R1
      have hr : remC (b : Int) 2 = some ((b % 2 : Nat) : Int) := by
        unfold remC
        rw [if_neg (by decide)]
        exact congrArg some (Int.tmod_eq_emod_of_nonneg (by omega))
      simp only [hr, Option.bind_some]
      by_cases hz : b % 2 = 0
      · have hq : quoC .i64 (b : Int) 2 = some (unz b) := by
          unfold quoC unz
          rw [if_neg (by decide), if_pos hz]
          congr 1
          rw [Int.tdiv_eq_ediv_of_nonneg (by omega), IntKind.wrap_i64]; omega
        have c : (((b % 2 : Nat) : Int) == 0) = true := by simp; omega
        simp only [c, cond_true, hq, Option.bind_some]
        rw [point4_is N N (by omega) a (unz b) kd rs ps hp u (by omega)]
        cases takeR 8 u with
        | none => rfl
        | some r => rfl
      · have hq : quoC .i64 (w64 (0 - (w64 ((b : Int) + 1)))) 2 = some (unz b) := by
          unfold quoC unz
          have e1 : w64 ((b : Int) + 1) = (b : Int) + 1 := w64_id (by omega) (by omega)
          have e2 : w64 (0 - ((b : Int) + 1)) = 0 - ((b : Int) + 1) := w64_id (by omega) (by omega)
          rw [if_neg (by decide), if_neg hz, e1, e2]
          refine congrArg some ?_
          have : (0 - ((b : Int) + 1)).tdiv 2 = -((((b + 1) / 2 : Nat)) : Int) := by
            rw [Int.zero_sub, Int.neg_tdiv, Int.tdiv_eq_ediv_of_nonneg (by omega)]; omega
          rw [this, IntKind.wrap_i64]; omega
        have c : (((b % 2 : Nat) : Int) == 0) = false := by simp; omega
        simp only [c, cond_false, hq, Option.bind_some]
        rw [point4_is N N (by omega) a (unz b) kd rs ps hp u (by omega)]
        cases takeR 8 u with
        | none => rfl
        | some r => rfl
theorem points_loop (N : Nat) (kd : Int) (rs : List VRef) (hN : 1048577 ≤ N) : ∀ (k j m : Nat) (ps : List VPoint) (s : List UInt8), s.length ≤ 1048576 → ps.length + k ≤ 1048576 → j + k ≤ 1048576 → k < m → record_reader_many_i2_L4 N m ((j + k : Nat) : Int) (j : Int) ⟨s⟩ kd rs ps = some (match repR pointR k s with
    | some (xs, t) => .ok (⟨t⟩, kd, rs, ps ++ xs)
    | none => .pan wrongP)
  | k, j, 0, ls, s, _, _, _, h => by omega
  | 0, j, m + 1, ls, s, hs, hl, hj, h => by
    unfold record_reader_many_i2_L4
    rw [nlt_nat (by omega)]
    simp only [cond_false, repR, List.append_nil]
  | k + 1, j, m + 1, ls, s, hs, hl, hj, h => by
    unfold record_reader_many_i2_L4
    rw [lt_nat (by omega), cond_true, point_is N kd rs ls s hs (by omega) hN, Option.bind_some]
    unfold repR
    cases h1 : pointR s with
    | none => rfl
    | some p =>
      obtain ⟨x, t⟩ := p
      have := pointR_len h1
      simp only [Option.bind_some]
      rw [w64_succ (by omega), show j + (k + 1) = (j + 1) + k by omega, points_loop N kd rs hN k (j + 1) m (ls ++ [x]) t (by omega) (by simp; omega) (by omega) (by omega)]
      cases repR pointR k t with
      | none => rfl
      | some q => simp
theorem many2_is (N : Nat) (kd : Int) (s : List UInt8) (hs : s.length ≤ 1048576) (hN : 1048577 ≤ N) : record_reader_many_i2 N ⟨s⟩ kd [] [] = some (match manyR pointR s with
    | some (xs, t) => .ok (⟨t⟩, kd, [], xs)
    | none => .pan wrongP) := by
  unfold record_reader_many_i2 manyR
  rw [number_is N s hs, Option.bind_some]
  unfold numP
  cases h : numR s with
  | none => rfl
  | some p =>
    obtain ⟨n, t⟩ := p
    have := numR_len h
    simp only [Option.bind_some]
    by_cases hn : n ≤ t.length
    · have c : decide ((n : Int) > (t.length : Int)) = false := by simp; omega
      rw [c, cond_false, if_pos hn]
      have := points_loop N kd [] hN n 0 N [] t (by omega) (by simp; omega) (by omega) (by omega)
      rw [Nat.zero_add] at this
      simp only [List.nil_append] at this
      exact this
    · have c : decide ((n : Int) > (t.length : Int)) = true := by simp; omega
      rw [c, cond_true, if_neg hn]; rfl
/-- A record. -/
def recordR (s : List UInt8) : Option (VRecord × List UInt8) := match s with
  | [] => none
  | c :: t => if c.toNat = 1 then (manyR refR t).map fun q => (⟨1, q.1, []⟩, q.2) else if c.toNat = 2 then (manyR pointR t).map fun q => (⟨2, [], q.1⟩, q.2) else some (⟨(c.toNat : Int), [], []⟩, t)
theorem record_is (N : Nat) (s : List UInt8) (hs : s.length ≤ 1048576) (hN : 1048577 ≤ N) : record_reader_record_i0 N ⟨s⟩ = some (match recordR s with
    | some (x, t) => .ok (x, ⟨t⟩)
    | none => .pan wrongP) := by
  unfold record_reader_record_i0
  rw [show (1 : Int) = ((1 : Nat) : Int) from rfl, take_is N 1 s hs, Option.bind_some]
  cases s with
  | nil => rfl
  | cons c t =>
    have hc := c.toNat_lt
    have h1 : takeR 1 (c :: t) = some ([c], t) := by simp [takeR]
    have h2 : idxC [c] (0 : Int) = some c := rfl
    have h3 : w64 (b2i c) = (c.toNat : Int) := w64_id (by show -9223372036854775808 ≤ ((c.toNat : Nat) : Int); omega) (by show ((c.toNat : Nat) : Int) < _; omega)
    simp only [h1, h2, Option.bind_some, h3, recordR]
    simp only [List.length_cons] at hs
    by_cases k1 : c.toNat = 1
    · rw [k1]
      simp only [Int.natCast_one, beq_self_eq_true, cond_true, if_true]
      rw [many1_is N 1 t (by omega) hN, Option.bind_some]
      cases manyR refR t with
      | none => rfl
      | some q => rfl
    · have e1 : ((c.toNat : Int) == ((1 : Nat) : Int)) = false := by simp; omega
      by_cases k2 : c.toNat = 2
      · rw [k2]
        have e3 : (((2 : Nat) : Int) == ((1 : Nat) : Int)) = false := by decide
        have e4 : (((2 : Nat) : Int) == (2 : Int)) = true := by decide
        simp only [e3, e4, cond_false, cond_true, if_true, show ¬ (2 : Nat) = 1 from by decide, if_false]
        rw [show (((2 : Nat) : Int)) = (2 : Int) from rfl, many2_is N 2 t (by omega) hN, Option.bind_some]
        cases manyR pointR t with
        | none => rfl
        | some q => rfl
      · have e2 : ((c.toNat : Int) == (2 : Int)) = false := by simp; omega
        simp only [e1, e2, cond_false, if_neg k1, if_neg k2]
end Go.Proofs.Ytgmbgbalcndohaa
