/- What the plain functions come to: what the reference unpacks. -/
import Derived.Test.YtofidfkojmbdoaaE3
import Derived.Test.YtofidfkojmbdoaaPC
namespace Go.Proofs.Ytofidfkojmbdoaa
open Go.RowKit P
set_option linter.unusedVariables false
set_option linter.unusedSimpArgs false

theorem b2i_is (c : UInt8) : b2i c = (c.toNat : Int) := rfl
theorem quo4 (n : Nat) (h : n < 1000000) : quoC .i64 (n : Int) 4 = some ((n / 4 : Nat) : Int) := by
  unfold quoC
  rw [if_neg (by decide)]
  congr 1
  rw [Int.tdiv_eq_ediv_of_nonneg (by omega)]
  have := w64_id (n := (n : Int) / 4) (by omega) (by omega)
  unfold w64 at this
  rw [this]; omega
theorem quo8 (n : Nat) (h : n < 1000000) : quoC .i64 (n : Int) 8 = some ((n / 8 : Nat) : Int) := by
  unfold quoC
  rw [if_neg (by decide)]
  congr 1
  rw [Int.tdiv_eq_ediv_of_nonneg (by omega)]
  have := w64_id (n := (n : Int) / 8) (by omega) (by omega)
  unfold w64 at this
  rw [this]; omega
theorem rem4 (n : Nat) : remC (n : Int) 4 = some ((n % 4 : Nat) : Int) := by
  unfold remC
  rw [if_neg (by decide), Int.tmod_eq_emod_of_nonneg (by omega)]
  congr 1
theorem rem8 (n : Nat) : remC (n : Int) 8 = some ((n % 8 : Nat) : Int) := by
  unfold remC
  rw [if_neg (by decide), Int.tmod_eq_emod_of_nonneg (by omega)]
  congr 1
theorem idx_drop {α : Type} {s r : List α} {p i : Nat} {z : α} (h : s.drop p = r) (hz : r[i]? = some z) : idxC s ((p + i : Nat) : Int) = some z := by
  unfold idxC
  rw [if_pos (by omega)]
  rw [← h, List.getElem?_drop] at hz
  exact hz

/-! ### A number from the low byte on -/
theorem le_loop (N : Nat) (s r : List UInt8) (p n : Nat) (hr : s.drop p = r) (hn : n ≤ r.length) (h4 : n ≤ 4) (hp : p < 1000000000) : ∀ (j m : Nat), j ≤ n → j < m → ref_UnpackOf_1_i0_L5 N m (n : Int) (leN ((r.take n).drop j) : Int) ((j : Int) - 1) (p : Int) s = some ((leN (r.take n) : Int), ((p + n : Nat) : Int), s)
  | j, 0, _, h => by omega
  | 0, m + 1, _, _ => by
    unfold ref_UnpackOf_1_i0_L5
    rw [show decide (((0 : Nat) : Int) - 1 ≥ 0) = false by decide, cond_false, List.drop_zero, w64_id (by omega) (by omega)]
    rfl
  | j + 1, m + 1, hj, hm => by
    have ih := le_loop N s r p n hr hn h4 hp j m (by omega) (by omega)
    have hlt : j < r.length := by omega
    have hd : (r.take n).drop j = r[j] :: (r.take n).drop (j + 1) := by
      rw [List.drop_eq_getElem_cons (by rw [List.length_take]; omega)]
      congr 1
      rw [List.getElem_take]
    have hb : leN ((r.take n).drop j) < 256 ^ 4 := by
      have h1 := leN_lt ((r.take n).drop j)
      have h2 : ((r.take n).drop j).length ≤ 4 := by rw [List.length_drop, List.length_take]; omega
      have h3 : 256 ^ ((r.take n).drop j).length ≤ 256 ^ 4 := Nat.pow_le_pow_right (by decide) h2
      omega
    rw [hd] at hb ih
    simp only [leN] at hb ih
    have hpw : (256 : Nat) ^ 4 = 4294967296 := by decide
    rw [hpw] at hb
    have hc := r[j].toNat_lt
    unfold ref_UnpackOf_1_i0_L5
    rw [show decide (((j + 1 : Nat) : Int) - 1 ≥ 0) = true by simp, cond_true, show ((j + 1 : Nat) : Int) - 1 = (j : Int) by omega, w64_id (n := (p : Int) + (j : Int)) (by omega) (by omega), show (p : Int) + (j : Int) = ((p + j : Nat) : Int) by omega, idx_drop hr (List.getElem?_eq_getElem hlt), Option.bind_some, b2i_is]
    generalize leN ((r.take n).drop (j + 1)) = L at hb ih ⊢
    rw [w64_id (n := 256 * (L : Int)) (by omega) (by omega), w64_id (n := (r[j].toNat : Int)) (by omega) (by omega), w64_id (n := 256 * (L : Int) + (r[j].toNat : Int)) (by omega) (by omega), w64_id (n := (j : Int) - 1) (by omega) (by omega)]
    rw [show (256 * (L : Int) + (r[j].toNat : Int)) = ((r[j].toNat + 256 * L : Nat) : Int) by omega]
    exact ih
theorem le_is (N : Nat) (s r : List UInt8) (p n : Nat) (hr : s.drop p = r) (hps : p ≤ s.length) (hn : n ≤ r.length) (h4 : n ≤ 4) (hp : s.length < 1000000000) (hN : 10 ≤ N) : ref_UnpackOf_1_i0 N (n : Int) (p : Int) s = some ((leN (r.take n) : Int), ((p + n : Nat) : Int), s) := by
  have hrl : r.length = s.length - p := by rw [← hr, List.length_drop]
  unfold ref_UnpackOf_1_i0
  rw [w64_id (n := (p : Int) + (n : Int)) (by omega) (by omega), decide_eq_false (by omega), cond_false, w64_id (n := (n : Int) - 1) (by omega) (by omega)]
  have := le_loop N s r p n hr hn h4 (by omega) n N (Nat.le_refl _) (by omega)
  rw [List.drop_of_length_le (by rw [List.length_take]; omega)] at this
  exact this

/-! ### Literals and copies -/
theorem lit_loop (N : Nat) (k : Int → List UInt8 → List UInt8 → Int → Option (List UInt8 × Int)) (most : Int) (s r o : List UInt8) (p n : Nat) (hr : s.drop p = r) (hn : n + 1 ≤ r.length) (hp : p + n + 1 < 1000000000) (ho : o.length + n + 1 ≤ 1000000000) : ∀ (j i m : Nat), i + j = n + 1 → j < m → ref_UnpackOf_L22 N k m most (o ++ r.take i) (n : Int) (i : Int) s (p : Int) = k most (o ++ r.take (n + 1)) s ((p + n + 1 : Nat) : Int)
  | j, i, 0, _, h => by omega
  | 0, i, m + 1, hi, _ => by
    unfold ref_UnpackOf_L22
    rw [decide_eq_false (by omega), cond_false, w64_id (n := (n : Int) + 1) (by omega) (by omega), w64_id (by omega) (by omega), show i = n + 1 by omega, show (p : Int) + ((n : Int) + 1) = ((p + n + 1 : Nat) : Int) by omega]
  | j + 1, i, m + 1, hi, hm => by
    have ih := lit_loop N k most s r o p n hr hn hp ho j (i + 1) m (by omega) (by omega)
    have hlt : i < r.length := by omega
    have ht : r.take (i + 1) = r.take i ++ [r[i]] := by rw [List.take_succ_eq_append_getElem hlt]
    unfold ref_UnpackOf_L22
    rw [decide_eq_true (by omega), cond_true, w64_id (n := (p : Int) + (i : Int)) (by omega) (by omega), show (p : Int) + (i : Int) = ((p + i : Nat) : Int) by omega, idx_drop hr (List.getElem?_eq_getElem hlt), Option.bind_some, appC_is (by simp; omega), Option.bind_some, w64_id (n := (i : Int) + 1) (by omega) (by omega), List.append_assoc, ← ht, show (i : Int) + 1 = ((i + 1 : Nat) : Int) by omega]
    exact ih
theorem lit_is (N : Nat) (k : Int → List UInt8 → List UInt8 → Int → Option (List UInt8 × Int)) (most m : Nat) (s r o r' o' : List UInt8) (p n : Nat) (hr : s.drop p = r) (hps : p ≤ s.length) (hs : s.length < 100000000) (hm : most ≤ 20000) (hf : 20010 ≤ m) (h : litE n most r o = some (r', o')) : ref_UnpackOf_R19 N k m (most : Int) o (n : Int) s (p : Int) = k most o' s ((p + n + 1 : Nat) : Int) ∧ s.drop (p + n + 1) = r' ∧ p + n + 1 ≤ s.length := by
  have hrl : r.length = s.length - p := by rw [← hr, List.length_drop]
  unfold litE at h
  split at h
  · cases h
  · rename_i hc
    injection h with h
    injection h with h1 h2
    refine ⟨?_, by rw [← h1, ← hr, List.drop_drop]; congr 1, by omega⟩
    unfold ref_UnpackOf_R19
    rw [decide_eq_false (by omega), cond_false, w64_id (n := (p : Int) + (n : Int)) (by omega) (by omega), w64_id (n := (p : Int) + (n : Int) + 1) (by omega) (by omega), decide_eq_false (by omega), cond_false, w64_id (n := (o.length : Int) + (n : Int)) (by omega) (by omega), w64_id (n := (o.length : Int) + (n : Int) + 1) (by omega) (by omega), decide_eq_false (by omega), cond_false]
    have := lit_loop N k (most : Int) s r o p n hr (by omega) (by omega) (by omega) (n + 1) 0 m (by omega) (by omega)
    rw [List.take_zero, List.append_nil] at this
    rw [← h2]
    exact this
theorem copy_loop (N : Nat) (k : Int → List UInt8 → List UInt8 → Int → Option (List UInt8 × Int)) (most : Int) (s : List UInt8) (p : Int) (n back : Nat) (hb : 1 ≤ back) (hn : n ≤ 1000000) : ∀ (j i m : Nat) (o : List UInt8), i + j = n → j < m → back ≤ o.length → o.length + j ≤ 1000000000 → ref_UnpackOf_L40 N k m most o (n : Int) (back : Int) (i : Int) s p = k most (copyB back j o) s p
  | j, i, 0, _, _, h, _, _ => by omega
  | 0, i, m + 1, o, hi, _, _, _ => by
    unfold ref_UnpackOf_L40
    rw [decide_eq_false (by omega), cond_false]; rfl
  | j + 1, i, m + 1, o, hi, hm, hbo, ho => by
    have hlt : o.length - back < o.length := by omega
    have ih := copy_loop N k most s p n back hb hn j (i + 1) m (o ++ [o.getD (o.length - back) 0]) (by omega) (by omega) (by simp; omega) (by simp; omega)
    unfold ref_UnpackOf_L40
    rw [decide_eq_true (by omega), cond_true, w64_id (n := (o.length : Int) - (back : Int)) (by omega) (by omega), show (o.length : Int) - (back : Int) = ((o.length - back : Nat) : Int) by omega, idxC_get hlt, Option.bind_some, appC_is (by simp; omega), Option.bind_some, w64_id (n := (i : Int) + 1) (by omega) (by omega), show (i : Int) + 1 = ((i + 1 : Nat) : Int) by omega]
    rw [show o.getD (o.length - back) 0 = o[o.length - back] by simp [hlt]] at ih
    rw [ih]
    simp only [copyB]
    rw [show o.getD (o.length - back) 0 = o[o.length - back] by simp [hlt]]
theorem copy_is (N : Nat) (k : Int → List UInt8 → List UInt8 → Int → Option (List UInt8 × Int)) (most m : Nat) (s r o r' o' : List UInt8) (p : Int) (n back : Nat) (hm : most ≤ 20000) (hf : 20010 ≤ m) (hn : n ≤ 100) (h : copyE n back most r o = some (r', o')) : ref_UnpackOf_R37 N k m (most : Int) o (n : Int) (back : Int) s p = k most o' s p ∧ r' = r := by
  unfold copyE at h
  split at h
  · cases h
  · rename_i hc
    injection h with h
    injection h with h1 h2
    refine ⟨?_, h1.symm⟩
    unfold ref_UnpackOf_R37
    rw [decide_eq_false (by omega), cond_false, decide_eq_false (by omega), cond_false, w64_id (n := (o.length : Int) + (n : Int)) (by omega) (by omega), decide_eq_false (by omega), cond_false]
    have := copy_loop N k (most : Int) s p n back (by omega) (by omega) n 0 m o (by omega) (by omega) (by omega) (by omega)
    rw [← h2]
    exact this

/-! ### An element, and all of them -/
theorem elem_step (N m : Nat) (most : Nat) (s t o r' o' : List UInt8) (c : UInt8) (p : Nat) (hr : s.drop p = c :: t) (hs : s.length < 100000000) (hm : most ≤ 20000) (hf : 20010 ≤ m) (hN : 10 ≤ N) (h : elemE c.toNat t o most = some (r', o')) : ∃ q : Nat, ref_UnpackOf_L11 N (m + 1) (most : Int) o s (p : Int) = ref_UnpackOf_L11 N m (most : Int) o' s (q : Int) ∧ s.drop q = r' ∧ q ≤ s.length := by
  have hl := congrArg List.length hr
  rw [List.length_drop, List.length_cons] at hl
  have hc := c.toNat_lt
  have ht : s.drop (p + 1) = t := by
    have := congrArg (List.drop 1) hr
    rw [List.drop_drop] at this
    simpa using this
  have hi : idxC s (p : Int) = some c := idx_drop (p := p) (i := 0) hr rfl
  have lift : ∀ {n : Nat}, n ≤ t.length → s.drop (p + 1 + n) = t.drop n := fun {n} _ => by rw [← ht, List.drop_drop]
  rw [ref_UnpackOf_L11, decide_eq_true (by omega), cond_true, hi, Option.bind_some, b2i_is, w64_id (n := (c.toNat : Int)) (by omega) (by omega), quo4 _ (by omega), Option.bind_some, rem4, Option.bind_some, w64_id (n := (p : Int) + 1) (by omega) (by omega), show (p : Int) + 1 = ((p + 1 : Nat) : Int) by omega]
  unfold elemE at h
  by_cases h0 : c.toNat % 4 = 0
  · rw [if_pos h0] at h
    rw [show (((c.toNat % 4 : Nat) : Int) == 0) = true by rw [h0]; rfl, cond_true]
    by_cases h60 : c.toNat / 4 < 60
    · rw [if_pos h60] at h
      rw [decide_eq_false (by omega), cond_false]
      obtain ⟨e1, e2, e3⟩ := lit_is N (ref_UnpackOf_L11 N m) most m s t o r' o' (p + 1) (c.toNat / 4) ht (by omega) hs hm hf h
      exact ⟨_, e1, e2, e3⟩
    · rw [if_neg h60] at h
      rw [decide_eq_true (by omega), cond_true, w64_id (n := ((c.toNat / 4 : Nat) : Int) - 59) (by omega) (by omega)]
      split at h
      · cases h
      · rename_i hq
        rw [show ((c.toNat / 4 : Nat) : Int) - 59 = ((c.toNat / 4 - 59 : Nat) : Int) by omega, le_is N s t (p + 1) (c.toNat / 4 - 59) ht (by omega) (by omega) (by omega) (by omega) hN, Option.bind_some]
        simp only
        obtain ⟨e1, e2, e3⟩ := lit_is N (ref_UnpackOf_L11 N m) most m s (t.drop (c.toNat / 4 - 59)) o r' o' (p + 1 + (c.toNat / 4 - 59)) _ (lift (by omega)) (by omega) hs hm hf h
        exact ⟨_, e1, e2, e3⟩
  · rw [if_neg h0] at h
    rw [show (((c.toNat % 4 : Nat) : Int) == 0) = false by simp; omega, cond_false, Option.bind_some]
    by_cases h1 : c.toNat % 4 = 1
    · rw [if_pos h1] at h
      rw [show (((c.toNat % 4 : Nat) : Int) == 1) = true by rw [h1]; rfl, cond_true, rem8, Option.bind_some]
      split at h
      · cases h
      · rename_i hq
        have hle : ref_UnpackOf_1_i0 N 1 ((p + 1 : Nat) : Int) s = _ := le_is N s t (p + 1) 1 ht (by omega) (by omega) (by omega) (by omega) hN
        have hlt := leN_lt (t.take 1)
        have h256 : 256 ^ (t.take 1).length ≤ 256 := by
          have : (t.take 1).length ≤ 1 := by rw [List.length_take]; omega
          calc 256 ^ (t.take 1).length ≤ 256 ^ 1 := Nat.pow_le_pow_right (by decide) this
            _ = 256 := rfl
        rw [hle, Option.bind_some]
        simp only
        rw [decide_eq_true (show ((leN (t.take 1) : Nat) : Int) ≥ 0 by omega), cond_true, quo8 _ (by omega), Option.bind_some, w64_id (n := ((c.toNat / 4 % 8 : Nat) : Int) + 4) (by omega) (by omega), w64_id (n := ((c.toNat / 4 / 8 : Nat) : Int) * 256) (by omega) (by omega), w64_id (n := ((leN (t.take 1) : Nat) : Int) + ((c.toNat / 4 / 8 : Nat) : Int) * 256) (by omega) (by omega)]
        obtain ⟨e1, e2⟩ := copy_is N (ref_UnpackOf_L11 N m) most m s _ o r' o' ((p + 1 + 1 : Nat) : Int) (c.toNat / 4 % 8 + 4) (c.toNat / 4 / 8 * 256 + leN (t.take 1)) hm hf (by omega) h
        refine ⟨p + 1 + 1, ?_, by rw [lift (by omega), e2], by omega⟩
        rw [← e1]
        congr 1
        omega
    · rw [if_neg h1] at h
      rw [show (((c.toNat % 4 : Nat) : Int) == 1) = false by simp; omega, cond_false]
      by_cases h2 : c.toNat % 4 = 2
      · rw [if_pos h2] at h
        rw [show (((c.toNat % 4 : Nat) : Int) == 2) = true by rw [h2]; rfl, cond_true]
        split at h
        · cases h
        · rename_i hq
          have hle : ref_UnpackOf_1_i0 N 2 ((p + 1 : Nat) : Int) s = _ := le_is N s t (p + 1) 2 ht (by omega) (by omega) (by omega) (by omega) hN
          rw [hle, Option.bind_some]
          simp only
          rw [w64_id (n := ((c.toNat / 4 : Nat) : Int) + 1) (by omega) (by omega), show ((c.toNat / 4 : Nat) : Int) + 1 = ((c.toNat / 4 + 1 : Nat) : Int) by omega]
          obtain ⟨e1, e2⟩ := copy_is N (ref_UnpackOf_L11 N m) most m s _ o r' o' ((p + 1 + 2 : Nat) : Int) (c.toNat / 4 + 1) _ hm hf (by omega) h
          exact ⟨p + 1 + 2, e1, by rw [lift (by omega), e2], by omega⟩
      · rw [if_neg h2] at h
        have h3 : c.toNat % 4 = 3 := by omega
        rw [show (((c.toNat % 4 : Nat) : Int) == 2) = false by simp; omega, cond_false, show (((c.toNat % 4 : Nat) : Int) == 3) = true by rw [h3]; rfl, cond_true]
        split at h
        · cases h
        · rename_i hq
          have hle : ref_UnpackOf_1_i0 N 4 ((p + 1 : Nat) : Int) s = _ := le_is N s t (p + 1) 4 ht (by omega) (by omega) (by omega) (by omega) hN
          rw [hle, Option.bind_some]
          simp only
          rw [w64_id (n := ((c.toNat / 4 : Nat) : Int) + 1) (by omega) (by omega), show ((c.toNat / 4 : Nat) : Int) + 1 = ((c.toNat / 4 + 1 : Nat) : Int) by omega]
          obtain ⟨e1, e2⟩ := copy_is N (ref_UnpackOf_L11 N m) most m s _ o r' o' ((p + 1 + 4 : Nat) : Int) (c.toNat / 4 + 1) _ hm hf (by omega) h
          exact ⟨p + 1 + 4, e1, by rw [lift (by omega), e2], by omega⟩
theorem elems_is (N : Nat) (most : Nat) (s out : List UInt8) (hs : s.length < 100000000) (hm : most ≤ 20000) (hN : 10 ≤ N) (ho : out.length = most) : ∀ (f m : Nat) (r o : List UInt8) (p : Nat), r.length ≤ f → f + 20010 < m → s.drop p = r → p ≤ s.length → elems r o most = some out → ref_UnpackOf_L11 N m (most : Int) o s (p : Int) = some (out, 0)
  | f, 0, r, o, p, _, h, _, _, _ => by omega
  | f, m + 1, [], o, p, _, _, hr, hp, he => by
    rw [elems_nil] at he
    cases he
    have : s.length ≤ p := List.drop_eq_nil_iff.1 hr
    unfold ref_UnpackOf_L11
    rw [decide_eq_false (by omega), cond_false, ho]
    simp
  | 0, m + 1, c :: t, o, p, h, _, _, _, _ => by simp at h
  | f + 1, m + 1, c :: t, o, p, h, hm', hr, hp, he => by
    cases hE : elemE c.toNat t o most with
    | none => rw [elems_none hE] at he; cases he
    | some q =>
      obtain ⟨r', o'⟩ := q
      rw [elems_some hE] at he
      have hless := (elemE_less hE).1
      obtain ⟨q, e1, e2, e3⟩ := elem_step N m most s t o r' o' c p hr hs hm (by omega) hN hE
      rw [e1]
      exact elems_is N most s out hs hm hN ho f m r' o' q (by simp at h; omega) (by omega) e2 e3 he

/-! ### The number ahead -/
theorem at10_step (N m : Nat) (x : List UInt8) (e : Int) (v i : Nat) (c : UInt8) (h : x[i]? = some c) (hv : v < 1000000000) (hi : i < 1000000000) : ref_NumberAt_L10 N (m + 1) x e (v : Int) (i : Int) = ref_NumberAt_L10 N m x e ((v * 128 + c.toNat % 128 : Nat) : Int) ((i : Int) - 1) := by
  have hx : idxC x (i : Int) = some c := by
    unfold idxC
    rw [if_pos (by omega)]
    exact h
  have hr : remC (b2i c) (b2i 128) = some ((c.toNat % 128 : Nat) : Int) := by
    show remC (c.toNat : Int) 128 = _
    unfold remC
    rw [if_neg (by decide), Int.tmod_eq_emod_of_nonneg (by omega)]
    congr 1
  have hu : u8C ((c.toNat % 128 : Nat) : Int) = some (UInt8.ofNat (c.toNat % 128)) := by
    unfold u8C
    rw [if_pos (by omega)]; rfl
  have hb : b2i (UInt8.ofNat (c.toNat % 128)) = ((c.toNat % 128 : Nat) : Int) := by
    show (((UInt8.ofNat (c.toNat % 128)).toNat : Nat) : Int) = _
    rw [UInt8.toNat_ofNat']
    omega
  conv => lhs; unfold ref_NumberAt_L10
  rw [decide_eq_true (show (i : Int) ≥ 0 by omega), cond_true, hx, Option.bind_some, hr, Option.bind_some, hu, Option.bind_some, hb, wu64 (n := (v : Int) * 128) (by omega) (by omega), wu64 (n := ((c.toNat % 128 : Nat) : Int)) (by omega) (by omega), wu64 (by omega) (by omega), w64_id (n := (i : Int) - 1) (by omega) (by omega), show (v : Int) * 128 + ((c.toNat % 128 : Nat) : Int) = ((v * 128 + c.toNat % 128 : Nat) : Int) by omega]
theorem at10_end (N m : Nat) (x : List UInt8) (e v : Int) : ref_NumberAt_L10 N (m + 1) x e v (-1) = some (v, w64 (e + 1), 0) := by
  unfold ref_NumberAt_L10
  rw [show decide ((-1 : Int) ≥ 0) = false by decide, cond_false]
theorem at2_more (N m : Nat) (x : List UInt8) (i : Nat) (c : UInt8) (h : x[i]? = some c) (hc : 128 ≤ c.toNat) (hi : i < 9) : ref_NumberAt_L2 N (m + 1) x (i : Int) = ref_NumberAt_L2 N m x ((i + 1 : Nat) : Int) := by
  have hl := (List.getElem?_eq_some_iff.1 h).1
  have hx : idxC x (i : Int) = some c := by
    unfold idxC
    rw [if_pos (by omega)]
    exact h
  conv => lhs; unfold ref_NumberAt_L2
  rw [decide_eq_true (by omega), cond_true, hx, Option.bind_some, show b2i (128 : UInt8) = ((128 : Nat) : Int) from rfl, geI c 128, decide_eq_true hc, cond_true, decide_eq_true (by omega), cond_true, w64_id (n := (i : Int) + 1) (by omega) (by omega)]
  rfl
theorem at2_stop (N m : Nat) (x : List UInt8) (i : Nat) (c : UInt8) (h : x[i]? = some c) (hc : c.toNat < 128) (hi : i < 9) : ref_NumberAt_L2 N (m + 1) x (i : Int) = ref_NumberAt_L10 N m x (i : Int) ((0 : Nat) : Int) (i : Int) := by
  have hl := (List.getElem?_eq_some_iff.1 h).1
  have hx : idxC x (i : Int) = some c := by
    unfold idxC
    rw [if_pos (by omega)]
    exact h
  unfold ref_NumberAt_L2
  rw [decide_eq_true (by omega), cond_true, hx, Option.bind_some, show b2i (128 : UInt8) = ((128 : Nat) : Int) from rfl, geI c 128, decide_eq_false (by omega), cond_false]
  unfold ref_NumberAt_R4
  rw [show ((i : Int) == (x.length : Int)) = false by simp; omega, cond_false, show ((i : Int) == 9) = false by simp; omega, cond_false]
  rfl
theorem numberAt_is (N : Nat) (n : Nat) (t : List UInt8) (hn : n ≤ 20000) (hN : 20 ≤ N) : ref_NumberAt N (num n ++ t) = some ((n : Int), (((num n).length : Nat) : Int), 0) := by
  obtain ⟨M, rfl⟩ : ∃ M, N = M + 10 := ⟨N - 10, by omega⟩
  unfold ref_NumberAt
  by_cases h1 : n < 128
  · rw [num_small h1]
    have hb : (bt n).toNat = n := bt_toNat (by omega)
    rw [show (0 : Int) = ((0 : Nat) : Int) from rfl, at2_stop (M + 10) (M + 9) _ 0 (bt n) rfl (by omega) (by omega), at10_step _ _ _ _ 0 0 (bt n) rfl (by omega) (by omega), hb, show ((0 : Nat) : Int) - 1 = -1 from rfl, at10_end]
    rw [show 0 * 128 + n % 128 = n by omega]
    rfl
  · rw [num_big (by omega) (by omega)]
    have hb : (bt (n % 128 + 128)).toNat = n % 128 + 128 := bt_toNat (by omega)
    by_cases h2 : n / 128 < 128
    · rw [num_small h2]
      have hc : (bt (n / 128)).toNat = n / 128 := bt_toNat (by omega)
      rw [show (0 : Int) = ((0 : Nat) : Int) from rfl, at2_more (M + 10) (M + 9) _ 0 (bt (n % 128 + 128)) rfl (by omega) (by omega), at2_stop (M + 10) (M + 8) _ 1 (bt (n / 128)) rfl (by omega) (by omega), at10_step _ _ _ _ 0 1 (bt (n / 128)) rfl (by omega) (by omega), hc, show ((1 : Nat) : Int) - 1 = ((0 : Nat) : Int) from rfl, at10_step _ _ _ _ _ 0 (bt (n % 128 + 128)) rfl (by omega) (by omega), hb, show ((0 : Nat) : Int) - 1 = -1 from rfl, at10_end]
      rw [show (0 * 128 + n / 128 % 128) * 128 + (n % 128 + 128) % 128 = n by omega]
      rfl
    · rw [num_big (by omega) (by omega), num_small (show n / 128 / 128 < 128 by omega)]
      have hc : (bt (n / 128 % 128 + 128)).toNat = n / 128 % 128 + 128 := bt_toNat (by omega)
      have hd : (bt (n / 128 / 128)).toNat = n / 128 / 128 := bt_toNat (by omega)
      rw [show (0 : Int) = ((0 : Nat) : Int) from rfl, at2_more (M + 10) (M + 9) _ 0 (bt (n % 128 + 128)) rfl (by omega) (by omega), at2_more (M + 10) (M + 8) _ 1 (bt (n / 128 % 128 + 128)) rfl (by omega) (by omega), at2_stop (M + 10) (M + 7) _ 2 (bt (n / 128 / 128)) rfl (by omega) (by omega), at10_step _ _ _ _ 0 2 (bt (n / 128 / 128)) rfl (by omega) (by omega), hd, show ((2 : Nat) : Int) - 1 = ((1 : Nat) : Int) from rfl, at10_step _ _ _ _ _ 1 (bt (n / 128 % 128 + 128)) rfl (by omega) (by omega), hc, show ((1 : Nat) : Int) - 1 = ((0 : Nat) : Int) from rfl, at10_step _ _ _ _ _ 0 (bt (n % 128 + 128)) rfl (by omega) (by omega), hb, show ((0 : Nat) : Int) - 1 = -1 from rfl, at10_end]
      rw [show ((0 * 128 + n / 128 / 128 % 128) * 128 + (n / 128 % 128 + 128) % 128) * 128 + (n % 128 + 128) % 128 = n by omega]
      rfl
theorem refUnpack_is (N : Nat) (t : List UInt8) (ht : t.length ≤ 20000) (hN : 50000 ≤ N) : ref_UnpackOf N (packB t).1 20000 = some (t, 0) := by
  have hp : (packB t).1 = packR t [] 0 0 (num t.length) := by unfold packB; rw [if_neg (by omega)]
  have hl := pack_len ht
  have he := elems_pack ht
  have hn := num_len10 (n := t.length) (by omega)
  rw [hp]
  unfold ref_UnpackOf
  rw [show decide ((20000 : Int) < 0) = false by decide, cond_false, show decide ((20000 : Int) > 20000) = false by decide, cond_false]
  have hA := numberAt_is N t.length (packR t [] 0 0 []) ht (by omega)
  rw [← packR_num] at hA
  rw [hA, Option.bind_some]
  simp only [bne_self_eq_false, cond_false]
  rw [wu64 (n := (20000 : Int)) (by omega) (by omega), decide_eq_false (by omega), cond_false, w64_id (n := (t.length : Int)) (by omega) (by omega)]
  have hps : (num t.length).length ≤ (packR t [] 0 0 (num t.length)).length := by rw [packR_num, List.length_append]; omega
  exact elems_is N t.length _ t (by omega) ht (by omega) rfl _ N _ [] _ (Nat.le_refl _) (by rw [List.length_drop]; omega) rfl hps he
end Go.Proofs.Ytofidfkojmbdoaa
