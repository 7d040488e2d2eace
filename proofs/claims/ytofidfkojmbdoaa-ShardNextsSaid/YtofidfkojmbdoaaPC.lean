-- slim: written by gen/slim.py from XPC.lean.tpl
/- Plain mathematics: what is packed is unpacked as it was; how long it is. -/
import Derived.Test.YtofidfkojmbdoaaPK
namespace Go.Proofs.Ytofidfkojmbdoaa.P
set_option linter.unusedSimpArgs false
set_option linter.unusedVariables false

/-! ### Literals -/
theorem elems_hdr {x rest o : List UInt8} {most : Nat} (h0 : 0 < x.length) (h1 : x.length ≤ 256) (h2 : o.length + x.length ≤ most) : elems (hdr (x.length - 1) ++ x ++ rest) o most = elems rest (o ++ x) most := by
  have hlit : litE (x.length - 1) most (x ++ rest) o = some (rest, o ++ x) := by
    unfold litE
    rw [if_neg (by rw [List.length_append]; omega), show x.length - 1 + 1 = x.length by omega, List.drop_left, List.take_left]
  unfold hdr
  by_cases h60 : x.length - 1 < 60
  · rw [if_pos h60]
    simp only [List.cons_append, List.nil_append]
    refine elems_some ?_
    rw [bt_toNat (by omega)]
    unfold elemE
    rw [if_pos (by omega), if_pos (by omega), show 4 * (x.length - 1) / 4 = x.length - 1 by omega]
    exact hlit
  · rw [if_neg h60]
    simp only [List.cons_append, List.nil_append]
    refine elems_some ?_
    have hc : (240 : UInt8).toNat = 240 := by decide
    rw [hc]
    unfold elemE
    rw [if_pos (by decide), if_neg (by decide)]
    rw [if_neg (by simp)]
    have ht : List.take (240 / 4 - 59) (bt (x.length - 1) :: (x ++ rest)) = [bt (x.length - 1)] := by simp
    have hd : List.drop (240 / 4 - 59) (bt (x.length - 1) :: (x ++ rest)) = x ++ rest := by simp
    rw [ht, hd]
    have hl : leN [bt (x.length - 1)] = x.length - 1 := by simp only [leN]; rw [bt_toNat (by omega)]; omega
    rw [hl]; exact hlit
theorem elems_lit : ∀ (k : Nat) (x rest o : List UInt8) (most : Nat), x.length ≤ k → o.length + x.length ≤ most → elems (litB x ++ rest) o most = elems rest (o ++ x) most := by
  intro k
  induction k with
  | zero =>
    intro x rest o most hk h
    rw [List.length_eq_zero_iff.1 (Nat.le_zero.1 hk)]
    simp [litB_nil]
  | succ k ih =>
    intro x rest o most hk h
    by_cases h0 : x.length = 0
    · rw [List.length_eq_zero_iff.1 h0]; simp [litB_nil]
    · have htl : (x.take 256).length ≤ 256 ∧ 0 < (x.take 256).length ∧ (x.take 256).length ≤ x.length := by rw [List.length_take]; omega
      have hdl : (x.drop 256).length = x.length - 256 := List.length_drop
      have hsum : (x.take 256).length + (x.drop 256).length = x.length := by rw [List.length_take, List.length_drop]; omega
      rw [litB_step (by omega), List.append_assoc, elems_hdr htl.2.1 htl.1 (by omega), ih (x.drop 256) rest _ most (by omega) (by rw [List.length_append]; omega), List.append_assoc, List.take_append_drop]

/-! ### Copies -/
theorem copyB_add (back : Nat) : ∀ (a b : Nat) (o : List UInt8), copyB back (a + b) o = copyB back b (copyB back a o)
  | 0, b, o => by simp [copyB]
  | a + 1, b, o => by
    rw [show a + 1 + b = (a + b) + 1 by omega]
    simp only [copyB]
    exact copyB_add back a b _
theorem elems_copy1 {back n most : Nat} {rest o : List UInt8} (hb : 1 ≤ back) (hbo : back ≤ o.length) (hb2 : back < 65536) (hn : 1 ≤ n) (hn2 : n ≤ 64) (h : o.length + n ≤ most) : elems (elemB back n ++ rest) o most = elems rest (copyB back n o) most := by
  have hcp : copyE n back most rest o = some (rest, copyB back n o) := by unfold copyE; rw [if_neg (by omega)]
  unfold elemB
  by_cases hc : 4 ≤ n ∧ n < 12 ∧ back < 2048
  · rw [if_pos hc]
    simp only [List.cons_append, List.nil_append]
    refine elems_some ?_
    rw [bt_toNat (by omega)]
    unfold elemE
    rw [if_neg (by omega), if_pos (by omega), if_neg (by simp)]
    have hl : leN (List.take 1 (bt (back % 256) :: rest)) = back % 256 := by
      rw [List.take_succ_cons, List.take_zero]; simp only [leN]; rw [bt_toNat (by omega)]; omega
    rw [hl, List.drop_succ_cons, List.drop_zero]
    rw [show (back / 256 * 32 + (n - 4) * 4 + 1) / 4 % 8 + 4 = n by omega, show (back / 256 * 32 + (n - 4) * 4 + 1) / 4 / 8 * 256 + back % 256 = back by omega]
    exact hcp
  · rw [if_neg hc]
    simp only [List.cons_append, List.nil_append]
    refine elems_some ?_
    rw [bt_toNat (by omega)]
    unfold elemE
    rw [if_neg (by omega), if_neg (by omega), if_pos (by omega), if_neg (by simp)]
    have hl : leN (List.take 2 (bt (back % 256) :: bt (back / 256 % 256) :: rest)) = back := by
      rw [List.take_succ_cons, List.take_succ_cons, List.take_zero]; simp only [leN]; rw [bt_toNat (by omega), bt_toNat (by omega)]; omega
    rw [hl, List.drop_succ_cons, List.drop_succ_cons, List.drop_zero]
    rw [show ((n - 1) * 4 + 2) / 4 + 1 = n by omega]
    exact hcp
theorem elems_again : ∀ (k back many most : Nat) (rest o : List UInt8), many ≤ k → 1 ≤ back → back ≤ o.length → back < 65536 → o.length + many ≤ most → elems (againB back many ++ rest) o most = elems rest (copyB back many o) most := by
  intro k
  induction k with
  | zero =>
    intro back many most rest o hk hb hbo hb2 h
    rw [Nat.le_zero.1 hk]; simp [againB_zero, copyB]
  | succ k ih =>
    intro back many most rest o hk hb hbo hb2 h
    by_cases h0 : many = 0
    · subst h0; simp [againB_zero, copyB]
    · have hc := chunk_pos (many := many) (by omega)
      have hl := copyB_len back (chunk many) o
      rw [againB_step back (by omega), List.append_assoc, elems_copy1 hb hbo hb2 hc.1 hc.2.2 (by omega), ih back (many - chunk many) most rest _ (by omega) hb (by omega) hb2 (by omega), ← copyB_add]
      congr 2; omega
/-- A copy of what stands there already. -/
theorem copyB_same {s : List UInt8} {k a : Nat} (hk : k < a) : ∀ (m : Nat), a + m ≤ s.length → (∀ i, i < m → s.getD (k + i) 0 = s.getD (a + i) 0) → copyB (a - k) m (s.take a) = s.take (a + m)
  | 0, _, _ => rfl
  | m + 1, hl, h => by
    have ih := copyB_same hk m (by omega) (fun i hi => h i (by omega))
    have snoc : ∀ (n : Nat) (o : List UInt8), copyB (a - k) (n + 1) o = copyB (a - k) n o ++ [(copyB (a - k) n o).getD ((copyB (a - k) n o).length - (a - k)) 0] := by
      intro n
      induction n with
      | zero => intro o; rfl
      | succ n ihn =>
        intro o
        have := ihn (o ++ [o.getD (o.length - (a - k)) 0])
        simp only [copyB] at this ⊢
        exact this
    rw [snoc, ih]
    have hlen : (s.take (a + m)).length = a + m := by rw [List.length_take]; omega
    have hlt : a + m < s.length := by omega
    rw [hlen, show a + m - (a - k) = k + m by omega, show a + (m + 1) = a + m + 1 by omega, List.take_succ_eq_append_getElem hlt]
    congr 2
    have h1 := h m (by omega)
    have h2 : k + m < s.length := by omega
    rw [List.getD_eq_getElem?_getD, List.getElem?_take_of_lt (by omega), ← List.getD_eq_getElem?_getD, h1]
    simp [hlt]
theorem extF_same : ∀ (f : Nat) (s : List UInt8) (k a n : Nat), ∀ i, n ≤ i → i < extF f s k a n → s.getD (k + i) 0 = s.getD (a + i) 0 := by
  intro f
  induction f with
  | zero => intro s k a n i h1 h2; simp only [extF] at h2; omega
  | succ f ih =>
    intro s k a n i h1 h2
    simp only [extF] at h2
    split at h2
    · rename_i hc
      by_cases e : i = n
      · subst e; exact hc.2
      · exact ih s k a (n + 1) i (by omega) h2
    · omega
theorem key4_same {s : List UInt8} {k a : Nat} (h : key4 s k = key4 s a) (hk : k < a) (ha : a + 4 ≤ s.length) : ∀ i, i < 4 → s.getD (k + i) 0 = s.getD (a + i) 0 := by
  intro i hi
  have hg : ∀ b, b + 4 ≤ s.length → (key4 s b)[i]? = some (s.getD (b + i) 0) := by
    intro b hb
    unfold key4
    rw [List.getElem?_drop, List.getElem?_take_of_lt (by omega)]
    have : b + i < s.length := by omega
    simp [this]
  have h1 := hg k (by omega)
  have h2 := hg a ha
  rw [h, h2] at h1
  exact (Option.some.inj h1).symm

/-! ### What is packed, unpacked -/
theorem packF_pre : ∀ (f : Nat) (s : List UInt8) (l : List (List UInt8 × Nat)) (fr a : Nat) (b : List UInt8), packF f s l fr a b = b ++ packF f s l fr a [] := by
  intro f
  induction f with
  | zero => intro s l fr a b; simp [packF]
  | succ f ih =>
    intro s l fr a b
    simp only [packF]
    split
    · simp
    · cases aget l (key4 s a) with
      | none => exact ih _ _ _ _ _
      | some k =>
        simp only
        rw [ih s _ _ _ (b ++ litB ((s.take a).drop fr) ++ againB (a - k) (ext s k a 4)), ih s _ _ _ ([] ++ litB ((s.take a).drop fr) ++ againB (a - k) (ext s k a 4))]
        simp [List.append_assoc]
theorem take_drop_cat (s : List UInt8) {fr a : Nat} (h : fr ≤ a) : s.take fr ++ (s.take a).drop fr = s.take a := by
  have : s.take fr = (s.take a).take fr := by rw [List.take_take, Nat.min_eq_left h]
  rw [this, List.take_append_drop]
theorem packF_back : ∀ (f : Nat) (s : List UInt8) (l : List (List UInt8 × Nat)) (fr a : Nat), s.length ≤ f + a → fr ≤ a → a ≤ s.length → s.length ≤ 20000 → (∀ p ∈ l, p.2 < a ∧ key4 s p.2 = p.1) → elems (packF f s l fr a []) (s.take fr) s.length = some s := by
  intro f
  induction f with
  | zero =>
    intro s l fr a hf hfa hal hs hl
    simp only [packF, List.nil_append]
    have h1 : (s.take fr).length = fr := by rw [List.length_take]; omega
    have := elems_lit (s.drop fr).length (s.drop fr) [] (s.take fr) s.length (Nat.le_refl _) (by rw [h1, List.length_drop]; omega)
    rw [List.append_nil] at this
    rw [this, List.take_append_drop, elems_nil]
  | succ f ih =>
    intro s l fr a hf hfa hal hs hl
    have h1 : (s.take fr).length = fr := by rw [List.length_take]; omega
    simp only [packF]
    split
    · simp only [List.nil_append]
      have := elems_lit (s.drop fr).length (s.drop fr) [] (s.take fr) s.length (Nat.le_refl _) (by rw [h1, List.length_drop]; omega)
      rw [List.append_nil] at this
      rw [this, List.take_append_drop, elems_nil]
    · rename_i hend
      have hset : ∀ n, a < n → ∀ p ∈ aset l (key4 s a) a, p.2 < n ∧ key4 s p.2 = p.1 := by
        intro n hn p hp
        rcases aset_mem hp with h | h
        · rw [h]; exact ⟨hn, rfl⟩
        · have := hl p h; exact ⟨by omega, this.2⟩
      cases hg : aget l (key4 s a) with
      | none => exact ih s _ fr (a + 1) (by omega) (by omega) (by omega) hs (hset _ (by omega))
      | some k =>
        simp only
        have hk := hl _ (aget_mem hg)
        simp only at hk
        have hge := ext_ge s k a 4
        have hle := ext_le (s := s) (k := k) (a := a) (n := 4) (by omega)
        have htl : (s.take a).length = a := by rw [List.length_take]; omega
        rw [packF_pre, List.nil_append, List.append_assoc]
        rw [elems_lit _ _ _ _ _ (Nat.le_refl _) (by rw [h1, List.length_drop, htl]; omega), take_drop_cat s hfa]
        rw [elems_again _ _ _ _ _ _ (Nat.le_refl _) (by omega) (by rw [htl]; omega) (by omega) (by rw [htl]; exact hle)]
        rw [copyB_same hk.1 (ext s k a 4) hle (fun i hi => by
          by_cases h4 : i < 4
          · exact key4_same hk.2 hk.1 (by omega) i h4
          · exact extF_same _ s k a 4 i (by omega) hi)]
        exact ih s _ _ _ (by omega) (Nat.le_refl _) hle hs (hset _ (by omega))
theorem packR_num (s : List UInt8) : packR s [] 0 0 (num s.length) = num s.length ++ packR s [] 0 0 [] := packF_pre _ _ _ _ _ _
theorem elems_pack {s : List UInt8} (hs : s.length ≤ 20000) : elems ((packR s [] 0 0 (num s.length)).drop (num s.length).length) [] s.length = some s := by
  rw [packR_num, List.drop_left]
  have := packF_back s.length s [] 0 0 (by omega) (Nat.le_refl _) (Nat.zero_le _) hs (by simp)
  exact this

/-! ### How long it is -/
theorem litB_bound : ∀ (k : Nat) (x : List UInt8), x.length ≤ k → (litB x).length ≤ x.length + 2 * (x.length / 256) + 2 ∧ (x.length ≤ 60 → (litB x).length ≤ x.length + 1) := by
  intro k
  induction k with
  | zero =>
    intro x hk
    rw [List.length_eq_zero_iff.1 (Nat.le_zero.1 hk)]
    simp [litB_nil]
  | succ k ih =>
    intro x hk
    by_cases h0 : x.length = 0
    · rw [List.length_eq_zero_iff.1 h0]; simp [litB_nil]
    · have htl : (x.take 256).length = min 256 x.length := List.length_take
      have hdl : (x.drop 256).length = x.length - 256 := List.length_drop
      have hh := (hdr_len ((x.take 256).length - 1)).2
      have hih := ih (x.drop 256) (by omega)
      rw [litB_step (by omega)]
      simp only [List.length_append]
      refine ⟨?_, fun h60 => ?_⟩
      · by_cases hbig : x.length < 256
        · have : x.drop 256 = [] := List.drop_of_length_le (by omega)
          rw [this, litB_nil, List.length_nil]
          omega
        · have := hih.1
          omega
      · have hd : x.drop 256 = [] := List.drop_of_length_le (by omega)
        rw [hd, litB_nil, List.length_nil]
        have : (hdr ((x.take 256).length - 1)).length = 1 := by unfold hdr; rw [if_pos (by omega)]; rfl
        omega
theorem litB_zero {x : List UInt8} (h : x.length = 0) : (litB x).length = 0 := by rw [List.length_eq_zero_iff.1 h]; simp [litB_nil]
theorem againB_less : ∀ (k back many : Nat), many ≤ k → 4 ≤ many → (againB back many).length + 1 ≤ many := by
  intro k
  induction k with
  | zero => intro back many h1 h2; omega
  | succ k ih =>
    intro back many h1 h2
    rw [againB_step back (by omega), List.length_append]
    have he := (elemB_len back (chunk many)).2
    have hc := chunk_pos (many := many) (by omega)
    by_cases h0 : many - chunk many = 0
    · rw [h0, againB_zero, List.length_nil]; omega
    · have h4 : 4 ≤ many - chunk many ∧ 60 ≤ chunk many := by unfold chunk at h0 ⊢; split at h0 <;> split <;> omega
      have := ih back (many - chunk many) (by omega) h4.1
      omega
theorem packF_len : ∀ (f : Nat) (s : List UInt8) (l : List (List UInt8 × Nat)) (fr a : Nat), s.length ≤ f + a → fr ≤ a → a ≤ s.length → (packF f s l fr a []).length ≤ (s.length - fr) + (s.length - fr) / 6 + 2 := by
  intro f
  induction f with
  | zero =>
    intro s l fr a hf hfa hal
    simp only [packF, List.nil_append]
    have := litB_bound _ (s.drop fr) (Nat.le_refl _)
    have hd : (s.drop fr).length = s.length - fr := List.length_drop
    omega
  | succ f ih =>
    intro s l fr a hf hfa hal
    simp only [packF]
    split
    · simp only [List.nil_append]
      have := litB_bound _ (s.drop fr) (Nat.le_refl _)
      have hd : (s.drop fr).length = s.length - fr := List.length_drop
      omega
    · rename_i hend
      cases hg : aget l (key4 s a) with
      | none => exact ih s _ fr (a + 1) (by omega) (by omega) (by omega)
      | some k =>
        simp only
        have hge := ext_ge s k a 4
        have hle := ext_le (s := s) (k := k) (a := a) (n := 4) (by omega)
        have h1 := ih s (aset l (key4 s a) a) (a + ext s k a 4) (a + ext s k a 4) (by omega) (Nat.le_refl _) hle
        have h2 := againB_less _ (a - k) (ext s k a 4) (Nat.le_refl _) hge
        have h3 := litB_bound _ ((s.take a).drop fr) (Nat.le_refl _)
        have h5 : ((s.take a).drop fr).length = a - fr := by rw [List.length_drop, List.length_take]; omega
        have h6 := fun h => litB_zero (x := (s.take a).drop fr) h
        rw [packF_pre, List.nil_append, List.length_append, List.length_append]
        generalize ext s k a 4 = m at *
        generalize (litB ((s.take a).drop fr)).length = L at *
        generalize (againB (a - k) m).length = A at *
        generalize (packF f s (aset l (key4 s a) a) (a + m) (a + m) []).length = R at *
        rw [h5] at h3
        by_cases hz : a - fr ≤ 60
        · have := h3.2 hz
          omega
        · have := h3.1
          omega
theorem pack_len {s : List UInt8} (hs : s.length ≤ 20000) : (packR s [] 0 0 (num s.length)).length ≤ s.length + s.length / 6 + 32 := by
  rw [packR_num, List.length_append]
  have h1 := num_len10 (n := s.length) (by omega)
  have h2 := packF_len s.length s [] 0 0 (by omega) (Nat.le_refl _) (Nat.zero_le _)
  unfold packR
  omega

/-! ### One byte, many times -/
end Go.Proofs.Ytofidfkojmbdoaa.P
