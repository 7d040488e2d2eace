-- slim: written by gen/slim.py from XEG.f.lean.tpl
/- What labels.Get and labels.Compare come to. -/
import Derived.Test.YtgmlkhfjhogdbaaEW
import Derived.Test.YtgmlkhfjhogdbaaLX
namespace Go.Proofs.Ytgmlkhfjhogdbaa
open Go.RowKit P
set_option linter.unusedVariables false
set_option linter.unusedSimpArgs false

/-! ### The order of texts -/
theorem wuE {n : Int} (h1 : 0 ≤ n) (h2 : n < 18446744073709551616) : IntKind.wrap .u64 n = n := by rw [IntKind.wrap_u64]; omega
theorem less_irr : ∀ a : List UInt8, Op.bytesLess a a = false
  | [] => rfl
  | a :: x => by simp [Op.bytesLess, less_irr x]
theorem less_tr : ∀ {a b c : List UInt8}, Op.bytesLess a b = true → Op.bytesLess b c = true → Op.bytesLess a c = true
  | _, [], _, h, _ => by simp [Op.bytesLess] at h
  | _, _ :: _, [], _, h => by simp [Op.bytesLess] at h
  | [], _ :: _, _ :: _, _, _ => rfl
  | a :: x, b :: y, c :: z, h1, h2 => by
    simp only [Op.bytesLess, Bool.or_eq_true, decide_eq_true_eq, Bool.and_eq_true, beq_iff_eq] at h1 h2 ⊢
    rcases h1 with h1 | ⟨rfl, h1⟩
    · rcases h2 with h2 | ⟨rfl, h2⟩
      · exact Or.inl (UInt8.lt_trans h1 h2)
      · exact Or.inl h1
    · rcases h2 with h2 | ⟨rfl, h2⟩
      · exact Or.inl h2
      · exact Or.inr ⟨rfl, less_tr h1 h2⟩
theorem less_eq : ∀ {a b : List UInt8}, Op.bytesLess a b = false → Op.bytesLess b a = false → a = b
  | [], [], _, _ => rfl
  | _ :: _, [], _, h => by simp [Op.bytesLess] at h
  | [], _ :: _, h, _ => by simp [Op.bytesLess] at h
  | a :: x, b :: y, h1, h2 => by
    simp only [Op.bytesLess, Bool.or_eq_false_iff, decide_eq_false_iff_not, Bool.and_eq_false_iff, beq_eq_false_iff_ne] at h1 h2
    have e : a = b := by
      have h3 := h1.1
      have h4 := h2.1
      rw [UInt8.lt_iff_toNat_lt] at h3 h4
      exact UInt8.toNat.inj (by omega)
    subst e
    rw [less_eq (h1.2.resolve_left (by simp)) (h2.2.resolve_left (by simp))]
/-- What is not less, and what is not less than that. -/
theorem nless_tr {a b c : List UInt8} (h1 : Op.bytesLess b a = false) (h2 : Op.bytesLess c b = false) : Op.bytesLess c a = false := by
  cases h : Op.bytesLess c a with
  | false => rfl
  | true =>
    cases h3 : Op.bytesLess a b with
    | true => rw [less_tr h h3] at h2; cases h2
    | false => rw [← less_eq h3 h1, h] at h2; cases h2
theorem adj_tail {a : VLabel} {l : List VLabel} (h : adjB (a :: l) = true) : adjB l = true ∧ ∀ y ∈ l, Op.bytesLess y.Name a.Name = false := by
  induction l generalizing a with
  | nil => exact ⟨rfl, fun y hy => by cases hy⟩
  | cons b l ih =>
    simp only [adjB, Bool.and_eq_true, Bool.not_eq_true'] at h
    refine ⟨h.2, fun y hy => ?_⟩
    rcases List.mem_cons.1 hy with rfl | hy
    · exact h.1
    · exact nless_tr h.1 ((ih h.2).2 y hy)
theorem adj_le {l : List VLabel} (h : adjB l = true) : ∀ {i j : Nat} (hj : j < l.length) (hij : i ≤ j), Op.bytesLess l[j].Name (l[i]'(by omega)).Name = false := by
  induction l with
  | nil => intro i j hj; simp at hj
  | cons a l ih =>
    intro i j hj hij
    have ht := adj_tail h
    cases i with
    | zero =>
      cases j with
      | zero => exact less_irr _
      | succ j => exact ht.2 _ (List.getElem_mem _)
    | succ i =>
      cases j with
      | zero => omega
      | succ j => exact ih ht.1 (by simpa using hj) (by omega)

/-! ### The value of a name -/
def nameVal (s : List UInt8) : List VLabel → List UInt8
  | [] => []
  | z :: r => if z.Name = s then z.Value else nameVal s r
theorem nameVal_skip {s : List UInt8} : ∀ (l : List VLabel) (i : Nat) (hi : i ≤ l.length), (∀ j (hj : j < i), (l[j]'(by omega)).Name ≠ s) → nameVal s l = nameVal s (l.drop i)
  | l, 0, _, _ => by simp
  | [], i + 1, hi, _ => by simp at hi
  | z :: l, i + 1, hi, h => by
    have h0 := h 0 (by omega)
    simp only [List.getElem_cons_zero] at h0
    rw [List.drop_succ_cons, ← nameVal_skip l i (by simpa using hi) fun j hj => by simpa using h (j + 1) (by omega)]
    simp [nameVal, h0]
theorem nameVal_none {s : List UInt8} : ∀ (l : List VLabel), (∀ z ∈ l, z.Name ≠ s) → nameVal s l = []
  | [], _ => rfl
  | z :: l, h => by
    rw [nameVal, if_neg (h z (by simp)), nameVal_none l fun y hy => h y (by simp [hy])]
theorem refValue_loop (N : Nat) (s : List UInt8) : ∀ (r p : List VLabel) (n : Nat), r.length < n → (p ++ r).length < 140737488355328 → ref_ValueOf_L2 N n (p ++ r) s (p.length : Int) = some (nameVal s r)
  | r, p, 0, h, _ => by omega
  | [], p, n + 1, h, hl => by
    unfold ref_ValueOf_L2
    rw [lt_end]; rfl
  | z :: r, p, n + 1, h, hl => by
    have hp : p.length + 1 < 9223372036854775808 := by simp at hl; omega
    have ih := refValue_loop N s r (p ++ [z]) n (by simp only [List.length_cons] at h; omega) (by rw [← cat_next]; exact hl)
    rw [← cat_next] at ih
    unfold ref_ValueOf_L2
    rw [lt_cat, cond_true, idxC_cat, Option.bind_some, Option.bind_some, w64_next p z hp, ih, nameVal]
    by_cases e : z.Name = s <;> simp [e]
theorem refValue_ev (l : List VLabel) (hw : WLab l) (s : List UInt8) : Ev (fun N => ref_ValueOf N l s) (nameVal s l) := ⟨l.length + 1, fun N hN => by
  have := refValue_loop N s l [] N (by omega) (by simpa using hw.1)
  simpa [ref_ValueOf] using this⟩
/-! ### The search -/
def cmpS (a b : List UInt8) : Int := if Op.bytesLess a b then -1 else if a = b then 0 else 1
theorem compare_is (N : Nat) (a b : List UInt8) : cmp_Compare_string_ N a b = some (cmpS a b) := by
  unfold cmp_Compare_string_ cmp_isNaN_string_ cmpS
  simp only [Option.bind_some, decide_true, Bool.not_true, cond_false]
  cases Op.bytesLess a b with
  | true => simp
  | false => by_cases h : a = b <;> simp [h]
theorem find1_is (N : Nat) (z : VLabel) (s : List UInt8) : labels_find_1 N z s = some (cmpS z.Name s) := by
  unfold labels_find_1; rw [compare_is]; rfl
theorem cmpS_neg {a b : List UInt8} : decide (cmpS a b < 0) = Op.bytesLess a b := by
  unfold cmpS
  cases Op.bytesLess a b with
  | true => rfl
  | false => by_cases h : a = b <;> simp [h]
theorem cmpS_zero {a b : List UInt8} : (cmpS a b == 0) = decide (a = b) := by
  unfold cmpS
  cases h : Op.bytesLess a b with
  | true =>
    have : a ≠ b := fun e => by rw [e, less_irr] at h; cases h
    simp [this]
  | false => by_cases h : a = b <;> simp [h]
theorem half {lo hi : Nat} (h : lo + hi < 9223372036854775808) : shrC .u64 (IntKind.wrap .u64 (w64 ((lo : Int) + (hi : Int)))) 1 = some (((lo + hi) / 2 : Nat) : Int) := by
  rw [w64_id (by omega) (by omega), wuE (by omega) (by omega)]
  unfold shrC
  rw [if_pos (by omega)]
  have : min (1 : Int).toNat IntKind.u64.bits = 1 := by decide
  rw [this]
  have e : ((lo : Int) + (hi : Int)).fdiv (2 ^ 1) = (((lo + hi) / 2 : Nat) : Int) := by
    rw [Int.fdiv_eq_ediv_of_nonneg _ (by omega)]; omega
  rw [e]
/-- What the search ends with: the number of names that are less. -/
theorem search_is (N : Nat) (l : List VLabel) (s : List UInt8) (hs : adjB l = true) (hl : l.length < 140737488355328) : ∀ (n lo hi : Nat), lo ≤ hi → hi ≤ l.length → hi - lo < n →
    (∀ j (hj : j < l.length), j < lo → Op.bytesLess l[j].Name s = true) → (∀ j (hj : j < l.length), hi ≤ j → Op.bytesLess l[j].Name s = false) →
    ∃ k, k ≤ l.length ∧ (∀ j (hj : j < l.length), j < k → Op.bytesLess l[j].Name s = true) ∧ (∀ j (hj : j < l.length), k ≤ j → Op.bytesLess l[j].Name s = false) ∧
      slices_BinarySearchFunc_api_Label_api_Label_string__i0_L3 N n l s (l.length : Int) (lo : Int) (hi : Int) = some ((k : Int), if h : k < l.length then decide (l[k].Name = s) else false)
  | 0, lo, hi, _, _, h, _, _ => by omega
  | n + 1, lo, hi, h1, h2, h3, h4, h5 => by
    unfold slices_BinarySearchFunc_api_Label_api_Label_string__i0_L3
    by_cases hlt : lo < hi
    · have e0 : decide ((lo : Int) < (hi : Int)) = true := by simp; omega
      have hm : (lo + hi) / 2 < l.length := by omega
      rw [e0, cond_true, half (by omega), Option.bind_some, w64_id (by omega) (by omega), idxC_get hm, Option.bind_some, find1_is, Option.bind_some, cmpS_neg, w64_id (by omega) (by omega)]
      cases hc : Op.bytesLess (l[(lo + hi) / 2]'hm).Name s with
      | true =>
        rw [cond_true]
        exact search_is N l s hs hl n ((lo + hi) / 2 + 1) hi (by omega) h2 (by omega) (fun j hj hjl => by
          cases hjs : Op.bytesLess l[j].Name s with
          | true => rfl
          | false =>
            have := adj_le hs hm (by omega : j ≤ (lo + hi) / 2)
            rw [nless_tr (a := s) hjs this] at hc; cases hc) h5
      | false =>
        rw [cond_false]
        exact search_is N l s hs hl n lo ((lo + hi) / 2) (by omega) (by omega) (by omega) h4 fun j hj hjl => nless_tr hc (adj_le hs hj hjl)
    · obtain rfl : lo = hi := by omega
      have e0 : decide ((lo : Int) < (lo : Int)) = false := by simp
      rw [e0, cond_false]
      refine ⟨lo, h2, h4, h5, ?_⟩
      by_cases hlo : lo < l.length
      · have e1 : decide ((lo : Int) < (l.length : Int)) = true := by simp; omega
        rw [e1, cond_true, idxC_get hlo, Option.bind_some, find1_is, Option.bind_some, cmpS_zero, dif_pos hlo]
      · have e1 : decide ((lo : Int) < (l.length : Int)) = false := by simp; omega
        rw [e1, cond_false, dif_neg hlo]
theorem value_ev (l : List VLabel) (hw : WLab l) (hs : adjB l = true) (s : List UInt8) : Ev (fun N => labels_Value N l s) (nameVal s l) := ⟨l.length + 1, fun N hN => by
  obtain ⟨k, h1, h2, h3, h4⟩ := search_is N l s hs hw.1 N 0 l.length (by omega) (by omega) (by omega) (fun j hj h => by omega) (fun j hj h => by omega)
  have hk := nameVal_skip (s := s) l k h1 fun j hj e => by
    have := h2 j (by omega) hj
    rw [e, less_irr] at this; cases this
  show labels_Value N l s = _
  unfold labels_Value labels_find slices_BinarySearchFunc_api_Label_api_Label_string__i0
  rw [show (0 : Int) = ((0 : Nat) : Int) from rfl, h4]
  simp only [Option.bind_some]
  by_cases hkl : k < l.length
  · rw [dif_pos hkl, idxC_get hkl]
    simp only [Option.bind_some]
    rw [hk, List.drop_eq_getElem_cons hkl, nameVal]
    by_cases e : l[k].Name = s
    · simp [e]
    · rw [nameVal_none]
      · simp [e]
      · intro z hz ez
        obtain ⟨j, hj, rfl⟩ := List.getElem_of_mem hz
        simp only [List.length_drop] at hj
        simp only [List.getElem_drop] at ez
        have hj2 : k + 1 + j < l.length := by omega
        have h6 := adj_le hs hj2 (by omega : k ≤ k + 1 + j)
        rw [ez] at h6
        exact e (less_eq (h3 k hkl (Nat.le_refl _)) h6)
  · rw [dif_neg hkl, hk, List.drop_eq_nil_of_le (by omega)]; rfl⟩
structure OrdC {α : Type} (c : α → α → Int) : Prop where
  z : ∀ a b, c a b = 0 → a = b
  r : ∀ a, c a a = 0
  t : ∀ a b d, c a b < 0 → c b d < 0 → c a d < 0
end Go.Proofs.Ytgmlkhfjhogdbaa
