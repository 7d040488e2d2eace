/- What labels.Get and labels.Compare come to. -/
import Derived.Test.YtgmlkhfjhogdbaaEW
import Derived.Test.YtgmlkhfjhogdbaaLX
namespace Go.Proofs.Ytgmlkhfjhogdbaa
open Go.RowKit P
set_option linter.unusedVariables false
set_option linter.unusedSimpArgs false

/-! ### The order of texts -/
theorem wuE {n : Int} (h1 : 0 ≤ n) (h2 : n < 18446744073709551616) : IntKind.wrap .u64 n = n := by rw [IntKind.wrap_u64]; omega
theorem less_irr : ∀ a : List UInt8, Op.bytesLess a a = false
  | [] => rfl
  | a :: x => by simp [Op.bytesLess, less_irr x]
theorem less_tr : ∀ {a b c : List UInt8}, Op.bytesLess a b = true → Op.bytesLess b c = true → Op.bytesLess a c = true
  | _, [], _, h, _ => by simp [Op.bytesLess] at h
  | _, _ :: _, [], _, h => by simp [Op.bytesLess] at h
  | [], _ :: _, _ :: _, _, _ => rfl
  | a :: x, b :: y, c :: z, h1, h2 => by
    simp only [Op.bytesLess, Bool.or_eq_true, decide_eq_true_eq, Bool.and_eq_true, beq_iff_eq] at h1 h2 ⊢
    rcases h1 with h1 | ⟨rfl, h1⟩
    · rcases h2 with h2 | ⟨rfl, h2⟩
      · exact Or.inl (UInt8.lt_trans h1 h2)
      · exact Or.inl h1
    · rcases h2 with h2 | ⟨rfl, h2⟩
      · exact Or.inl h2
      · exact Or.inr ⟨rfl, less_tr h1 h2⟩
theorem less_eq : ∀ {a b : List UInt8}, Op.bytesLess a b = false → Op.bytesLess b a = false → a = b
  | [], [], _, _ => rfl
  | _ :: _, [], _, h => by simp [Op.bytesLess] at h
  | [], _ :: _, h, _ => by simp [Op.bytesLess] at h
  | a :: x, b :: y, h1, h2 => by
    simp only [Op.bytesLess, Bool.or_eq_false_iff, decide_eq_false_iff_not, Bool.and_eq_false_iff, beq_eq_false_iff_ne] at h1 h2
    have e : a = b := by
      have h3 := h1.1
      have h4 := h2.1
      rw [UInt8.lt_iff_toNat_lt] at h3 h4
      exact UInt8.toNat.inj (by omega)
    subst e
    rw [less_eq (h1.2.resolve_left (by simp)) (h2.2.resolve_left (by simp))]
/-- What is not less, and what is not less than that. -/
theorem nless_tr {a b c : List UInt8} (h1 : Op.bytesLess b a = false) (h2 : Op.bytesLess c b = false) : Op.bytesLess c a = false := by
  cases h : Op.bytesLess c a with
  | false => rfl
  | true =>
    cases h3 : Op.bytesLess a b with
    | true => rw [less_tr h h3] at h2; cases h2
    | false => rw [← less_eq h3 h1, h] at h2; cases h2
theorem adj_tail {a : VLabel} {l : List VLabel} (h : adjB (a :: l) = true) : adjB l = true ∧ ∀ y ∈ l, Op.bytesLess y.Name a.Name = false := by
  induction l generalizing a with
  | nil => exact ⟨rfl, fun y hy => by cases hy⟩
  | cons b l ih =>
    simp only [adjB, Bool.and_eq_true, Bool.not_eq_true'] at h
    refine ⟨h.2, fun y hy => ?_⟩
    rcases List.mem_cons.1 hy with rfl | hy
    · exact h.1
    · exact nless_tr h.1 ((ih h.2).2 y hy)
theorem adj_le {l : List VLabel} (h : adjB l = true) : ∀ {i j : Nat} (hj : j < l.length) (hij : i ≤ j), Op.bytesLess l[j].Name (l[i]'(by omega)).Name = false := by
  induction l with
  | nil => intro i j hj; simp at hj
  | cons a l ih =>
    intro i j hj hij
    have ht := adj_tail h
    cases i with
    | zero =>
      cases j with
      | zero => exact less_irr _
      | succ j => exact ht.2 _ (List.getElem_mem _)
    | succ i =>
      cases j with
      | zero => omega
      | succ j => exact ih ht.1 (by simpa using hj) (by omega)

/-! ### The value of a name -/
def nameVal (s : List UInt8) : List VLabel → List UInt8
  | [] => []
  | z :: r => if z.Name = s then z.Value else nameVal s r
theorem nameVal_skip {s : List UInt8} : ∀ (l : List VLabel) (i : Nat) (hi : i ≤ l.length), (∀ j (hj : j < i), (l[j]'(by omega)).Name ≠ s) → nameVal s l = nameVal s (l.drop i)
  | l, 0, _, _ => by simp
  | [], i + 1, hi, _ => by simp at hi
  | z :: l, i + 1, hi, h => by
    have h0 := h 0 (by omega)
    simp only [List.getElem_cons_zero] at h0
    rw [List.drop_succ_cons, ← nameVal_skip l i (by simpa using hi) fun j hj => by simpa using h (j + 1) (by omega)]
    simp [nameVal, h0]
theorem nameVal_none {s : List UInt8} : ∀ (l : List VLabel), (∀ z ∈ l, z.Name ≠ s) → nameVal s l = []
  | [], _ => rfl
  | z :: l, h => by
    rw [nameVal, if_neg (h z (by simp)), nameVal_none l fun y hy => h y (by simp [hy])]
theorem refValue_loop (N : Nat) (s : List UInt8) : ∀ (r p : List VLabel) (n : Nat), r.length < n → (p ++ r).length < 140737488355328 → ref_ValueOf_L2 N n (p ++ r) s (p.length : Int) = some (nameVal s r)
  | r, p, 0, h, _ => by omega
  | [], p, n + 1, h, hl => by
    unfold ref_ValueOf_L2
    rw [lt_end]; rfl
  | z :: r, p, n + 1, h, hl => by
    have hp : p.length + 1 < 9223372036854775808 := by simp at hl; omega
    have ih := refValue_loop N s r (p ++ [z]) n (by simp only [List.length_cons] at h; omega) (by rw [← cat_next]; exact hl)
    rw [← cat_next] at ih
    unfold ref_ValueOf_L2
    rw [lt_cat, cond_true, idxC_cat, Option.bind_some, Option.bind_some, w64_next p z hp, ih, nameVal]
    by_cases e : z.Name = s <;> simp [e]
theorem refValue_ev (l : List VLabel) (hw : WLab l) (s : List UInt8) : Ev (fun N => ref_ValueOf N l s) (nameVal s l) := ⟨l.length + 1, fun N hN => by
  have := refValue_loop N s l [] N (by omega) (by simpa using hw.1)
  simpa [ref_ValueOf] using this⟩
/-! ### The search -/
def cmpS (a b : List UInt8) : Int := if Op.bytesLess a b then -1 else if a = b then 0 else 1
theorem compare_is (N : Nat) (a b : List UInt8) : cmp_Compare_string_ N a b = some (cmpS a b) := by
  unfold cmp_Compare_string_ cmp_isNaN_string_ cmpS
  simp only [Option.bind_some, decide_true, Bool.not_true, cond_false]
  cases Op.bytesLess a b with
  | true => simp
  | false => by_cases h : a = b <;> simp [h]
theorem find1_is (N : Nat) (z : VLabel) (s : List UInt8) : labels_find_1 N z s = some (cmpS z.Name s) := by
  unfold labels_find_1; rw [compare_is]; rfl
theorem cmpS_neg {a b : List UInt8} : decide (cmpS a b < 0) = Op.bytesLess a b := by
  unfold cmpS
  cases Op.bytesLess a b with
  | true => rfl
  | false => by_cases h : a = b <;> simp [h]
theorem cmpS_zero {a b : List UInt8} : (cmpS a b == 0) = decide (a = b) := by
  unfold cmpS
  cases h : Op.bytesLess a b with
  | true =>
    have : a ≠ b := fun e => by rw [e, less_irr] at h; cases h
    simp [this]
  | false => by_cases h : a = b <;> simp [h]
theorem half {lo hi : Nat} (h : lo + hi < 9223372036854775808) : shrC .u64 (IntKind.wrap .u64 (w64 ((lo : Int) + (hi : Int)))) 1 = some (((lo + hi) / 2 : Nat) : Int) := by
  rw [w64_id (by omega) (by omega), wuE (by omega) (by omega)]
  unfold shrC
  rw [if_pos (by omega)]
  have : min (1 : Int).toNat IntKind.u64.bits = 1 := by decide
  rw [this]
  have e : ((lo : Int) + (hi : Int)).fdiv (2 ^ 1) = (((lo + hi) / 2 : Nat) : Int) := by
    rw [Int.fdiv_eq_ediv_of_nonneg _ (by omega)]; omega
  rw [e]
/-- What the search ends with: the number of names that are less. -/
theorem search_is (N : Nat) (l : List VLabel) (s : List UInt8) (hs : adjB l = true) (hl : l.length < 140737488355328) : ∀ (n lo hi : Nat), lo ≤ hi → hi ≤ l.length → hi - lo < n →
    (∀ j (hj : j < l.length), j < lo → Op.bytesLess l[j].Name s = true) → (∀ j (hj : j < l.length), hi ≤ j → Op.bytesLess l[j].Name s = false) →
    ∃ k, k ≤ l.length ∧ (∀ j (hj : j < l.length), j < k → Op.bytesLess l[j].Name s = true) ∧ (∀ j (hj : j < l.length), k ≤ j → Op.bytesLess l[j].Name s = false) ∧
      slices_BinarySearchFunc_api_Label_api_Label_string__i0_L3 N n l s (l.length : Int) (lo : Int) (hi : Int) = some ((k : Int), if h : k < l.length then decide (l[k].Name = s) else false)
  | 0, lo, hi, _, _, h, _, _ => by omega
  | n + 1, lo, hi, h1, h2, h3, h4, h5 => by
    unfold slices_BinarySearchFunc_api_Label_api_Label_string__i0_L3
    by_cases hlt : lo < hi
    · have e0 : decide ((lo : Int) < (hi : Int)) = true := by simp; omega
      have hm : (lo + hi) / 2 < l.length := by omega
      rw [e0, cond_true, half (by omega), Option.bind_some, w64_id (by omega) (by omega), idxC_get hm, Option.bind_some, find1_is, Option.bind_some, cmpS_neg, w64_id (by omega) (by omega)]
      cases hc : Op.bytesLess (l[(lo + hi) / 2]'hm).Name s with
      | true =>
        rw [cond_true]
        exact search_is N l s hs hl n ((lo + hi) / 2 + 1) hi (by omega) h2 (by omega) (fun j hj hjl => by
          cases hjs : Op.bytesLess l[j].Name s with
          | true => rfl
          | false =>
            have := adj_le hs hm (by omega : j ≤ (lo + hi) / 2)
            rw [nless_tr (a := s) hjs this] at hc; cases hc) h5
      | false =>
        rw [cond_false]
        exact search_is N l s hs hl n lo ((lo + hi) / 2) (by omega) (by omega) (by omega) h4 fun j hj hjl => nless_tr hc (adj_le hs hj hjl)
    · obtain rfl : lo = hi := by omega
      have e0 : decide ((lo : Int) < (lo : Int)) = false := by simp
      rw [e0, cond_false]
      refine ⟨lo, h2, h4, h5, ?_⟩
      by_cases hlo : lo < l.length
      · have e1 : decide ((lo : Int) < (l.length : Int)) = true := by simp; omega
        rw [e1, cond_true, idxC_get hlo, Option.bind_some, find1_is, Option.bind_some, cmpS_zero, dif_pos hlo]
      · have e1 : decide ((lo : Int) < (l.length : Int)) = false := by simp; omega
        rw [e1, cond_false, dif_neg hlo]
theorem value_ev (l : List VLabel) (hw : WLab l) (hs : adjB l = true) (s : List UInt8) : Ev (fun N => labels_Value N l s) (nameVal s l) := ⟨l.length + 1, fun N hN => by
  obtain ⟨k, h1, h2, h3, h4⟩ := search_is N l s hs hw.1 N 0 l.length (by omega) (by omega) (by omega) (fun j hj h => by omega) (fun j hj h => by omega)
  have hk := nameVal_skip (s := s) l k h1 fun j hj e => by
    have := h2 j (by omega) hj
    rw [e, less_irr] at this; cases this
  show labels_Value N l s = _
  unfold labels_Value labels_find slices_BinarySearchFunc_api_Label_api_Label_string__i0
  rw [show (0 : Int) = ((0 : Nat) : Int) from rfl, h4]
  simp only [Option.bind_some]
  by_cases hkl : k < l.length
  · rw [dif_pos hkl, idxC_get hkl]
    simp only [Option.bind_some]
    rw [hk, List.drop_eq_getElem_cons hkl, nameVal]
    by_cases e : l[k].Name = s
    · simp [e]
    · rw [nameVal_none]
      · simp [e]
      · intro z hz ez
        obtain ⟨j, hj, rfl⟩ := List.getElem_of_mem hz
        simp only [List.length_drop] at hj
        simp only [List.getElem_drop] at ez
        have hj2 : k + 1 + j < l.length := by omega
        have h6 := adj_le hs hj2 (by omega : k ≤ k + 1 + j)
        rw [ez] at h6
        exact e (less_eq (h3 k hkl (Nat.le_refl _)) h6)
  · rw [dif_neg hkl, hk, List.drop_eq_nil_of_le (by omega)]; rfl⟩
structure OrdC {α : Type} (c : α → α → Int) : Prop where
  z : ∀ a b, c a b = 0 → a = b
  r : ∀ a, c a a = 0
  t : ∀ a b d, c a b < 0 → c b d < 0 → c a d < 0
theorem ordS : OrdC cmpS where
  z a b h := by
    have := @cmpS_zero a b
    rw [h] at this
    simpa using this.symm
  r a := by
    have := @cmpS_zero a a
    simpa using this
  t a b d h1 h2 := by
    have e1 := @cmpS_neg a b
    have e2 := @cmpS_neg b d
    have e3 := @cmpS_neg a d
    rw [decide_eq_true h1] at e1
    rw [decide_eq_true h2] at e2
    rw [less_tr e1.symm e2.symm] at e3
    exact of_decide_eq_true e3
def cmpL (a b : VLabel) : Int := if cmpS a.Name b.Name = 0 then cmpS a.Value b.Value else cmpS a.Name b.Name
theorem ordL : OrdC cmpL where
  z a b h := by
    unfold cmpL at h
    split at h
    · rename_i h1
      have e1 := ordS.z _ _ h1
      have e2 := ordS.z _ _ h
      cases a; cases b; simp_all
    · contradiction
  r a := by unfold cmpL; rw [if_pos (ordS.r _), ordS.r]
  t a b d h1 h2 := by
    unfold cmpL at h1 h2 ⊢
    split at h1
    · rename_i k1
      rw [ordS.z _ _ k1]
      split at h2
      · rename_i k2
        rw [if_pos k2]; exact ordS.t _ _ _ h1 h2
      · rename_i k2
        rw [if_neg k2]; exact h2
    · rename_i k1
      split at h2
      · rename_i k2
        rw [← ordS.z _ _ k2, if_neg k1]; exact h1
      · have h3 := ordS.t _ _ _ h1 h2
        rw [if_neg (by omega)]; exact h3
def cmpLs : List VLabel → List VLabel → Int
  | [], [] => 0
  | [], _ :: _ => -1
  | _ :: _, [] => 1
  | a :: x, b :: y => if cmpL a b = 0 then cmpLs x y else cmpL a b
theorem ordLs : OrdC cmpLs where
  z := by
    intro a
    induction a with
    | nil =>
      intro b h
      cases b with
      | nil => rfl
      | cons => simp [cmpLs] at h
    | cons a x ih =>
      intro b h
      cases b with
      | nil => simp [cmpLs] at h
      | cons b y =>
        unfold cmpLs at h
        split at h
        · rename_i h1
          rw [ordL.z _ _ h1, ih _ h]
        · contradiction
  r a := by
    induction a with
    | nil => rfl
    | cons a x ih => unfold cmpLs; rw [if_pos (ordL.r _), ih]
  t := by
    intro a
    induction a with
    | nil =>
      intro b d h1 h2
      cases d with
      | nil =>
        cases b with
        | nil => simp [cmpLs] at h1
        | cons => simp [cmpLs] at h2
      | cons => simp [cmpLs]
    | cons a x ih =>
      intro b d h1 h2
      cases b with
      | nil => simp [cmpLs] at h1
      | cons b y =>
        cases d with
        | nil => simp [cmpLs] at h2
        | cons d w =>
          unfold cmpLs at h1 h2 ⊢
          split at h1
          · rename_i k1
            rw [ordL.z _ _ k1]
            split at h2
            · rename_i k2
              rw [if_pos k2]; exact ih _ _ h1 h2
            · rename_i k2
              rw [if_neg k2]; exact h2
          · rename_i k1
            split at h2
            · rename_i k2
              rw [← ordL.z _ _ k2, if_neg k1]; exact h1
            · have h3 := ordL.t _ _ _ h1 h2
              rw [if_neg (by omega)]; exact h3
theorem order1_is (N : Nat) (hN : 3 ≤ N) (a b : VLabel) : labels_Order_1 N a b = some (cmpL a b) := by
  unfold labels_Order_1
  rw [compare_is, Option.bind_some, compare_is, Option.bind_some]
  unfold cmp_Or_int_ cmpL
  obtain ⟨m, rfl⟩ : ∃ m, N = m + 3 := ⟨N - 3, by omega⟩
  generalize cmpS a.Name b.Name = u
  generalize cmpS a.Value b.Value = v
  have e : ∀ K, cmp_Or_int__L3 K (m + 3) 0 [u, v] (([u, v] : List Int).length : Int) 0 = some (if u = 0 then v else u) := fun K => by
    rw [cmp_Or_int__L3]
    have e0 : decide ((0 : Int) < ((2 : Nat) : Int)) = true := rfl
    have e1 : idxC [u, v] 0 = some u := rfl
    have e2 : idxC [u, v] 1 = some v := rfl
    rw [show ([u, v] : List Int).length = 2 from rfl, e0, cond_true, e1, Option.bind_some]
    by_cases hu : u = 0
    · have : (u != 0) = false := by simpa using hu
      rw [this, cond_false, if_pos hu, w64_id (by omega) (by omega), cmp_Or_int__L3]
      have e3 : decide ((0 : Int) + 1 < ((2 : Nat) : Int)) = true := rfl
      rw [e3, cond_true, show ((0 : Int) + 1) = 1 from rfl, e2, Option.bind_some]
      by_cases hv : v = 0
      · have : (v != 0) = false := by simpa using hv
        rw [this, cond_false, w64_id (by omega) (by omega), cmp_Or_int__L3]
        have e4 : decide ((1 : Int) + 1 < ((2 : Nat) : Int)) = false := rfl
        rw [e4, cond_false, hv]
      · have : (v != 0) = true := by simpa using hv
        rw [this, cond_true]
    · have : (u != 0) = true := by simpa using hu
      rw [this, cond_true, if_neg hu]
  rw [e, Option.bind_some]
theorem compareF_loop (N : Nat) (hN : 3 ≤ N) : ∀ (x p y q : List VLabel) (n : Nat), p.length = q.length → x.length < n → (p ++ x).length < 140737488355328 → (q ++ y).length < 140737488355328 → slices_CompareFunc_api_Label_api_Label_api_Label_api_Label__i0_L2 N n (p ++ x) (q ++ y) (p ++ x) ((p ++ x).length : Int) (p.length : Int) = some (cmpLs x y)
  | x, p, y, q, 0, _, h, _, _ => by omega
  | [], p, y, q, n + 1, hpq, h, hl, hl2 => by
    unfold slices_CompareFunc_api_Label_api_Label_api_Label_api_Label__i0_L2
    rw [lt_end, cond_false]
    cases y with
    | nil =>
      have : decide (((p ++ []).length : Int) < ((q ++ ([] : List VLabel)).length : Int)) = false := by simp [hpq]
      rw [this]; rfl
    | cons b y =>
      have : decide (((p ++ ([] : List VLabel)).length : Int) < ((q ++ b :: y).length : Int)) = true := by simp [hpq]; omega
      rw [this]; rfl
  | a :: x, p, y, q, n + 1, hpq, h, hl, hl2 => by
    have hp : p.length + 1 < 9223372036854775808 := by simp at hl; omega
    unfold slices_CompareFunc_api_Label_api_Label_api_Label_api_Label__i0_L2
    rw [lt_cat, cond_true, idxC_cat, Option.bind_some]
    cases y with
    | nil =>
      have : decide ((p.length : Int) ≥ ((q ++ ([] : List VLabel)).length : Int)) = true := by simp [hpq]
      rw [this]; rfl
    | cons b y =>
      have e0 : decide ((p.length : Int) ≥ ((q ++ b :: y).length : Int)) = false := by simp [hpq]; omega
      have ih := compareF_loop N hN x (p ++ [a]) y (q ++ [b]) n (by simp [hpq]) (by simp only [List.length_cons] at h; omega) (by rw [← cat_next]; exact hl) (by rw [← cat_next]; exact hl2)
      rw [← cat_next, ← cat_next] at ih
      have e1 : idxC (q ++ b :: y) (p.length : Int) = some b := by rw [hpq, idxC_cat]
      rw [e0, cond_false, e1, Option.bind_some, order1_is N hN, Option.bind_some, w64_next p a hp, ih]
      rw [show cmpLs (a :: x) (b :: y) = if cmpL a b = 0 then cmpLs x y else cmpL a b from rfl]
      by_cases hc : cmpL a b = 0
      · have : (cmpL a b != 0) = false := by simpa using hc
        rw [this, cond_false, if_pos hc]
      · have : (cmpL a b != 0) = true := by simpa using hc
        rw [this, cond_true, if_neg hc]
theorem order_ev (a b : List VLabel) (ha : WLab a) (hb : WLab b) : Ev (fun N => labels_Order N a b) (cmpLs a b) := ⟨a.length + 4, fun N hN => by
  have := compareF_loop N (by omega) a [] b [] N rfl (by omega) (by simpa using ha.1) (by simpa using hb.1)
  show labels_Order N a b = _
  unfold labels_Order slices_CompareFunc_api_Label_api_Label_api_Label_api_Label__i0
  simp only [List.nil_append, List.length_nil] at this
  rw [show (0 : Int) = ((0 : Nat) : Int) from rfl, this]; rfl⟩
theorem check2_is (N : Nat) (a b : List VLabel) (e f : Int) (h1 : labels_Check N a = some e) (h2 : labels_Check N b = some f) (hN : 3 ≤ N) : labels_check N [a, b] = some (if e = 0 then f else e) := by
  unfold labels_check
  have key : ∀ m, labels_check_L2 N (m + 3) [a, b] (([a, b].length : Nat) : Int) 0 = some (if e = 0 then f else e) := fun m => by
    rw [labels_check_L2]
    have e0 : decide ((0 : Int) < (([a, b].length : Nat) : Int)) = true := rfl
    have e1 : idxC [a, b] 0 = some a := rfl
    have e2 : idxC [a, b] 1 = some b := rfl
    rw [e0, cond_true, e1, Option.bind_some, h1, Option.bind_some]
    by_cases he : e = 0
    · have : (e != 0) = false := by simpa using he
      rw [this, cond_false, if_pos he, w64_id (by omega) (by omega), labels_check_L2]
      have e3 : decide ((0 : Int) + 1 < (([a, b].length : Nat) : Int)) = true := rfl
      rw [e3, cond_true, show ((0 : Int) + 1) = 1 from rfl, e2, Option.bind_some, h2, Option.bind_some]
      by_cases hf : f = 0
      · have : (f != 0) = false := by simpa using hf
        rw [this, cond_false, w64_id (by omega) (by omega), labels_check_L2]
        have e4 : decide ((1 : Int) + 1 < (([a, b].length : Nat) : Int)) = false := rfl
        rw [e4, cond_false, hf]
      · have : (f != 0) = true := by simpa using hf
        rw [this, cond_true]
    · have : (e != 0) = true := by simpa using he
      rw [this, cond_true, if_neg he]
  have := key (N - 3)
  rwa [show N - 3 + 3 = N from by omega] at this
theorem compare_ev (a b : List VLabel) (ha : WLab a) (hb : WLab b) : Ev (fun N => labels_Compare N a b) (if chkL a = 0 then (if chkL b = 0 then (cmpLs a b, 0) else (0, chkL b)) else (0, chkL a)) := by
  obtain ⟨N1, h1⟩ := check_ev a ha
  obtain ⟨N2, h2⟩ := check_ev b hb
  obtain ⟨N3, h3⟩ := order_ev a b ha hb
  refine ⟨max (max N1 N2) (max N3 3), fun N hN => ?_⟩
  have h1 := h1 N (by omega)
  have h2 := h2 N (by omega)
  have h3 := h3 N (by omega)
  simp only at h1 h2 h3
  show labels_Compare N a b = _
  unfold labels_Compare
  rw [check2_is N a b _ _ h1 h2 (by omega), Option.bind_some, h3]
  by_cases c1 : chkL a = 0
  · rw [if_pos c1, if_pos c1]
    by_cases c2 : chkL b = 0
    · rw [if_pos c2, c2]; rfl
    · have : (chkL b != 0) = true := by simpa using c2
      rw [this, if_neg c2]; rfl
  · have : (chkL a != 0) = true := by simpa using c1
    rw [if_neg c1, if_neg c1, this]; rfl
end Go.Proofs.Ytgmlkhfjhogdbaa
