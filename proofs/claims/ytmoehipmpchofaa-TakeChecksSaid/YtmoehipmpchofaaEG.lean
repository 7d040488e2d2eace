/- What labels.Order and the reference's Order come to. -/
import Derived.Test.YtmoehipmpchofaaEW
namespace Go.Proofs.Ytmoehipmpchofaa
open Go.RowKit P
set_option linter.unusedVariables false
set_option linter.unusedSimpArgs false
theorem wuE {n : Int} (h1 : 0 ≤ n) (h2 : n < 18446744073709551616) : IntKind.wrap .u64 n = n := by rw [IntKind.wrap_u64]; omega
theorem less_irr : ∀ a : List UInt8, Op.bytesLess a a = false
  | [] => rfl
  | a :: x => by simp [Op.bytesLess, less_irr x]
theorem less_tr : ∀ {a b c : List UInt8}, Op.bytesLess a b = true → Op.bytesLess b c = true → Op.bytesLess a c = true
  | _, [], _, h, _ => by simp [Op.bytesLess] at h
  | _, _ :: _, [], _, h => by simp [Op.bytesLess] at h
  | [], _ :: _, _ :: _, _, _ => rfl
  | a :: x, b :: y, c :: z, h1, h2 => by
    simp only [Op.bytesLess, Bool.or_eq_true, decide_eq_true_eq, Bool.and_eq_true, beq_iff_eq] at h1 h2 ⊢
    rcases h1 with h1 | ⟨rfl, h1⟩
    · rcases h2 with h2 | ⟨rfl, h2⟩
      · exact Or.inl (UInt8.lt_trans h1 h2)
      · exact Or.inl h1
    · rcases h2 with h2 | ⟨rfl, h2⟩
      · exact Or.inl h2
      · exact Or.inr ⟨rfl, less_tr h1 h2⟩
theorem less_eq : ∀ {a b : List UInt8}, Op.bytesLess a b = false → Op.bytesLess b a = false → a = b
  | [], [], _, _ => rfl
  | _ :: _, [], _, h => by simp [Op.bytesLess] at h
  | [], _ :: _, h, _ => by simp [Op.bytesLess] at h
  | a :: x, b :: y, h1, h2 => by
    simp only [Op.bytesLess, Bool.or_eq_false_iff, decide_eq_false_iff_not, Bool.and_eq_false_iff, beq_eq_false_iff_ne] at h1 h2
    have e : a = b := by
      have h3 := h1.1
      have h4 := h2.1
      rw [UInt8.lt_iff_toNat_lt] at h3 h4
      exact UInt8.toNat.inj (by omega)
    subst e
    rw [less_eq (h1.2.resolve_left (by simp)) (h2.2.resolve_left (by simp))]
def cmpS (a b : List UInt8) : Int := if Op.bytesLess a b then -1 else if a = b then 0 else 1
theorem compare_is (N : Nat) (a b : List UInt8) : cmp_Compare_string_ N a b = some (cmpS a b) := by
  unfold cmp_Compare_string_ cmp_isNaN_string_ cmpS
  simp only [Option.bind_some, decide_true, Bool.not_true, cond_false]
  cases Op.bytesLess a b with
  | true => simp
  | false => by_cases h : a = b <;> simp [h]
theorem cmpS_neg {a b : List UInt8} : decide (cmpS a b < 0) = Op.bytesLess a b := by
  unfold cmpS
  cases Op.bytesLess a b with
  | true => rfl
  | false => by_cases h : a = b <;> simp [h]
theorem cmpS_zero {a b : List UInt8} : (cmpS a b == 0) = decide (a = b) := by
  unfold cmpS
  cases h : Op.bytesLess a b with
  | true =>
    have : a ≠ b := fun e => by rw [e, less_irr] at h; cases h
    simp [this]
  | false => by_cases h : a = b <;> simp [h]
theorem half {lo hi : Nat} (h : lo + hi < 9223372036854775808) : shrC .u64 (IntKind.wrap .u64 (w64 ((lo : Int) + (hi : Int)))) 1 = some (((lo + hi) / 2 : Nat) : Int) := by
  rw [w64_id (by omega) (by omega), wuE (by omega) (by omega)]
  unfold shrC
  rw [if_pos (by omega)]
  have : min (1 : Int).toNat IntKind.u64.bits = 1 := by decide
  rw [this]
  have e : ((lo : Int) + (hi : Int)).fdiv (2 ^ 1) = (((lo + hi) / 2 : Nat) : Int) := by
    rw [Int.fdiv_eq_ediv_of_nonneg _ (by omega)]; omega
  rw [e]
structure OrdC {α : Type} (c : α → α → Int) : Prop where
  z : ∀ a b, c a b = 0 → a = b
  r : ∀ a, c a a = 0
  t : ∀ a b d, c a b < 0 → c b d < 0 → c a d < 0
theorem ordS : OrdC cmpS where
  z a b h := by
    have := @cmpS_zero a b
    rw [h] at this
    simpa using this.symm
  r a := by
    have := @cmpS_zero a a
    simpa using this
  t a b d h1 h2 := by
    have e1 := @cmpS_neg a b
    have e2 := @cmpS_neg b d
    have e3 := @cmpS_neg a d
    rw [decide_eq_true h1] at e1
    rw [decide_eq_true h2] at e2
    rw [less_tr e1.symm e2.symm] at e3
    exact of_decide_eq_true e3
def cmpL (a b : VLabel) : Int := if cmpS a.Name b.Name = 0 then cmpS a.Value b.Value else cmpS a.Name b.Name
theorem ordL : OrdC cmpL where
  z a b h := by
    unfold cmpL at h
    split at h
    · rename_i h1
      have e1 := ordS.z _ _ h1
      have e2 := ordS.z _ _ h
      cases a; cases b; simp_all
    · contradiction
  r a := by unfold cmpL; rw [if_pos (ordS.r _), ordS.r]
  t a b d h1 h2 := by
    unfold cmpL at h1 h2 ⊢
    split at h1
    · rename_i k1
      rw [ordS.z _ _ k1]
      split at h2
      · rename_i k2
        rw [if_pos k2]; exact ordS.t _ _ _ h1 h2
      · rename_i k2
        rw [if_neg k2]; exact h2
    · rename_i k1
      split at h2
      · rename_i k2
        rw [← ordS.z _ _ k2, if_neg k1]; exact h1
      · have h3 := ordS.t _ _ _ h1 h2
        rw [if_neg (by omega)]; exact h3
def cmpLs : List VLabel → List VLabel → Int
  | [], [] => 0
  | [], _ :: _ => -1
  | _ :: _, [] => 1
  | a :: x, b :: y => if cmpL a b = 0 then cmpLs x y else cmpL a b
theorem ordLs : OrdC cmpLs where
  z := by
    intro a
    induction a with
    | nil =>
      intro b h
      cases b with
      | nil => rfl
      | cons => simp [cmpLs] at h
    | cons a x ih =>
      intro b h
      cases b with
      | nil => simp [cmpLs] at h
      | cons b y =>
        unfold cmpLs at h
        split at h
        · rename_i h1
          rw [ordL.z _ _ h1, ih _ h]
        · contradiction
  r a := by
    induction a with
    | nil => rfl
    | cons a x ih => unfold cmpLs; rw [if_pos (ordL.r _), ih]
  t := by
    intro a
    induction a with
    | nil =>
      intro b d h1 h2
      cases d with
      | nil =>
        cases b with
        | nil => simp [cmpLs] at h1
        | cons => simp [cmpLs] at h2
      | cons => simp [cmpLs]
    | cons a x ih =>
      intro b d h1 h2
      cases b with
      | nil => simp [cmpLs] at h1
      | cons b y =>
        cases d with
        | nil => simp [cmpLs] at h2
        | cons d w =>
          unfold cmpLs at h1 h2 ⊢
          split at h1
          · rename_i k1
            rw [ordL.z _ _ k1]
            split at h2
            · rename_i k2
              rw [if_pos k2]; exact ih _ _ h1 h2
            · rename_i k2
              rw [if_neg k2]; exact h2
          · rename_i k1
            split at h2
            · rename_i k2
              rw [← ordL.z _ _ k2, if_neg k1]; exact h1
            · have h3 := ordL.t _ _ _ h1 h2
              rw [if_neg (by omega)]; exact h3
theorem order1_is (N : Nat) (hN : 3 ≤ N) (a b : VLabel) : labels_Order_1 N a b = some (cmpL a b) := by
  unfold labels_Order_1
  rw [compare_is, Option.bind_some, compare_is, Option.bind_some]
  unfold cmp_Or_int_ cmpL
  obtain ⟨m, rfl⟩ : ∃ m, N = m + 3 := ⟨N - 3, by omega⟩
  generalize cmpS a.Name b.Name = u
  generalize cmpS a.Value b.Value = v
  have e : ∀ K, cmp_Or_int__L3 K (m + 3) 0 [u, v] (([u, v] : List Int).length : Int) 0 = some (if u = 0 then v else u) := fun K => by
    rw [cmp_Or_int__L3]
    have e0 : decide ((0 : Int) < ((2 : Nat) : Int)) = true := rfl
    have e1 : idxC [u, v] 0 = some u := rfl
    have e2 : idxC [u, v] 1 = some v := rfl
    rw [show ([u, v] : List Int).length = 2 from rfl, e0, cond_true, e1, Option.bind_some]
    by_cases hu : u = 0
    · have : (u != 0) = false := by simpa using hu
      rw [this, cond_false, if_pos hu, w64_id (by omega) (by omega), cmp_Or_int__L3]
      have e3 : decide ((0 : Int) + 1 < ((2 : Nat) : Int)) = true := rfl
      rw [e3, cond_true, show ((0 : Int) + 1) = 1 from rfl, e2, Option.bind_some]
      by_cases hv : v = 0
      · have : (v != 0) = false := by simpa using hv
        rw [this, cond_false, w64_id (by omega) (by omega), cmp_Or_int__L3]
        have e4 : decide ((1 : Int) + 1 < ((2 : Nat) : Int)) = false := rfl
        rw [e4, cond_false, hv]
      · have : (v != 0) = true := by simpa using hv
        rw [this, cond_true]
    · have : (u != 0) = true := by simpa using hu
      rw [this, cond_true, if_neg hu]
  rw [e, Option.bind_some]
theorem compareF_loop (N : Nat) (hN : 3 ≤ N) : ∀ (x p y q : List VLabel) (n : Nat), p.length = q.length → x.length < n → (p ++ x).length < 140737488355328 → (q ++ y).length < 140737488355328 → slices_CompareFunc_api_Label_api_Label_api_Label_api_Label__i0_L2 N n (p ++ x) (q ++ y) (p ++ x) ((p ++ x).length : Int) (p.length : Int) = some (cmpLs x y)
  | x, p, y, q, 0, _, h, _, _ => by omega
  | [], p, y, q, n + 1, hpq, h, hl, hl2 => by
    unfold slices_CompareFunc_api_Label_api_Label_api_Label_api_Label__i0_L2
    rw [lt_end, cond_false]
    cases y with
    | nil =>
      have : decide (((p ++ []).length : Int) < ((q ++ ([] : List VLabel)).length : Int)) = false := by simp [hpq]
      rw [this]; rfl
    | cons b y =>
      have : decide (((p ++ ([] : List VLabel)).length : Int) < ((q ++ b :: y).length : Int)) = true := by simp [hpq]; omega
      rw [this]; rfl
  | a :: x, p, y, q, n + 1, hpq, h, hl, hl2 => by
    have hp : p.length + 1 < 9223372036854775808 := by simp at hl; omega
    unfold slices_CompareFunc_api_Label_api_Label_api_Label_api_Label__i0_L2
    rw [lt_cat, cond_true, idxC_cat, Option.bind_some]
    cases y with
    | nil =>
      have : decide ((p.length : Int) ≥ ((q ++ ([] : List VLabel)).length : Int)) = true := by simp [hpq]
      rw [this]; rfl
    | cons b y =>
      have e0 : decide ((p.length : Int) ≥ ((q ++ b :: y).length : Int)) = false := by simp [hpq]; omega
      have ih := compareF_loop N hN x (p ++ [a]) y (q ++ [b]) n (by simp [hpq]) (by simp only [List.length_cons] at h; omega) (by rw [← cat_next]; exact hl) (by rw [← cat_next]; exact hl2)
      rw [← cat_next, ← cat_next] at ih
      have e1 : idxC (q ++ b :: y) (p.length : Int) = some b := by rw [hpq, idxC_cat]
      rw [e0, cond_false, e1, Option.bind_some, order1_is N hN, Option.bind_some, w64_next p a hp, ih]
      rw [show cmpLs (a :: x) (b :: y) = if cmpL a b = 0 then cmpLs x y else cmpL a b from rfl]
      by_cases hc : cmpL a b = 0
      · have : (cmpL a b != 0) = false := by simpa using hc
        rw [this, cond_false, if_pos hc]
      · have : (cmpL a b != 0) = true := by simpa using hc
        rw [this, cond_true, if_neg hc]
theorem order_ev (a b : List VLabel) (ha : WLab a) (hb : WLab b) : Ev (fun N => labels_Order N a b) (cmpLs a b) := ⟨a.length + 4, fun N hN => by
  have := compareF_loop N (by omega) a [] b [] N rfl (by omega) (by simpa using ha.1) (by simpa using hb.1)
  show labels_Order N a b = _
  unfold labels_Order slices_CompareFunc_api_Label_api_Label_api_Label_api_Label__i0
  simp only [List.nil_append, List.length_nil] at this
  rw [show (0 : Int) = ((0 : Nat) : Int) from rfl, this]; rfl⟩
theorem cmpS_eq {a b : List UInt8} (h : a = b) : cmpS a b = 0 := by
  subst h; unfold cmpS; rw [less_irr]; simp
theorem r7_is (N n : Nat) (k : List VLabel → List VLabel → Int → Option Int) (a b : List VLabel) (i : Int) (u v : List UInt8) : ref_Order_R7 N k n a b i u v = if cmpS u v = 0 then k a b (w64 (i + 1)) else some (cmpS u v) := by
  unfold ref_Order_R7 cmpS
  cases Op.bytesLess u v with
  | true => simp
  | false => by_cases h : u = v <;> simp [h]
theorem refOrder_loop (N : Nat) : ∀ (x p y q : List VLabel) (n : Nat), p.length = q.length → x.length < n → (p ++ x).length < 140737488355328 → (q ++ y).length < 140737488355328 → ref_Order_L2 N n (p ++ x) (q ++ y) (p.length : Int) = some (cmpLs x y)
  | x, p, y, q, 0, _, h, _, _ => by omega
  | [], p, y, q, n + 1, hpq, h, hl, hl2 => by
    unfold ref_Order_L2 ref_Order_R11
    rw [lt_end, cond_false]
    cases y with
    | nil =>
      have e1 : decide (((p ++ []).length : Int) < ((q ++ ([] : List VLabel)).length : Int)) = false := by simp [hpq]
      have e2 : decide (((p ++ []).length : Int) > ((q ++ ([] : List VLabel)).length : Int)) = false := by simp [hpq]
      rw [e1, e2]; rfl
    | cons b y =>
      have : decide (((p ++ ([] : List VLabel)).length : Int) < ((q ++ b :: y).length : Int)) = true := by simp [hpq]; omega
      rw [this]; rfl
  | a :: x, p, y, q, n + 1, hpq, h, hl, hl2 => by
    have hp : p.length + 1 < 9223372036854775808 := by simp at hl; omega
    unfold ref_Order_L2
    rw [lt_cat, cond_true, idxC_cat]
    cases y with
    | nil =>
      have e0 : decide ((p.length : Int) < ((q ++ ([] : List VLabel)).length : Int)) = false := by simp [hpq]
      have e1 : decide (((p ++ a :: x).length : Int) < ((q ++ ([] : List VLabel)).length : Int)) = false := by simp [hpq]; omega
      have e2 : decide (((p ++ a :: x).length : Int) > ((q ++ ([] : List VLabel)).length : Int)) = true := by simp [hpq]; omega
      unfold ref_Order_R11
      rw [e0, cond_false, e1, cond_false, e2]; rfl
    | cons b y =>
      have e0 : decide ((p.length : Int) < ((q ++ b :: y).length : Int)) = true := by simp [hpq]; omega
      have ih := refOrder_loop N x (p ++ [a]) y (q ++ [b]) n (by simp [hpq]) (by simp only [List.length_cons] at h; omega) (by rw [← cat_next]; exact hl) (by rw [← cat_next]; exact hl2)
      rw [← cat_next, ← cat_next] at ih
      have e1 : idxC (q ++ b :: y) (p.length : Int) = some b := by rw [hpq, idxC_cat]
      rw [e0, cond_true, e1]
      simp only [Option.bind_some]
      rw [r7_is, r7_is, w64_next p a hp, ih, show cmpLs (a :: x) (b :: y) = if cmpL a b = 0 then cmpLs x y else cmpL a b from rfl]
      unfold cmpL
      by_cases hn : a.Name = b.Name
      · rw [decide_eq_true hn, cond_true, if_pos (cmpS_eq hn)]
        by_cases hv : cmpS a.Value b.Value = 0
        · rw [if_pos hv, if_pos hv]
        · rw [if_neg hv, if_neg hv]
      · have hc : cmpS a.Name b.Name ≠ 0 := fun e => hn (by
          have := @cmpS_zero a.Name b.Name
          rw [e] at this
          simpa using this.symm)
        rw [decide_eq_false hn, cond_false, if_neg hc, if_neg hc, if_neg hc]
theorem refOrder_ev (a b : List VLabel) (ha : WLab a) (hb : WLab b) : Ev (fun N => ref_Order N a b) (cmpLs a b) := ⟨a.length + 4, fun N hN => by
  have := refOrder_loop N a [] b [] N rfl (by omega) (by simpa using ha.1) (by simpa using hb.1)
  show ref_Order N a b = _
  unfold ref_Order
  simp only [List.nil_append, List.length_nil] at this
  rw [show (0 : Int) = ((0 : Nat) : Int) from rfl, this]⟩
end Go.Proofs.Ytmoehipmpchofaa
