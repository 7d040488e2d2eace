/- What take.Get and the law's own look come to. -/
import Derived.Test.YtmoehipmpchofaaET
namespace Go.Proofs.Ytmoehipmpchofaa
open Go.RowKit P
set_option linter.unusedVariables false
set_option linter.unusedSimpArgs false

theorem adjS_tail {a : VSeries} {l : List VSeries} (h : adjS (a :: l) = true) : adjS l = true ∧ ∀ y ∈ l, cmpLs a.Labels y.Labels < 0 := by
  induction l generalizing a with
  | nil => exact ⟨rfl, fun y hy => by cases hy⟩
  | cons b l ih =>
    simp only [adjS, Bool.and_eq_true, Bool.not_eq_true', decide_eq_false_iff_not] at h
    refine ⟨h.2, fun y hy => ?_⟩
    rcases List.mem_cons.1 hy with rfl | hy
    · omega
    · exact ordLs.t _ _ _ (by omega) ((ih h.2).2 y hy)
theorem adjS_lt {l : List VSeries} (h : adjS l = true) : ∀ {i j : Nat} (hj : j < l.length) (hij : i < j), cmpLs (l[i]'(by omega)).Labels l[j].Labels < 0 := by
  induction l with
  | nil => intro i j hj; simp at hj
  | cons a l ih =>
    intro i j hj hij
    have ht := adjS_tail h
    cases j with
    | zero => omega
    | succ j =>
      cases i with
      | zero => exact ht.2 _ (List.getElem_mem _)
      | succ i => exact ih ht.1 (by simpa using hj) (by omega)
theorem searchS_is (N : Nat) (l : List VSeries) (x : List VLabel) (hs : adjS l = true) (hl : l.length < 140737488355328) (hf : ∀ z ∈ l, take_find_1 N z x = some (cmpLs z.Labels x)) : ∀ (n lo hi : Nat), lo ≤ hi → hi ≤ l.length → hi - lo < n →
    (∀ j (hj : j < l.length), j < lo → cmpLs l[j].Labels x < 0) → (∀ j (hj : j < l.length), hi ≤ j → ¬ cmpLs l[j].Labels x < 0) →
    ∃ k, k ≤ l.length ∧ (∀ j (hj : j < l.length), j < k → cmpLs l[j].Labels x < 0) ∧ (∀ j (hj : j < l.length), k ≤ j → ¬ cmpLs l[j].Labels x < 0) ∧
      slices_BinarySearchFunc_api_Series_api_Series_api_Label__i0_L3 N n l x (l.length : Int) (lo : Int) (hi : Int) = some ((k : Int), if h : k < l.length then cmpLs l[k].Labels x == 0 else false)
  | 0, lo, hi, _, _, h, _, _ => by omega
  | n + 1, lo, hi, h1, h2, h3, h4, h5 => by
    unfold slices_BinarySearchFunc_api_Series_api_Series_api_Label__i0_L3
    by_cases hlt : lo < hi
    · have e0 : decide ((lo : Int) < (hi : Int)) = true := by simp; omega
      have hm : (lo + hi) / 2 < l.length := by omega
      rw [e0, cond_true, half (by omega), Option.bind_some, w64_id (by omega) (by omega), idxC_get hm, Option.bind_some, hf _ (List.getElem_mem hm), Option.bind_some, w64_id (by omega) (by omega)]
      by_cases hc : cmpLs (l[(lo + hi) / 2]'hm).Labels x < 0
      · rw [decide_eq_true hc, cond_true]
        exact searchS_is N l x hs hl hf n ((lo + hi) / 2 + 1) hi (by omega) h2 (by omega) (fun j hj hjl => by
          by_cases e : j = (lo + hi) / 2
          · subst e; exact hc
          · exact ordLs.t _ _ _ (adjS_lt hs hm (by omega : j < (lo + hi) / 2)) hc) h5
      · rw [decide_eq_false hc, cond_false]
        exact searchS_is N l x hs hl hf n lo ((lo + hi) / 2) (by omega) (by omega) (by omega) h4 fun j hj hjl hjx => by
          by_cases e : (lo + hi) / 2 = j
          · subst e; exact hc hjx
          · exact hc (ordLs.t _ _ _ (adjS_lt hs hj (by omega : (lo + hi) / 2 < j)) hjx)
    · obtain rfl : lo = hi := by omega
      have e0 : decide ((lo : Int) < (lo : Int)) = false := by simp
      rw [e0, cond_false]
      refine ⟨lo, h2, h4, h5, ?_⟩
      by_cases hlo : lo < l.length
      · have e1 : decide ((lo : Int) < (l.length : Int)) = true := by simp; omega
        rw [e1, cond_true, idxC_get hlo, Option.bind_some, hf _ (List.getElem_mem hlo), Option.bind_some, dif_pos hlo]
      · have e1 : decide ((lo : Int) < (l.length : Int)) = false := by simp; omega
        rw [e1, cond_false, dif_neg hlo]
def foldG (x : List VLabel) : List VSeries → List VSample × Int → List VSample × Int
  | [], a => a
  | z :: r, a => foldG x r (if cmpLs z.Labels x = 0 then (z.Samples, 0) else a)
theorem foldG_app (x : List VLabel) : ∀ (l m : List VSeries) (a : List VSample × Int), foldG x (l ++ m) a = foldG x m (foldG x l a)
  | [], m, a => rfl
  | z :: l, m, a => foldG_app x l m _
theorem foldG_none (x : List VLabel) : ∀ (l : List VSeries) (a : List VSample × Int), (∀ z ∈ l, cmpLs z.Labels x ≠ 0) → foldG x l a = a
  | [], a, _ => rfl
  | z :: l, a, h => by
    rw [foldG, if_neg (h z (by simp))]
    exact foldG_none x l a fun y hy => h y (by simp [hy])
theorem foldG_at (x : List VLabel) (l : List VSeries) (a : List VSample × Int) (k : Nat) (hk : k < l.length) (h0 : cmpLs l[k].Labels x = 0) (h1 : ∀ j (hj : j < l.length), j ≠ k → cmpLs l[j].Labels x ≠ 0) : foldG x l a = (l[k].Samples, 0) := by
  have e : l = l.take k ++ l[k] :: l.drop (k + 1) := by
    rw [← List.drop_eq_getElem_cons hk, List.take_append_drop]
  have e2 : foldG x l a = foldG x (l.take k ++ l[k] :: l.drop (k + 1)) a := by rw [← e]
  rw [e2, foldG_app, foldG, if_pos h0]
  refine foldG_none x _ _ fun z hz => ?_
  obtain ⟨j, hj, rfl⟩ := List.getElem_of_mem hz
  simp only [List.length_drop] at hj
  rw [List.getElem_drop]
  exact h1 _ (by omega) (by omega)
theorem find_ev (l : List VSeries) (hw : WStore l) (hs : adjS l = true) (x : List VLabel) (hx : WLab x) : ∃ N0, ∀ N, N0 ≤ N → ∃ (k : Nat) (b : Bool), take_find N l x = some ((k : Int), b) ∧ (b = true → ∃ hk : k < l.length, foldG x l ([], 5) = (l[k].Samples, 0)) ∧ (b = false → foldG x l ([], 5) = ([], 5)) := by
  obtain ⟨N1, h1⟩ := ev_allP (P := fun N (z : VSeries) => take_find_1 N z x = some (cmpLs z.Labels x)) l fun z hz => by
    obtain ⟨N0, h0⟩ := order_ev z.Labels x (hw.2 z hz).1 hx
    refine ⟨N0, fun N hN => ?_⟩
    have := h0 N hN
    simp only at this
    unfold take_find_1; rw [this]; rfl
  refine ⟨max N1 (l.length + 1), fun N hN => ?_⟩
  obtain ⟨k, k1, k2, k3, k4⟩ := searchS_is N l x hs hw.1 (h1 N (by omega)) N 0 l.length (by omega) (by omega) (by omega) (fun j hj h => by omega) (fun j hj h => by omega)
  refine ⟨k, (if h : k < l.length then cmpLs l[k].Labels x == 0 else false), ?_, fun hb => ?_, fun hb => ?_⟩
  · unfold take_find slices_BinarySearchFunc_api_Series_api_Series_api_Label__i0
    rw [show (0 : Int) = ((0 : Nat) : Int) from rfl, k4]; rfl
  · by_cases hk : k < l.length
    · rw [dif_pos hk] at hb
      have h0 : cmpLs l[k].Labels x = 0 := by simpa using hb
      refine ⟨hk, foldG_at x l _ k hk h0 fun j hj hne e => ?_⟩
      by_cases hjk : j < k
      · have := k2 j hj hjk; omega
      · have h6 := adjS_lt hs hj (by omega : k < j)
        rw [ordLs.z _ _ h0, ordLs.z _ _ e, ordLs.r] at h6
        omega
    · rw [dif_neg hk] at hb; cases hb
  · refine foldG_none x l _ fun z hz e => ?_
    obtain ⟨j, hj, rfl⟩ := List.getElem_of_mem hz
    by_cases hjk : j < k
    · have := k2 j hj hjk; omega
    · have hk : k < l.length := by omega
      rw [dif_pos hk] at hb
      have h0 : cmpLs l[k].Labels x ≠ 0 := by simpa using hb
      by_cases hje : j = k
      · subst hje; exact h0 e
      · have h6 := adjS_lt hs hj (by omega : k < j)
        rw [ordLs.z _ _ e] at h6
        exact k3 k hk (Nat.le_refl _) h6
theorem firstE_zero {e : Int} : ∀ {l : List VSeries}, firstE e l = 0 → e = 0
  | [], h => h
  | z :: r, h => by
    unfold firstE at h
    split at h
    · exact firstE_zero h
    · contradiction
theorem store_adj {l : List VSeries} (h : storeE l = 0) : adjS l = true := by
  unfold storeE at h
  split at h
  · cases h
  · have := firstE_zero h
    unfold tailE at this
    split at this
    · assumption
    · cases this
theorem store_small {l : List VSeries} (h : storeE l = 0) : ∀ z ∈ l, z.Samples.length < 1000000000000 := fun z hz => by
  unfold storeE at h
  split at h
  · cases h
  · rename_i hm
    have hb : l.any bigB = false := by
      unfold manyB at hm
      simp only [Bool.or_eq_true, not_or, Bool.not_eq_true] at hm
      exact hm.2
    have h1 := List.any_eq_false.1 hb z hz
    unfold bigB at h1
    simp at h1
    omega
def getV (l : List VSeries) (x : List VLabel) : List VSample × Int := if storeE l = 0 then (if chkL x = 0 then foldG x l ([], 5) else ([], chkL x)) else ([], storeE l)
theorem clone_is (N : Nat) (s : List VSample) (hs : s.length < 1000000000000) : slices_Clone_api_Sample_api_Sample_ N s = some s := by
  unfold slices_Clone_api_Sample_api_Sample_ appC
  rw [if_pos (by simp only [List.length_nil]; omega)]
  simp
theorem get_ev (l : List VSeries) (hw : WStore l) (x : List VLabel) (hx : WLab x) : Ev (fun N => take_Get N l x) (getV l x) := by
  obtain ⟨N1, h1⟩ := take_ev l hw
  obtain ⟨N2, h2⟩ := check_ev x hx
  unfold getV
  by_cases c1 : storeE l = 0
  · obtain ⟨N3, h3⟩ := find_ev l hw (store_adj c1) x hx
    refine ⟨max N1 (max N2 N3), fun N hN => ?_⟩
    have h1 := h1 N (by omega)
    have h2 := h2 N (by omega)
    obtain ⟨k, b, h4, h5, h6⟩ := h3 N (by omega)
    simp only at h1 h2
    show take_Get N l x = _
    unfold take_Get take_Get_R4
    rw [h1, Option.bind_some, c1, if_pos rfl]
    simp only [beq_self_eq_true, cond_true]
    rw [h2, Option.bind_some]
    by_cases c2 : chkL x = 0
    · have : (chkL x != 0) = false := by simpa using c2
      rw [this, cond_false, if_pos c2, h4]
      simp only [Option.bind_some]
      cases hb : b with
      | true =>
        obtain ⟨hk, h7⟩ := h5 hb
        rw [Bool.not_true, cond_false, idxC_get hk, Option.bind_some, clone_is N _ (store_small c1 _ (List.getElem_mem hk)), Option.bind_some, h7]
      | false => rw [Bool.not_false, cond_true, h6 hb]
    · have : (chkL x != 0) = true := by simpa using c2
      rw [this, cond_true, if_neg c2]
  · refine ⟨N1, fun N hN => ?_⟩
    have h1 := h1 N (by omega)
    simp only at h1
    show take_Get N l x = _
    unfold take_Get take_Get_R4
    have e1 : (storeE l == 0) = false := by simpa using c1
    have e2 : (storeE l != 0) = true := by simpa using c1
    rw [h1, Option.bind_some, e1, cond_false, e2, cond_true, if_neg c1]
theorem cmpL_zero (a b : VLabel) : (cmpL a b == 0) = (beqS a.Name b.Name && (beqS a.Value b.Value && true)) := by
  unfold cmpL beqS
  have h1 := @cmpS_zero a.Name b.Name
  have h2 := @cmpS_zero a.Value b.Value
  rw [← h1, ← h2]
  by_cases h : cmpS a.Name b.Name = 0
  · rw [if_pos h, h]; simp
  · have : (cmpS a.Name b.Name == 0) = false := by simpa using h
    rw [if_neg h, this]; rfl
theorem sameL_loop2 (N : Nat) : ∀ (x p y q : List VLabel) (n : Nat), p.length = q.length → x.length = y.length → x.length < n → (p ++ x).length < 140737488355328 → ref_SameLabels_L4 N n (p ++ x) (q ++ y) (p.length : Int) = some (cmpLs x y == 0)
  | x, p, y, q, 0, _, _, h, _ => by omega
  | [], p, y, q, n + 1, hpq, hxy, h, hl => by
    unfold ref_SameLabels_L4
    rw [lt_end, cond_false]
    cases y with
    | nil => rfl
    | cons => simp at hxy
  | a :: x, p, [], q, n + 1, hpq, hxy, h, hl => by simp at hxy
  | a :: x, p, b :: y, q, n + 1, hpq, hxy, h, hl => by
    have hp : p.length + 1 < 9223372036854775808 := by simp at hl; omega
    have ih := sameL_loop2 N x (p ++ [a]) y (q ++ [b]) n (by simp [hpq]) (by simpa using hxy) (by simp only [List.length_cons] at h; omega) (by rw [← cat_next]; exact hl)
    rw [← cat_next, ← cat_next] at ih
    have e1 : idxC (q ++ b :: y) (p.length : Int) = some b := by rw [hpq, idxC_cat]
    unfold ref_SameLabels_L4
    rw [lt_cat, cond_true, idxC_cat, Option.bind_some, e1, Option.bind_some, w64_next p a hp, ih, ← cmpL_zero, show cmpLs (a :: x) (b :: y) = if cmpL a b = 0 then cmpLs x y else cmpL a b from rfl]
    by_cases hc : cmpL a b = 0
    · rw [if_pos hc, hc]; rfl
    · have : (cmpL a b == 0) = false := by simpa using hc
      rw [if_neg hc, this]; rfl
theorem sameL_ev (a b : List VLabel) (ha : WLab a) : Ev (fun N => ref_SameLabels N a b) (cmpLs a b == 0) := ⟨a.length + 1, fun N hN => by
  show ref_SameLabels N a b = _
  unfold ref_SameLabels
  by_cases hl : a.length = b.length
  · have := sameL_loop2 N a [] b [] N rfl hl (by omega) (by simpa using ha.1)
    simp only [List.nil_append, List.length_nil] at this
    have e : ((a.length : Int) != (b.length : Int)) = false := by simp [hl]
    rw [e, cond_false]
    exact this
  · have e : ((a.length : Int) != (b.length : Int)) = true := by simp; omega
    have e2 : (cmpLs a b == 0) = false := by
      simp only [beq_eq_false_iff_ne]
      exact fun h => hl (by rw [ordLs.z _ _ h])
    rw [e, cond_true, e2]⟩
theorem sameT_loop (N : Nat) : ∀ (r p : List VSample) (n : Nat), (p ++ r).length < 140737488355328 → r.length < n → ref_SameSamples_L4 N n (p ++ r) (p ++ r) (p.length : Int) = some true
  | r, p, 0, _, h => by omega
  | [], p, n + 1, hl, h => by
    unfold ref_SameSamples_L4
    rw [lt_end]; rfl
  | z :: r, p, n + 1, hl, h => by
    have hp : p.length + 1 < 9223372036854775808 := by simp at hl; omega
    have ih := sameT_loop N r (p ++ [z]) n (by rw [← cat_next]; exact hl) (by simp only [List.length_cons] at h; omega)
    rw [← cat_next] at ih
    have hb : (beqI z.Time z.Time && (beqI z.Bits z.Bits && true)) = true := by simp [beqI]
    unfold ref_SameSamples_L4
    rw [lt_cat, cond_true, idxC_cat, Option.bind_some, Option.bind_some, hb, w64_next p z hp, ih]; rfl
theorem sameT_is (N : Nat) (s : List VSample) (hs : s.length < 140737488355328) (hN : s.length < N) : ref_SameSamples N s s = some true := by
  have := sameT_loop N s [] N (by simpa using hs) hN
  simp only [List.nil_append, List.length_nil] at this
  unfold ref_SameSamples
  have e : ((s.length : Int) != (s.length : Int)) = false := by simp
  rw [e, cond_false, show (0 : Int) = ((0 : Nat) : Int) from rfl, this]
theorem look_loop (N : Nat) (l : List VSeries) (x : List VLabel) (s : List VSample) (e : Int) (hl : l.length < 140737488355328) (hb : law_takeBegun N = some true) (hsame : ∀ z ∈ l, ref_SameLabels N z.Labels x = some (cmpLs z.Labels x == 0)) : ∀ (r p : List VSeries) (n : Nat) (a : List VSample × Int), l = p ++ r → r.length < n →
    law_TakeGets_L9 N n l x s e a.2 a.1 (p.length : Int) = (bif e == (foldG x r a).2 then (ref_SameSamples N s (foldG x r a).1).bind fun z => some z else some false)
  | r, p, 0, a, _, h => by omega
  | [], p, n + 1, a, hz, h => by
    unfold law_TakeGets_L9
    have e0 : decide ((p.length : Int) < (l.length : Int)) = false := by rw [hz]; exact lt_end p
    rw [e0, cond_false, hb, Option.bind_some, cond_true]; rfl
  | z :: r, p, n + 1, a, hz, h => by
    have hp : p.length + 1 < 9223372036854775808 := by rw [hz] at hl; simp at hl; omega
    have hzm : z ∈ l := by rw [hz]; simp
    have ih := fun a => look_loop N l x s e hl hb hsame r (p ++ [z]) n a (by rw [hz]; exact cat_next p z r) (by simp only [List.length_cons] at h; omega)
    have e0 : decide ((p.length : Int) < (l.length : Int)) = true := by rw [hz]; exact lt_cat p z r
    have e1 : idxC l (p.length : Int) = some z := by rw [hz]; exact idxC_cat p z r
    unfold law_TakeGets_L9 law_TakeGets_R10
    rw [e0, cond_true, e1]
    simp only [Option.bind_some]
    rw [hsame z hzm, Option.bind_some, w64_next p z hp]
    simp only [foldG]
    by_cases hc : cmpLs z.Labels x = 0
    · rw [if_pos hc, hc]
      exact ih (z.Samples, 0)
    · have : (cmpLs z.Labels x == 0) = false := by simpa using hc
      rw [if_neg hc, this, cond_false]
      exact ih a
theorem foldG_len (x : List VLabel) (M : Nat) : ∀ (l : List VSeries) (a : List VSample × Int), (∀ z ∈ l, z.Samples.length < M) → a.1.length < M → (foldG x l a).1.length < M
  | [], a, _, h => h
  | z :: r, a, h1, h2 => by
    rw [foldG]
    refine foldG_len x M r _ (fun y hy => h1 y (by simp [hy])) ?_
    split
    · exact h1 z (by simp)
    · exact h2
theorem takeGets_ev (hbeg : Ev law_takeBegun true) (l : List VSeries) (x : List VLabel) (hw : WStore l) (hx : WLab x) : Ev (fun N => law_TakeGets N l x) true := by
  obtain ⟨N0, h0⟩ := hbeg
  obtain ⟨N1, h1⟩ := get_ev l hw x hx
  obtain ⟨N2, h2⟩ := refStore_ev l hw
  obtain ⟨N3, h3⟩ := refCheck_ev x hx
  obtain ⟨N4, h4⟩ := ev_allP (P := fun N (z : VSeries) => ref_SameLabels N z.Labels x = some (cmpLs z.Labels x == 0)) l fun z hz => sameL_ev z.Labels x (hw.2 z hz).1
  obtain ⟨B, hB1, hB2⟩ := lens l
  refine ⟨max (max N0 (max N1 N2)) (max N3 (max N4 (B + 1))), fun N hN => ?_⟩
  have h0 := h0 N (by omega)
  have h1 := h1 N (by omega)
  have h2 := h2 N (by omega)
  have h3 := h3 N (by omega)
  have h4 := h4 N (by omega)
  simp only at h0 h1 h2 h3
  have hnil : ref_SameSamples N ([] : List VSample) [] = some true := sameT_is N [] (by simp) (by simp only [List.length_nil]; omega)
  have r5 : ∀ (e : Int), e ≠ 0 → law_TakeGets_R5 N N l x [] e e = some true := fun e he => by
    have : (e == 0) = false := by simpa using he
    unfold law_TakeGets_R5
    rw [this, cond_false, h0, Option.bind_some, cond_true, hnil]
    simp
  show law_TakeGets N l x = _
  unfold law_TakeGets
  rw [h1, Option.bind_some, h2, Option.bind_some]
  unfold getV
  by_cases c1 : storeE l = 0
  · rw [if_pos c1, c1]
    simp only [beq_self_eq_true, cond_true]
    rw [h3, Option.bind_some]
    by_cases c2 : chkL x = 0
    · rw [if_pos c2, c2]
      have hk := look_loop N l x (foldG x l ([], 5)).1 (foldG x l ([], 5)).2 hw.1 h0 h4 l [] N ([], 5) rfl (by omega)
      simp only [List.length_nil] at hk
      unfold law_TakeGets_R5
      simp only [beq_self_eq_true, cond_true]
      rw [show (0 : Int) = ((0 : Nat) : Int) from rfl, hk]
      have hlen : (foldG x l ([], 5)).1.length < B := foldG_len x B l _ (fun z hz => by have := hB2 z hz; omega) (by simp only [List.length_nil]; omega)
      have hlen2 : (foldG x l ([], 5)).1.length < 140737488355328 := foldG_len x _ l _ (fun z hz => by have := (hw.2 z hz).2; omega) (by simp)
      simp only [beq_self_eq_true, cond_true]
      rw [sameT_is N _ hlen2 (by omega)]; rfl
    · rw [if_neg c2]
      exact r5 _ c2
  · have : (storeE l == 0) = false := by simpa using c1
    rw [if_neg c1, this, cond_false]
    exact r5 _ c1
theorem takeChecks_ev (hbeg : Ev law_takeBegun true) (l : List VSeries) (hw : WStore l) : Ev (fun N => law_TakeChecks N l) true := by
  obtain ⟨N0, h0⟩ := hbeg
  obtain ⟨N1, h1⟩ := take_ev l hw
  obtain ⟨N2, h2⟩ := refStore_ev l hw
  refine ⟨max N0 (max N1 N2), fun N hN => ?_⟩
  have h0 := h0 N (by omega)
  have h1 := h1 N (by omega)
  have h2 := h2 N (by omega)
  simp only at h0 h1 h2
  show law_TakeChecks N l = _
  unfold law_TakeChecks
  rw [h0, Option.bind_some, cond_true, h1, Option.bind_some, h2, Option.bind_some]
  simp
end Go.Proofs.Ytmoehipmpchofaa
