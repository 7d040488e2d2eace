/- Labels' texts are the same just if the labels are; Compare is an order. -/
import Derived.Test.YtgmlkhfjhogdbaaEH
namespace Go.Proofs.Ytgmlkhfjhogdbaa
open Go.RowKit P
set_option linter.unusedVariables false
set_option linter.unusedSimpArgs false
theorem cmpL_zero (a b : VLabel) : (cmpL a b == 0) = (beqS a.Name b.Name && (beqS a.Value b.Value && true)) := by
  unfold cmpL beqS
  have h1 := @cmpS_zero a.Name b.Name
  have h2 := @cmpS_zero a.Value b.Value
  rw [← h1, ← h2]
  by_cases h : cmpS a.Name b.Name = 0
  · rw [if_pos h, h]; simp
  · have : (cmpS a.Name b.Name == 0) = false := by simpa using h
    rw [if_neg h, this]; rfl
theorem sameL_loop2 (N : Nat) : ∀ (x p y q : List VLabel) (n : Nat), p.length = q.length → x.length = y.length → x.length < n → (p ++ x).length < 140737488355328 → ref_SameLabels_L4 N n (p ++ x) (q ++ y) (p.length : Int) = some (cmpLs x y == 0)
  | x, p, y, q, 0, _, _, h, _ => by omega
  | [], p, y, q, n + 1, hpq, hxy, h, hl => by
    unfold ref_SameLabels_L4
    rw [lt_end, cond_false]
    cases y with
    | nil => rfl
    | cons => simp at hxy
  | a :: x, p, [], q, n + 1, hpq, hxy, h, hl => by simp at hxy
  | a :: x, p, b :: y, q, n + 1, hpq, hxy, h, hl => by
    have hp : p.length + 1 < 9223372036854775808 := by simp at hl; omega
    have ih := sameL_loop2 N x (p ++ [a]) y (q ++ [b]) n (by simp [hpq]) (by simpa using hxy) (by simp only [List.length_cons] at h; omega) (by rw [← cat_next]; exact hl)
    rw [← cat_next, ← cat_next] at ih
    have e1 : idxC (q ++ b :: y) (p.length : Int) = some b := by rw [hpq, idxC_cat]
    unfold ref_SameLabels_L4
    rw [lt_cat, cond_true, idxC_cat, Option.bind_some, e1, Option.bind_some, w64_next p a hp, ih, ← cmpL_zero, show cmpLs (a :: x) (b :: y) = if cmpL a b = 0 then cmpLs x y else cmpL a b from rfl]
    by_cases hc : cmpL a b = 0
    · rw [if_pos hc, hc]; rfl
    · have : (cmpL a b == 0) = false := by simpa using hc
      rw [if_neg hc, this]; rfl
theorem sameL_ev (a b : List VLabel) (ha : WLab a) : Ev (fun N => ref_SameLabels N a b) (cmpLs a b == 0) := ⟨a.length + 1, fun N hN => by
  show ref_SameLabels N a b = _
  unfold ref_SameLabels
  by_cases hl : a.length = b.length
  · have := sameL_loop2 N a [] b [] N rfl hl (by omega) (by simpa using ha.1)
    simp only [List.nil_append, List.length_nil] at this
    have e : ((a.length : Int) != (b.length : Int)) = false := by simp [hl]
    rw [e, cond_false]
    exact this
  · have e : ((a.length : Int) != (b.length : Int)) = true := by simp; omega
    have e2 : (cmpLs a b == 0) = false := by
      simp only [beq_eq_false_iff_ne]
      exact fun h => hl (by rw [ordLs.z _ _ h])
    rw [e, cond_true, e2]⟩

/-! ### The other way round -/
theorem cmpS_anti (a b : List UInt8) : cmpS a b = - cmpS b a := by
  unfold cmpS
  by_cases h1 : Op.bytesLess a b = true
  · have h2 : ¬ Op.bytesLess b a = true := fun h => by have := less_tr h1 h; rw [less_irr] at this; cases this
    have h3 : ¬ b = a := fun e => by rw [e, less_irr] at h1; cases h1
    rw [if_pos h1, if_neg h2, if_neg h3]
  · by_cases h2 : a = b
    · subst h2; rw [if_neg h1, if_pos rfl]; rfl
    · have h3 : Op.bytesLess b a = true := by
        cases hb : Op.bytesLess b a with
        | true => rfl
        | false => exact absurd (less_eq (by simpa using h1) hb) h2
      rw [if_neg h1, if_neg h2, if_pos h3]; rfl
theorem cmpL_anti (a b : VLabel) : cmpL a b = - cmpL b a := by
  have h1 := cmpS_anti a.Name b.Name
  have h2 := cmpS_anti a.Value b.Value
  unfold cmpL
  by_cases h : cmpS a.Name b.Name = 0
  · rw [if_pos h, if_pos (by omega)]; exact h2
  · rw [if_neg h, if_neg (by omega)]; exact h1
theorem cmpLs_anti : ∀ a b : List VLabel, cmpLs a b = - cmpLs b a
  | [], [] => rfl
  | [], _ :: _ => rfl
  | _ :: _, [] => rfl
  | a :: x, b :: y => by
    have h1 := cmpL_anti a b
    have ih := cmpLs_anti x y
    unfold cmpLs
    by_cases h : cmpL a b = 0
    · rw [if_pos h, if_pos (by omega)]; exact ih
    · rw [if_neg h, if_neg (by omega)]; exact h1
theorem cmpS_small (a b : List UInt8) : -1 ≤ cmpS a b ∧ cmpS a b ≤ 1 := by
  unfold cmpS
  split
  · omega
  · split <;> omega
theorem cmpLs_small : ∀ a b : List VLabel, -1 ≤ cmpLs a b ∧ cmpLs a b ≤ 1
  | [], [] => by simp [cmpLs]
  | [], _ :: _ => by simp [cmpLs]
  | _ :: _, [] => by simp [cmpLs]
  | a :: x, b :: y => by
    have ih := cmpLs_small x y
    have h1 := cmpS_small a.Name b.Name
    have h2 := cmpS_small a.Value b.Value
    unfold cmpLs
    by_cases h : cmpL a b = 0
    · rw [if_pos h]; exact ih
    · rw [if_neg h]
      unfold cmpL
      by_cases h3 : cmpS a.Name b.Name = 0
      · rw [if_pos h3]; exact h2
      · rw [if_neg h3]; exact h1
/-! ### Read back -/
theorem nmL_no {k : Nat} (h0 : ∀ i, nmC i k = false) : ∀ (s : List UInt8) (i : Nat), nmL i s = true → ∀ c ∈ s, c.toNat ≠ k
  | [], _, _, c, hc => by cases hc
  | d :: r, i, h, c, hc => by
    unfold nmL at h
    rw [Bool.and_eq_true] at h
    rcases List.mem_cons.1 hc with rfl | hc
    · intro e; rw [e, h0] at h; cases h.1
    · exact nmL_no h0 r (i + 1) h.2 c hc
theorem name_no {s : List UInt8} (h : isNameL s = true) {k : Nat} (h0 : ∀ i, nmC i k = false) : ∀ c ∈ s, c.toNat ≠ k := by
  unfold isNameL at h
  simp only [Bool.and_eq_true] at h
  exact nmL_no h0 s 0 h.1.1
theorem name_ne {s : List UInt8} (h : isNameL s = true) : s ≠ [] := by
  rintro rfl
  cases h
theorem no61 (i : Nat) : nmC i 61 = false := by simp [nmC]
theorem no123 (i : Nat) : nmC i 123 = false := by simp [nmC]
theorem no125 (i : Nat) : nmC i 125 = false := by simp [nmC]
theorem cut_eq {k : UInt8} : ∀ {a b x y : List UInt8}, (∀ c ∈ a, c ≠ k) → (∀ c ∈ b, c ≠ k) → a ++ k :: x = b ++ k :: y → a = b ∧ x = y
  | [], [], x, y, _, _, h => by cases h; exact ⟨rfl, rfl⟩
  | [], d :: b, x, y, _, hb, h => by
    simp only [List.nil_append, List.cons_append, List.cons.injEq] at h
    exact absurd h.1.symm (hb d (by simp))
  | c :: a, [], x, y, ha, _, h => by
    simp only [List.nil_append, List.cons_append, List.cons.injEq] at h
    exact absurd h.1 (ha c (by simp))
  | c :: a, d :: b, x, y, ha, hb, h => by
    simp only [List.cons_append, List.cons.injEq] at h
    obtain ⟨e1, e2⟩ := cut_eq (fun z hz => ha z (by simp [hz])) (fun z hz => hb z (by simp [hz])) h.2
    exact ⟨by rw [h.1, e1], e2⟩
theorem byte_eq {c d : UInt8} (h : c.toNat = d.toNat) : c = d := UInt8.toNat_inj.1 h
theorem esc1_cases (c : UInt8) : (c.toNat = 10 ∧ esc1 c = [92, 110]) ∨ (c.toNat = 34 ∧ esc1 c = [92, 34]) ∨ (c.toNat = 92 ∧ esc1 c = [92, 92]) ∨ (c.toNat ≠ 10 ∧ c.toNat ≠ 34 ∧ c.toNat ≠ 92 ∧ esc1 c = [c]) := by
  unfold esc1
  by_cases h1 : c.toNat = 10
  · exact .inl ⟨h1, if_pos h1⟩
  · by_cases h2 : c.toNat = 34
    · exact .inr (.inl ⟨h2, by rw [if_neg h1, if_pos h2]⟩)
    · by_cases h3 : c.toNat = 92
      · exact .inr (.inr (.inl ⟨h3, by rw [if_neg h1, if_neg h2, if_pos h3]⟩))
      · exact .inr (.inr (.inr ⟨h1, h2, h3, by rw [if_neg h1, if_neg h2, if_neg h3]⟩))
theorem ne_byte {c : UInt8} {k : Nat} (hk : k < 256) (h : c.toNat ≠ k) : c ≠ UInt8.ofNat k := fun e => h (by rw [e]; simp; omega)
theorem esc1_inj {c d : UInt8} {x y : List UInt8} (h : esc1 c ++ x = esc1 d ++ y) : c = d ∧ x = y := by
  rcases esc1_cases c with ⟨c1, c2⟩ | ⟨c1, c2⟩ | ⟨c1, c2⟩ | ⟨c1, c3, c4, c2⟩ <;> rcases esc1_cases d with ⟨d1, d2⟩ | ⟨d1, d2⟩ | ⟨d1, d2⟩ | ⟨d1, d3, d4, d2⟩ <;> rw [c2, d2] at h <;> simp only [List.cons_append, List.nil_append, List.cons.injEq] at h
  all_goals first
    | exact ⟨byte_eq (by omega), h.2.2⟩
    | exact absurd h.2.1 (by decide)
    | exact absurd h.1.symm (ne_byte (k := 92) (by decide) d4)
    | exact absurd h.1 (ne_byte (k := 92) (by decide) c4)
    | exact ⟨h.1, h.2⟩
theorem esc1_not (c : UInt8) (x y : List UInt8) : esc1 c ++ x ≠ 34 :: y := by
  intro h
  rcases esc1_cases c with ⟨c1, c2⟩ | ⟨c1, c2⟩ | ⟨c1, c2⟩ | ⟨c1, c3, c4, c2⟩ <;> rw [c2] at h <;> simp only [List.cons_append, List.nil_append, List.cons.injEq] at h
  · exact absurd h.1 (by decide)
  · exact absurd h.1 (by decide)
  · exact absurd h.1 (by decide)
  · exact absurd h.1 (ne_byte (k := 34) (by decide) c3)
theorem escB_inj : ∀ {u w x y : List UInt8}, escB u ++ 34 :: x = escB w ++ 34 :: y → u = w ∧ x = y
  | [], [], x, y, h => by cases h; exact ⟨rfl, rfl⟩
  | [], d :: w, x, y, h => by
    rw [escB_cons, List.append_assoc] at h
    exact absurd h.symm (esc1_not d _ _)
  | c :: u, [], x, y, h => by
    rw [escB_cons, List.append_assoc] at h
    exact absurd h (esc1_not c _ _)
  | c :: u, d :: w, x, y, h => by
    rw [escB_cons, escB_cons, List.append_assoc, List.append_assoc] at h
    obtain ⟨e1, e2⟩ := esc1_inj h
    obtain ⟨e3, e4⟩ := escB_inj e2
    exact ⟨by rw [e1, e3], e4⟩
def NameOk (l : List VLabel) : Prop := ∀ z ∈ l, isNameL z.Name = true
theorem part_inj {z w : VLabel} {x y : List UInt8} (hz : isNameL z.Name = true) (hw : isNameL w.Name = true) (h : partOf z ++ x = partOf w ++ y) : z = w ∧ x = y := by
  have e : ∀ (z : VLabel) (x : List UInt8), partOf z ++ x = z.Name ++ 61 :: (34 :: (escB z.Value ++ 34 :: x)) := fun z x => by unfold partOf; simp
  rw [e, e] at h
  obtain ⟨e1, e2⟩ := cut_eq (fun c hc => ne_byte (k := 61) (by decide) (name_no hz no61 c hc)) (fun c hc => ne_byte (k := 61) (by decide) (name_no hw no61 c hc)) h
  simp only [List.cons.injEq, true_and] at e2
  obtain ⟨e3, e4⟩ := escB_inj e2
  refine ⟨?_, e4⟩
  cases z; cases w
  simp only at e1 e3
  rw [e1, e3]
theorem tail_inj : ∀ {f g : List VLabel}, NameOk f → NameOk g → Lib.joinTail [44] (f.map partOf) ++ [125] = Lib.joinTail [44] (g.map partOf) ++ [125] → f = g
  | [], [], _, _, _ => rfl
  | [], w :: g, _, _, h => by simp [Lib.joinTail] at h
  | z :: f, [], _, _, h => by simp [Lib.joinTail] at h
  | z :: f, w :: g, hf, hg, h => by
    have e : ∀ (z : VLabel) (f : List VLabel), Lib.joinTail [44] ((z :: f).map partOf) ++ [125] = 44 :: (partOf z ++ (Lib.joinTail [44] (f.map partOf) ++ [125])) := fun z f => by simp [Lib.joinTail]
    rw [e, e] at h
    simp only [List.cons.injEq, true_and] at h
    obtain ⟨e1, e2⟩ := part_inj (hf z (by simp)) (hg w (by simp)) h
    rw [e1, tail_inj (fun y hy => hf y (by simp [hy])) (fun y hy => hg y (by simp [hy])) e2]
theorem part_not {z : VLabel} (hz : isNameL z.Name = true) (x y : List UInt8) : partOf z ++ x ≠ 125 :: y := by
  intro h
  have hn := name_ne hz
  have h2 := name_no hz no125
  unfold partOf at h
  cases hq : z.Name with
  | nil => exact hn hq
  | cons c r =>
    rw [hq] at h h2
    simp only [List.cons_append, List.cons.injEq] at h
    exact absurd h.1 (ne_byte (k := 125) (by decide) (h2 c (by simp)))
theorem join_inj : ∀ {f g : List VLabel}, NameOk f → NameOk g → Lib.join (f.map partOf) [44] ++ [125] = Lib.join (g.map partOf) [44] ++ [125] → f = g
  | [], [], _, _, _ => rfl
  | [], w :: g, _, hg, h => by
    rw [List.map_cons, Lib.join_cons, List.append_assoc] at h
    exact absurd h.symm (part_not (hg w (by simp)) _ _)
  | z :: f, [], hf, _, h => by
    rw [List.map_cons, Lib.join_cons, List.append_assoc] at h
    exact absurd h (part_not (hf z (by simp)) _ _)
  | z :: f, w :: g, hf, hg, h => by
    rw [List.map_cons, List.map_cons, Lib.join_cons, Lib.join_cons, List.append_assoc, List.append_assoc] at h
    obtain ⟨e1, e2⟩ := part_inj (hf z (by simp)) (hg w (by simp)) h
    rw [e1, tail_inj (fun y hy => hf y (by simp [hy])) (fun y hy => hg y (by simp [hy])) e2]
/-- The labels but the name. -/
def flt (l : List VLabel) : List VLabel := l.filter fun z => !decide (z.Name = nameB)
theorem parts_flt : ∀ l : List VLabel, partsB l = (flt l).map partOf
  | [] => rfl
  | z :: r => by
    have ih := parts_flt r
    unfold flt at ih ⊢
    unfold partsB
    by_cases h : z.Name = nameB
    · rw [if_pos h, ih, List.filter_cons, if_neg (by simp [h])]
    · rw [if_neg h, ih, List.filter_cons, if_pos (by simp [h])]; rfl
theorem text_inj {a b : List VLabel} {v w : List UInt8} (ha : NameOk a) (hb : NameOk b) (hv : v = [] ∨ isNameL v = true) (hw : w = [] ∨ isNameL w = true) (h : textB a v = textB b w) : v = w ∧ flt a = flt b := by
  have nf : ∀ {l : List VLabel}, NameOk l → NameOk (flt l) := fun hl z hz => hl z (List.mem_filter.1 hz).1
  have nv : ∀ {v : List UInt8}, (v = [] ∨ isNameL v = true) → ∀ c ∈ v, c ≠ (123 : UInt8) := fun hv c hc => by
    rcases hv with rfl | hv
    · cases hc
    · exact ne_byte (k := 123) (by decide) (name_no hv no123 c hc)
  have nil : ∀ {l : List VLabel}, partsB l = [] → flt l = [] := fun hl => by rw [parts_flt] at hl; exact List.map_eq_nil_iff.1 hl
  have e : ∀ (v J : List UInt8), v ++ [123] ++ J ++ [125] = v ++ 123 :: (J ++ [125]) := fun v J => by simp
  unfold textB at h
  by_cases c1 : partsB a = [] ∧ v ≠ []
  · rw [if_pos c1] at h
    by_cases c2 : partsB b = [] ∧ w ≠ []
    · rw [if_pos c2] at h
      exact ⟨h, by rw [nil c1.1, nil c2.1]⟩
    · rw [if_neg c2, e] at h
      exact absurd rfl (nv hv 123 (by rw [h]; simp))
  · rw [if_neg c1] at h
    by_cases c2 : partsB b = [] ∧ w ≠ []
    · rw [if_pos c2, e] at h
      exact absurd rfl (nv hw 123 (by rw [← h]; simp))
    · rw [if_neg c2, e, e] at h
      obtain ⟨e1, e2⟩ := cut_eq (nv hv) (nv hw) h
      rw [parts_flt, parts_flt] at e2
      exact ⟨e1, join_inj (nf ha) (nf hb) e2⟩
/-! ### Labels that are right -/
theorem eachF_val : ∀ {l : List VLabel}, eachF false l = none → ∀ z ∈ l, isNameL z.Name = true ∧ z.Value ≠ []
  | [], _, z, hz => by cases hz
  | y :: r, h, z, hz => by
    unfold eachF at h
    split at h
    · cases h
    · rename_i h1
      split at h
      · cases h
      · rename_i h2
        split at h
        · cases h
        · rcases List.mem_cons.1 hz with rfl | hz
          · exact ⟨by simpa using h1, fun e => h2 ⟨e, rfl⟩⟩
          · exact eachF_val h z hz
theorem dup_apart : ∀ {l p : List VLabel}, dupP p l = false → (∀ y ∈ p, ∀ z ∈ l, y.Name ≠ z.Name) ∧ l.Pairwise fun x y => x.Name ≠ y.Name
  | [], p, _ => ⟨fun _ _ z hz => (by cases hz), .nil⟩
  | z :: r, p, h => by
    unfold dupP at h
    rw [Bool.or_eq_false_iff] at h
    obtain ⟨q1, q2⟩ := dup_apart h.2
    have h3 : ∀ y ∈ p, y.Name ≠ z.Name := fun y hy e => by
      have := List.any_eq_false.1 h.1 y hy
      simp [e] at this
    refine ⟨fun y hy w hw => ?_, ?_⟩
    · rcases List.mem_cons.1 hw with rfl | hw
      · exact h3 y hy
      · exact q1 y (by simp [hy]) w hw
    · exact List.pairwise_cons.2 ⟨fun w hw => q1 z (by simp) w hw, q2⟩
structure Right (l : List VLabel) : Prop where
  lab : ∀ z ∈ l, isNameL z.Name = true ∧ z.Value ≠ []
  ord : l.Pairwise fun x y => Op.bytesLess x.Name y.Name = true
theorem adj_pair : ∀ {l : List VLabel}, adjB l = true → l.Pairwise fun x y => Op.bytesLess y.Name x.Name = false
  | [], _ => .nil
  | a :: l, h => by
    obtain ⟨h1, h2⟩ := adj_tail h
    exact List.pairwise_cons.2 ⟨h2, adj_pair h1⟩
theorem right_of {l : List VLabel} (h : chkL l = 0) : Right l := by
  have ho := right_order h
  have h1 : eachB false l = 0 := by
    unfold chkL at h
    split at h
    · assumption
    · exact h
  unfold eachB at h1
  split at h1
  · omega
  · cases hf : eachF false l with
    | some e =>
      rw [hf] at h1
      simp only [Option.getD_some] at h1
      exfalso
      have : ∀ {l : List VLabel} {e : Int}, eachF false l = some e → e ≠ 0 := by
        intro l
        induction l with
        | nil => intro e h; cases h
        | cons y r ih =>
          intro e h
          unfold eachF at h
          split at h
          · cases h; decide
          · split at h
            · cases h; decide
            · split at h
              · cases h; decide
              · exact ih h
      exact this hf h1
    | none =>
      rw [hf] at h1
      simp only [Option.getD_none] at h1
      have hd : dupP [] l = false := by
        cases hq : dupP [] l with
        | false => rfl
        | true => rw [hq] at h1; cases h1
      refine ⟨eachF_val hf, (adj_pair ho).imp₂ (fun x y h1 h2 => ?_) (dup_apart hd).2⟩
      cases hb : Op.bytesLess x.Name y.Name with
      | true => rfl
      | false => exact absurd (less_eq hb h1) h2
theorem nameVal_mem {s : List UInt8} : ∀ {l : List VLabel}, nameVal s l ≠ [] → ∃ z ∈ l, z.Name = s ∧ z.Value = nameVal s l
  | [], h => absurd rfl h
  | z :: r, h => by
    unfold nameVal at h ⊢
    by_cases hz : z.Name = s
    · rw [if_pos hz]; exact ⟨z, by simp, hz, rfl⟩
    · rw [if_neg hz] at h ⊢
      obtain ⟨y, h1, h2⟩ := nameVal_mem h
      exact ⟨y, by simp [h1], h2⟩
theorem nameVal_of {s : List UInt8} : ∀ {l : List VLabel}, (l.Pairwise fun x y => Op.bytesLess x.Name y.Name = true) → ∀ z ∈ l, z.Name = s → nameVal s l = z.Value
  | [], _, z, hz, _ => by cases hz
  | y :: r, h, z, hz, hs => by
    obtain ⟨h1, h2⟩ := List.pairwise_cons.1 h
    unfold nameVal
    rcases List.mem_cons.1 hz with rfl | hz
    · rw [if_pos hs]
    · have : y.Name ≠ s := fun e => by
        have := h1 z hz
        rw [e, hs, less_irr] at this
        cases this
      rw [if_neg this]
      exact nameVal_of h2 z hz hs
theorem nameVal_name {l : List VLabel} (h : Right l) (s : List UInt8) : nameVal s l = [] ∨ ∃ z ∈ l, z.Name = s ∧ z.Value = nameVal s l := by
  by_cases e : nameVal s l = []
  · exact .inl e
  · exact .inr (nameVal_mem e)
theorem same_of_mem : ∀ {a b : List VLabel}, (a.Pairwise fun x y => Op.bytesLess x.Name y.Name = true) → (b.Pairwise fun x y => Op.bytesLess x.Name y.Name = true) → (∀ z, z ∈ a ↔ z ∈ b) → a = b
  | [], [], _, _, _ => rfl
  | [], y :: b, _, _, h => by have := (h y).2 (by simp); cases this
  | x :: a, [], _, _, h => by have := (h x).1 (by simp); cases this
  | x :: a, y :: b, ha, hb, h => by
    obtain ⟨a1, a2⟩ := List.pairwise_cons.1 ha
    obtain ⟨b1, b2⟩ := List.pairwise_cons.1 hb
    have exy : x = y := by
      rcases List.mem_cons.1 ((h x).1 (by simp)) with e | h1
      · exact e
      · rcases List.mem_cons.1 ((h y).2 (by simp)) with e | h2
        · exact e.symm
        · have := less_tr (a1 y h2) (b1 x h1)
          rw [less_irr] at this
          cases this
    subst exy
    rw [same_of_mem a2 b2 fun z => ?_]
    constructor
    · intro hz
      rcases List.mem_cons.1 ((h z).1 (by simp [hz])) with e | h1
      · subst e
        have := a1 _ hz
        rw [less_irr] at this
        cases this
      · exact h1
    · intro hz
      rcases List.mem_cons.1 ((h z).2 (by simp [hz])) with e | h1
      · subst e
        have := b1 _ hz
        rw [less_irr] at this
        cases this
      · exact h1
theorem labels_same {a b : List VLabel} (ha : Right a) (hb : Right b) (hv : nameVal nameB a = nameVal nameB b) (hf : flt a = flt b) : a = b := by
  have key : ∀ {a b : List VLabel}, Right a → Right b → nameVal nameB a = nameVal nameB b → flt a = flt b → ∀ z ∈ a, z ∈ b := fun {a b} ha hb hv hf z hz => by
    by_cases hn : z.Name = nameB
    · have h1 := nameVal_of ha.ord z hz hn
      rw [hv] at h1
      obtain ⟨y, y1, y2, y3⟩ := nameVal_mem (s := nameB) (l := b) (by rw [h1]; exact (ha.lab z hz).2)
      have : z = y := by
        cases z; cases y
        simp only at hn y2 y3 h1
        rw [hn, y2, y3, h1]
      rw [this]; exact y1
    · have h1 : z ∈ flt a := List.mem_filter.2 ⟨hz, by simp [hn]⟩
      rw [hf] at h1
      exact (List.mem_filter.1 h1).1
  exact same_of_mem ha.ord hb.ord fun z => ⟨key ha hb hv hf z, key hb ha hv.symm hf.symm z⟩
/-! ### The law -/
def nameOkB (v : List UInt8) : Bool := decide (v = []) || isNameL v
theorem apart_loop (N : Nat) (a b : List VLabel) (t u : List UInt8) (c d : Int) (va vb : List UInt8) (hva : ref_ValueOf N a nameB = some va) (hvb : ref_ValueOf N b nameB = some vb) (hna : ref_IsName N va = some (isNameL va)) (hnb : ref_IsName N vb = some (isNameL vb)) (hs : ref_SameLabels N a b = some (c == 0)) (hcd : c = w64 (0 - d)) (hfin : nameOkB va = true → nameOkB vb = true → (decide (t = u) == (c == 0)) = true) (m : Nat) : law_LabelsApart_L11 N (m + 3) a b t 0 u 0 c d true 0 = some true := by
  have i0 : idxC [a, b] (0 : Int) = some a := rfl
  have i1 : idxC [a, b] (1 : Int) = some b := rfl
  have w1 : w64 ((0 : Int) + 1) = 1 := rfl
  have w2 : w64 ((1 : Int) + 1) = 2 := rfl
  have hva' : ref_ValueOf N a [95, 95, 110, 97, 109, 101, 95, 95] = some va := hva
  have hvb' : ref_ValueOf N b [95, 95, 110, 97, 109, 101, 95, 95] = some vb := hvb
  have hcc : (c == w64 (0 - d)) = true := by rw [← hcd]; simp
  have last : ∀ q : Bool, (q = true → nameOkB va = true ∧ nameOkB vb = true) → law_LabelsApart_L11 N (m + 1) a b t 0 u 0 c d q 2 = some true := fun q hq => by
    unfold law_LabelsApart_L11
    rw [show decide ((2 : Int) < 2) = false from rfl, cond_false, show ((0 : Int) == 0) = true from rfl, cond_true, cond_true, hcc, cond_true, hs, Option.bind_some, beq_self_eq_true, cond_true]
    cases q with
    | false => rfl
    | true => rw [Bool.not_true, cond_false, hfin (hq rfl).1 (hq rfl).2]
  have two : ∀ q : Bool, (q = true → nameOkB va = true) → law_LabelsApart_L11 N (m + 2) a b t 0 u 0 c d q 1 = some true := fun q hq => by
    unfold law_LabelsApart_L11
    rw [show decide ((1 : Int) < 2) = true from rfl, cond_true, i1, Option.bind_some, hvb', Option.bind_some]
    cases q with
    | false =>
      rw [cond_false]
      unfold law_LabelsApart_R12
      rw [w2]
      exact last false (fun h => by cases h)
    | true =>
      rw [cond_true]
      by_cases hv : vb = []
      · rw [decide_eq_true hv, cond_true]
        unfold law_LabelsApart_R12
        rw [w2]
        exact last true (fun _ => ⟨hq rfl, by unfold nameOkB; rw [decide_eq_true hv]; rfl⟩)
      · rw [decide_eq_false hv, cond_false, hnb, Option.bind_some]
        unfold law_LabelsApart_R12
        rw [w2]
        exact last _ (fun h => ⟨hq rfl, by unfold nameOkB; rw [h]; simp⟩)
  unfold law_LabelsApart_L11
  rw [show decide ((0 : Int) < 2) = true from rfl, cond_true, i0, Option.bind_some, hva', Option.bind_some, cond_true]
  by_cases hv : va = []
  · rw [decide_eq_true hv, cond_true]
    unfold law_LabelsApart_R12
    rw [w1]
    exact two true (fun _ => by unfold nameOkB; rw [decide_eq_true hv]; rfl)
  · rw [decide_eq_false hv, cond_false, hna, Option.bind_some]
    unfold law_LabelsApart_R12
    rw [w1]
    exact two _ (fun h => by unfold nameOkB; rw [h]; simp)
theorem nameOk_of {v : List UInt8} (h : nameOkB v = true) : v = [] ∨ isNameL v = true := by
  unfold nameOkB at h
  simpa using h
theorem nameVal_small {l : List VLabel} (hw : WLab l) (s : List UInt8) : (nameVal s l).length < 140737488355328 := by
  by_cases h : nameVal s l = []
  · rw [h]; decide
  · obtain ⟨z, h1, _, h3⟩ := nameVal_mem h
    rw [← h3]; exact (hw.2 z h1).2
theorem labelsApart_ev (a b : List VLabel) (ha : WLab a) (hb : WLab b) : Ev (fun N => law_LabelsApart N a b) true := by
  obtain ⟨N0, h0⟩ := labelsBegun_ev
  obtain ⟨N1, h1⟩ := text_ev a ha
  obtain ⟨N2, h2⟩ := text_ev b hb
  obtain ⟨N3, h3⟩ := compare_ev a b ha hb
  obtain ⟨N4, h4⟩ := compare_ev b a hb ha
  obtain ⟨N5, h5⟩ := refValue_ev a ha nameB
  obtain ⟨N6, h6⟩ := refValue_ev b hb nameB
  obtain ⟨N7, h7⟩ := refIsName_ev (nameVal nameB a) (nameVal_small ha _)
  obtain ⟨N8, h8⟩ := refIsName_ev (nameVal nameB b) (nameVal_small hb _)
  obtain ⟨N9, h9⟩ := sameL_ev a b ha
  refine ⟨max (max (max N0 N1) (max N2 N3)) (max (max (max N4 N5) (max N6 N7)) (max (max N8 N9) 3)), fun N hN => ?_⟩
  have h0 := h0 N (by omega)
  have h1 := h1 N (by omega)
  have h2 := h2 N (by omega)
  have h3 := h3 N (by omega)
  have h4 := h4 N (by omega)
  have h5 := h5 N (by omega)
  have h6 := h6 N (by omega)
  have h7 := h7 N (by omega)
  have h8 := h8 N (by omega)
  have h9 := h9 N (by omega)
  simp only at h1 h2 h3 h4 h5 h6 h7 h8 h9
  show law_LabelsApart N a b = _
  unfold law_LabelsApart
  rw [h0, Option.bind_some, Bool.not_true, cond_false, h1, Option.bind_some, h2, Option.bind_some]
  by_cases ca : chkL a = 0
  case neg =>
    have e : (chkL a != 0) = true := by simpa using ca
    simp only [if_neg ca, e, cond_true]
  by_cases cb : chkL b = 0
  case neg =>
    have e : (chkL b != 0) = true := by simpa using cb
    simp only [if_pos ca, if_neg cb, e, cond_true, bne_self_eq_false, cond_false]
  rw [if_pos ca, if_pos cb] at *
  simp only [bne_self_eq_false, cond_false]
  rw [h3, Option.bind_some, h4, Option.bind_some]
  obtain ⟨m, rfl⟩ : ∃ m, N = m + 3 := ⟨N - 3, by omega⟩
  have hs1 := cmpLs_small a b
  have hs2 := cmpLs_small b a
  refine apart_loop (m + 3) a b _ _ _ _ _ _ h5 h6 h7 h8 h9 ?_ (fun q1 q2 => ?_) m
  · rw [w64_id (by omega) (by omega), cmpLs_anti a b]; omega
  · have ra := right_of ca
    have rb := right_of cb
    by_cases hc : cmpLs a b = 0
    · have := ordLs.z _ _ hc
      subst this
      rw [hc]; simp
    · have hne : ¬ textB a (nameVal nameB a) = textB b (nameVal nameB b) := fun h => by
        obtain ⟨e1, e2⟩ := text_inj (fun z hz => (ra.lab z hz).1) (fun z hz => (rb.lab z hz).1) (nameOk_of q1) (nameOk_of q2) h
        have := labels_same ra rb e1 e2
        subst this
        exact hc (ordLs.r _)
      have e : (cmpLs a b == 0) = false := by simpa using hc
      rw [decide_eq_false hne, e]; rfl
end Go.Proofs.Ytgmlkhfjhogdbaa
