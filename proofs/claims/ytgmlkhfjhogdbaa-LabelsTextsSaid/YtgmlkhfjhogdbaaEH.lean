/- What labels.Text and the reference's TextOf come to. -/
import Derived.Test.YtgmlkhfjhogdbaaEG
namespace Go.Proofs.Ytgmlkhfjhogdbaa
open Go.RowKit P
set_option linter.unusedVariables false
set_option linter.unusedSimpArgs false
theorem catC_is {a b : List UInt8} (h : a.length + b.length ≤ 9223372036854775807) : catC a b = some (a ++ b) := by unfold catC; rw [if_pos h]
theorem check1_is (N : Nat) (l : List VLabel) (e : Int) (h : labels_Check N l = some e) (hN : 3 ≤ N) : labels_check N [l] = some e := by
  unfold labels_check
  have key : ∀ m, labels_check_L2 N (m + 2) [l] 1 0 = some e := fun m => by
    rw [labels_check_L2]
    have e0 : decide ((0 : Int) < 1) = true := rfl
    have e1 : idxC [l] 0 = some l := rfl
    rw [e0, cond_true, e1, Option.bind_some, h, Option.bind_some]
    by_cases he : e = 0
    · have e2 : (e != 0) = false := by simpa using he
      rw [e2, cond_false, labels_check_L2, w64_id (by omega) (by omega)]
      have e3 : decide ((0 : Int) + 1 < 1) = false := rfl
      rw [e3, cond_false, he]
    · have e2 : (e != 0) = true := by simpa using he
      rw [e2, cond_true]
  have := key (N - 2)
  rw [show N - 2 + 2 = N by omega] at this
  exact this
theorem each_small {l : List VLabel} (h : chkL l = 0) : l.length ≤ 20 := by
  unfold chkL at h
  split at h
  · rename_i he
    unfold eachB at he
    split at he
    · omega
    · omega
  · rename_i he; exact absurd h he
theorem eachF_none {e : Bool} : ∀ {l : List VLabel}, eachF e l = none → ∀ z ∈ l, isNameL z.Name = true ∧ z.Value.length ≤ 100
  | [], _, z, hz => by cases hz
  | y :: r, h, z, hz => by
    unfold eachF at h
    split at h
    · cases h
    · rename_i h1
      split at h
      · cases h
      · split at h
        · cases h
        · rename_i h3
          rcases List.mem_cons.1 hz with rfl | hz
          · exact ⟨by simpa using h1, by omega⟩
          · exact eachF_none h z hz
theorem right_labels {l : List VLabel} (h : chkL l = 0) : l.length ≤ 20 ∧ ∀ z ∈ l, z.Name.length ≤ 40 ∧ z.Value.length ≤ 100 := by
  refine ⟨each_small h, fun z hz => ?_⟩
  have h1 : eachB false l = 0 := by
    unfold chkL at h
    split at h
    · assumption
    · exact h
  unfold eachB at h1
  split at h1
  · omega
  · cases hf : eachF false l with
    | some e =>
      rw [hf] at h1
      simp only [Option.getD_some] at h1
      exfalso
      have : ∀ {l : List VLabel} {e : Int}, eachF false l = some e → e ≠ 0 := by
        intro l
        induction l with
        | nil => intro e h; cases h
        | cons y r ih =>
          intro e h
          unfold eachF at h
          split at h
          · cases h; decide
          · split at h
            · cases h; decide
            · split at h
              · cases h; decide
              · exact ih h
      exact this hf h1
    | none =>
      obtain ⟨q1, q2⟩ := eachF_none hf z hz
      unfold isNameL at q1
      simp only [Bool.and_eq_true, decide_eq_true_eq] at q1
      exact ⟨q1.2, q2⟩


theorem right_order {l : List VLabel} (h : chkL l = 0) : adjB l = true := by
  unfold chkL at h
  split at h
  · by_cases ha : adjB l = true
    · exact ha
    · rw [if_neg ha] at h; cases h
  · rename_i he; exact absurd h he
theorem nameVal_le {s : List UInt8} {b : Nat} : ∀ {l : List VLabel}, (∀ z ∈ l, z.Value.length ≤ b) → (nameVal s l).length ≤ b
  | [], _ => by simp [nameVal]
  | z :: r, h => by
    unfold nameVal
    split
    · exact h z (by simp)
    · exact nameVal_le fun y hy => h y (by simp [hy])
theorem smallB_of {l : List VLabel} (h : chkL l = 0) : smallB l (nameVal nameB l) = true := by
  obtain ⟨h1, h2⟩ := right_labels h
  have h3 : (nameVal nameB l).length ≤ 100 := nameVal_le fun z hz => (h2 z hz).2
  unfold smallB
  simp only [Bool.and_eq_true, decide_eq_true_eq, List.all_eq_true]
  exact ⟨h1, h3, h2⟩
theorem text_ev (l : List VLabel) (hw : WLab l) : Ev (fun N => labels_Text N l) (if chkL l = 0 then (textB l (nameVal nameB l), 0) else ([], chkL l)) := by
  obtain ⟨N1, h1⟩ := check_ev l hw
  by_cases hc : chkL l = 0
  · obtain ⟨N2, h2⟩ := value_ev l hw (right_order hc) nameB
    refine ⟨max (max N1 N2) 3, fun N hN => ?_⟩
    have h1 := check1_is N l _ (h1 N (by omega)) (by omega)
    have h2 := h2 N (by omega)
    simp only at h2
    show labels_Text N l = _
    unfold labels_Text
    rw [h1, h2, if_pos hc]
    simp only
    rw [if_pos hc, smallB_of hc]
  · refine ⟨max N1 3, fun N hN => ?_⟩
    have h1 := check1_is N l _ (h1 N (by omega)) (by omega)
    show labels_Text N l = _
    unfold labels_Text
    rw [h1, if_neg hc]
    simp only
    rw [if_neg hc]
/-! ### The reference -/
theorem join_snoc (ps : List (List UInt8)) (q : List UInt8) : Lib.join (ps ++ [q]) [44] = if ps = [] then q else Lib.join ps [44] ++ [44] ++ q := by
  cases ps with
  | nil => rw [if_pos rfl, List.nil_append, Lib.join_one]
  | cons p r =>
    rw [if_neg (by simp), List.cons_append, Lib.join_cons, Lib.join_cons]
    simp [Lib.joinTail]
theorem partOf_ne (z : VLabel) : partOf z ≠ [] := by unfold partOf; simp
theorem partsB_ne : ∀ (l : List VLabel), ∀ s ∈ partsB l, s ≠ []
  | [], s, h => by cases h
  | z :: r, s, h => by
    unfold partsB at h
    split at h
    · exact partsB_ne r s h
    · rcases List.mem_cons.1 h with rfl | h
      · exact partOf_ne z
      · exact partsB_ne r s h
theorem join_nil_iff {l : List VLabel} : Lib.join (partsB l) [44] = [] ↔ partsB l = [] := by
  have h := partsB_ne l
  cases hp : partsB l with
  | nil => simp [Lib.join_nil]
  | cons p r =>
    rw [hp] at h
    have := h p (by simp)
    rw [Lib.join_cons]
    simp [this]
theorem b2i_eq (c : UInt8) (k : Nat) (hk : k < 256) : (b2i c == b2i (UInt8.ofNat k)) = decide (c.toNat = k) := by
  have h : b2i (UInt8.ofNat k) = (k : Int) := by show ((UInt8.ofNat k).toNat : Int) = _; simp; omega
  rw [h]
  show (((c.toNat : Nat) : Int) == (k : Int)) = _
  by_cases hc : c.toNat = k
  · rw [hc]; simp
  · have : ¬ ((c.toNat : Nat) : Int) = (k : Int) := by omega
    simp [hc, this]
theorem escB_cons (c : UInt8) (r : List UInt8) : escB (c :: r) = esc1 c ++ escB r := by simp [escB]
theorem ref_esc (N : Nat) (k3 : List VLabel → List UInt8 → Int → Option (List UInt8)) (l : List VLabel) (i : Int) (z : VLabel) (hz : idxC l i = some z) (hv : z.Value.length ≤ 1000000) : ∀ (r p : List UInt8) (m : Nat) (x3 : List UInt8), z.Value = p ++ r → r.length < m → x3.length + 2 * r.length ≤ 100000000 → ref_TextOf_L10 N k3 m l x3 i (p.length : Int) = k3 l (x3 ++ escB r ++ [34]) (w64 (i + 1))
  | r, p, 0, x3, he, h, _ => by omega
  | [], p, m + 1, x3, he, h, hx => by
    unfold ref_TextOf_L10
    rw [hz, Option.bind_some, he, lt_end, cond_false, catC_is (by simp; simp at hx; omega), Option.bind_some]
    simp [escB]
  | c :: r, p, m + 1, x3, he, h, hx => by
    simp only [List.length_cons] at h hx
    have hlen : z.Value.length = p.length + (r.length + 1) := by rw [he]; simp
    have hn : w64 ((p.length : Int) + 1) = ((p.length + 1 : Nat) : Int) := by rw [w64_id (by omega) (by omega)]; omega
    have hsub : subC (p ++ c :: r) (p.length : Int) ((p.length + 1 : Nat) : Int) = some [c] := by
      unfold subC
      rw [if_pos ⟨by omega, by omega, by simp; omega⟩]
      refine congrArg some ?_
      have e1 : (((p.length + 1 : Nat) : Int) - (p.length : Int)).toNat = 1 := by omega
      have ht : (p ++ c :: r).take (p.length + 1) = p ++ [c] := by
        rw [show p ++ c :: r = (p ++ [c]) ++ r by simp]
        exact List.take_left' (by simp)
      simp [e1, ht]
    have hi : idxC [c] (0 : Int) = some c := rfl
    have ih : ∀ x3 : List UInt8, x3.length + 2 * r.length ≤ 100000000 → ref_TextOf_L10 N k3 m l x3 i ((p.length + 1 : Nat) : Int) = k3 l (x3 ++ escB r ++ [34]) (w64 (i + 1)) := fun x3 hx => by
      have := ref_esc N k3 l i z hz hv r (p ++ [c]) m x3 (by rw [he]; simp) (by omega) hx
      rw [List.length_append, List.length_singleton] at this
      exact this
    have h19 : ∀ q : List UInt8, q.length ≤ 2 → ref_TextOf_R19 N (ref_TextOf_L10 N k3 m) k3 m l x3 i (p.length : Int) q = k3 l (x3 ++ q ++ escB r ++ [34]) (w64 (i + 1)) := fun q hq => by
      unfold ref_TextOf_R19
      rw [catC_is (by omega), Option.bind_some, hn, ih _ (by rw [List.length_append]; omega)]
    have h16 : ref_TextOf_R16 N (ref_TextOf_L10 N k3 m) k3 m l x3 i (p.length : Int) [c] = k3 l (x3 ++ [92, c] ++ escB r ++ [34]) (w64 (i + 1)) := by
      unfold ref_TextOf_R16
      rw [catC_is (by simp), Option.bind_some]
      exact h19 [92, c] (by simp)
    have h92 := b2i_eq c 92 (by decide)
    have h34 := b2i_eq c 34 (by decide)
    have h10 := b2i_eq c 10 (by decide)
    have q92 : UInt8.ofNat 92 = 92 := rfl
    have q34 : UInt8.ofNat 34 = 34 := rfl
    have q10 : UInt8.ofNat 10 = 10 := rfl
    rw [q92] at h92; rw [q34] at h34; rw [q10] at h10
    have hc : ∀ k : Nat, k < 256 → c.toNat = k → c = UInt8.ofNat k := fun k hk e => by rw [← e]; simp
    unfold ref_TextOf_L10
    rw [hz, Option.bind_some, he, lt_cat, cond_true, Option.bind_some, he, hn, hsub, Option.bind_some, hi, Option.bind_some, h92, h34, h10, escB_cons]
    unfold esc1
    by_cases c92 : c.toNat = 92
    · have e := hc 92 (by decide) c92
      rw [decide_eq_true c92, cond_true, h16, if_neg (by omega), if_neg (by omega), if_pos c92, e]; simp
    · rw [decide_eq_false c92, cond_false]
      by_cases c34 : c.toNat = 34
      · have e := hc 34 (by decide) c34
        rw [decide_eq_true c34, cond_true, h16, if_neg (by omega), if_pos c34, e]; simp
      · rw [decide_eq_false c34, cond_false]
        by_cases c10 : c.toNat = 10
        · rw [decide_eq_true c10, cond_true, h19 _ (by simp), if_pos c10]; simp
        · rw [decide_eq_false c10, cond_false, h19 _ (by simp), if_neg c10, if_neg c34, if_neg c92]; simp
theorem ref_text (N : Nat) (l : List VLabel) (v : List UInt8) (hl : l.length ≤ 20) (hz : ∀ z ∈ l, z.Name.length ≤ 40 ∧ z.Value.length ≤ 100) (hv : v.length ≤ 100) (hval : ref_ValueOf N l nameB = some v) : ∀ (r p : List VLabel) (m : Nat), l = p ++ r → r.length + 200 < m → ref_TextOf_L3 N m l (Lib.join (partsB p) [44]) (p.length : Int) = some (textB l v)
  | r, p, 0, he, h => by omega
  | [], p, m + 1, he, h => by
    rw [List.append_nil] at he
    subst he
    have hj := join_small l hl hz
    have hlt : decide ((l.length : Int) < (l.length : Int)) = false := by simp
    unfold ref_TextOf_L3
    rw [hlt, cond_false]
    have hv' : ref_ValueOf N l [95, 95, 110, 97, 109, 101, 95, 95] = some v := hval
    rw [hv', Option.bind_some]
    have fin : ((catC v ([123] : List UInt8)).bind fun z4 => (catC z4 (Lib.join (partsB l) [44])).bind fun z5 => (catC z5 ([125] : List UInt8)).bind fun z6 => some z6) = some (v ++ [123] ++ Lib.join (partsB l) [44] ++ [125]) := by
      rw [catC_is (by simp; omega), Option.bind_some, catC_is (by simp; omega), Option.bind_some, catC_is (by simp; omega), Option.bind_some]
    by_cases hp : partsB l = []
    · rw [decide_eq_true (join_nil_iff.2 hp), cond_true]
      by_cases hv0 : v = []
      · rw [decide_eq_true hv0, Bool.not_true, cond_false, fin]
        unfold textB
        rw [if_neg (fun h => h.2 hv0)]
      · rw [decide_eq_false hv0, Bool.not_false, cond_true]
        unfold textB
        rw [if_pos ⟨hp, hv0⟩]
    · rw [decide_eq_false (fun h => hp (join_nil_iff.1 h)), cond_false, fin]
      unfold textB
      rw [if_neg (fun h => hp h.1)]
  | z :: r, p, m + 1, he, h => by
    have hzz := hz z (by rw [he]; simp)
    have hpl : p.length + 1 ≤ l.length := by rw [he]; simp
    have hps : ∀ y ∈ p, y.Name.length ≤ 40 ∧ y.Value.length ≤ 100 := fun y hy => hz y (by rw [he]; simp [hy])
    have hj := join_small p (by omega) hps
    have hnx : w64 ((p.length : Int) + 1) = ((p ++ [z]).length : Int) := w64_next p z (by omega)
    have ih := ref_text N l v hl hz hv hval r (p ++ [z]) m (by rw [he]; simp) (by simp only [List.length_cons] at h; omega)
    have hidx : idxC l (p.length : Int) = some z := by rw [he]; exact idxC_cat p z r
    have hlt : decide ((p.length : Int) < (l.length : Int)) = true := by rw [he]; exact lt_cat p z r
    unfold ref_TextOf_L3
    rw [hlt, cond_true, hidx, Option.bind_some]
    by_cases hn : z.Name = nameB
    · have hpp : partsB (p ++ [z]) = partsB p := by rw [partsB_app]; simp [partsB, hn]
      have hn' : z.Name = [95, 95, 110, 97, 109, 101, 95, 95] := hn
      rw [decide_eq_true hn', cond_true, hnx]
      rw [hpp] at ih
      exact ih
    · have hpp : partsB (p ++ [z]) = partsB p ++ [partOf z] := by rw [partsB_app]; simp [partsB, hn]
      have hn' : ¬ z.Name = [95, 95, 110, 97, 109, 101, 95, 95] := hn
      have h8 : ∀ x3 : List UInt8, x3.length ≤ 10000 → ref_TextOf_R8 N (ref_TextOf_L3 N m) m l x3 (p.length : Int) = ref_TextOf_L3 N m l (x3 ++ partOf z) ((p ++ [z]).length : Int) := fun x3 hx => by
        unfold ref_TextOf_R8
        rw [hidx, Option.bind_some, catC_is (by simp; omega), Option.bind_some, catC_is (by simp; omega), Option.bind_some]
        have := ref_esc N (ref_TextOf_L3 N m) l (p.length : Int) z hidx (by omega) z.Value [] m (x3 ++ (z.Name ++ [61, 34])) rfl (by simp only [List.length_cons] at h; omega) (by simp; omega)
        rw [hnx] at this
        refine Eq.trans this ?_
        congr 1
        unfold partOf
        simp
      rw [decide_eq_false hn', cond_false]
      rw [hpp, join_snoc] at ih
      by_cases hp : partsB p = []
      · rw [if_pos hp] at ih
        have h0 : Lib.join (partsB p) [44] = [] := join_nil_iff.2 hp
        rw [h0, decide_eq_true rfl, Bool.not_true, cond_false, h8 _ (by simp)]
        exact ih
      · rw [if_neg hp] at ih
        have h0 : ¬ Lib.join (partsB p) [44] = [] := fun h => hp (join_nil_iff.1 h)
        rw [decide_eq_false h0, Bool.not_false, cond_true, catC_is (by simp; omega), Option.bind_some, h8 _ (by simp; omega)]
        exact ih
theorem refText_ev (l : List VLabel) (hw : WLab l) (hc : chkL l = 0) : Ev (fun N => ref_TextOf N l) (textB l (nameVal nameB l)) := by
  obtain ⟨h1, h2⟩ := right_labels hc
  obtain ⟨N1, hv⟩ := refValue_ev l hw nameB
  refine ⟨max N1 300, fun N hN => ?_⟩
  show ref_TextOf N l = _
  unfold ref_TextOf
  exact ref_text N l _ h1 h2 (nameVal_le fun z hz => (h2 z hz).2) (hv N (by omega)) l [] N rfl (by omega)
/-! ### The law -/
theorem textIs_is (N : Nat) (s : List UInt8) (e : Int) : law_textIs N (if e = 0 then s else []) e e (if e = 0 then s else []) = some true := by
  unfold law_textIs law_textIs_R3
  by_cases h : e = 0
  · subst h; simp
  · have : (e != 0) = true := by simpa using h
    rw [this, cond_true, if_neg h]; simp
theorem labelsTexts_ev (l : List VLabel) (hw : WLab l) : Ev (fun N => law_LabelsTexts N l) true := by
  obtain ⟨N1, h1⟩ := text_ev l hw
  obtain ⟨N2, h2⟩ := refCheck_ev l hw
  obtain ⟨N3, h3⟩ := labelsBegun_ev
  by_cases hc : chkL l = 0
  · obtain ⟨N4, h4⟩ := refText_ev l hw hc
    refine ⟨max (max N1 N2) (max N3 N4), fun N hN => ?_⟩
    have h1 := h1 N (by omega)
    have h2 := h2 N (by omega)
    have h3 := h3 N (by omega)
    have h4 := h4 N (by omega)
    simp only at h1 h2 h4
    rw [if_pos hc] at h1
    show law_LabelsTexts N l = _
    unfold law_LabelsTexts
    rw [h1, Option.bind_some, h2, Option.bind_some, hc]
    rw [show ((0 : Int) == 0) = true from rfl, cond_true, h4, Option.bind_some]
    unfold law_LabelsTexts_R5
    rw [h3, Option.bind_some, cond_true]
    have := textIs_is N (textB l (nameVal nameB l)) 0
    simp only [if_true] at this
    rw [this]; rfl
  · refine ⟨max (max N1 N2) N3, fun N hN => ?_⟩
    have h1 := h1 N (by omega)
    have h2 := h2 N (by omega)
    have h3 := h3 N (by omega)
    simp only at h1 h2
    rw [if_neg hc] at h1
    have hc1 : (chkL l == 0) = false := by simpa using hc
    show law_LabelsTexts N l = _
    unfold law_LabelsTexts
    rw [h1, Option.bind_some, h2, Option.bind_some, hc1, cond_false]
    unfold law_LabelsTexts_R5
    rw [h3, Option.bind_some, cond_true]
    have := textIs_is N [] (chkL l)
    simp only [if_neg hc] at this
    rw [this]; rfl
end Go.Proofs.Ytgmlkhfjhogdbaa
