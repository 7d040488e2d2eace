-- slim: written by gen/slim.py from XEH.f.lean.tpl
/- What labels.Text and the reference's TextOf come to. -/
import Derived.Test.YtgmlkhfjhogdbaaEG
namespace Go.Proofs.Ytgmlkhfjhogdbaa
open Go.RowKit P
set_option linter.unusedVariables false
set_option linter.unusedSimpArgs false
theorem check1_is (N : Nat) (l : List VLabel) (e : Int) (h : labels_Check N l = some e) (hN : 3 ≤ N) : labels_check N [l] = some e := by
  unfold labels_check
  have key : ∀ m, labels_check_L2 N (m + 2) [l] 1 0 = some e := fun m => by
    rw [labels_check_L2]
    have e0 : decide ((0 : Int) < 1) = true := rfl
    have e1 : idxC [l] 0 = some l := rfl
    rw [e0, cond_true, e1, Option.bind_some, h, Option.bind_some]
    by_cases he : e = 0
    · have e2 : (e != 0) = false := by simpa using he
      rw [e2, cond_false, labels_check_L2, w64_id (by omega) (by omega)]
      have e3 : decide ((0 : Int) + 1 < 1) = false := rfl
      rw [e3, cond_false, he]
    · have e2 : (e != 0) = true := by simpa using he
      rw [e2, cond_true]
  have := key (N - 2)
  rw [show N - 2 + 2 = N by omega] at this
  exact this
theorem each_small {l : List VLabel} (h : chkL l = 0) : l.length ≤ 20 := by
  unfold chkL at h
  split at h
  · rename_i he
    unfold eachB at he
    split at he
    · omega
    · omega
  · rename_i he; exact absurd h he
theorem eachF_none {e : Bool} : ∀ {l : List VLabel}, eachF e l = none → ∀ z ∈ l, isNameL z.Name = true ∧ z.Value.length ≤ 100
  | [], _, z, hz => by cases hz
  | y :: r, h, z, hz => by
    unfold eachF at h
    split at h
    · cases h
    · rename_i h1
      split at h
      · cases h
      · split at h
        · cases h
        · rename_i h3
          rcases List.mem_cons.1 hz with rfl | hz
          · exact ⟨by simpa using h1, by omega⟩
          · exact eachF_none h z hz
theorem right_labels {l : List VLabel} (h : chkL l = 0) : l.length ≤ 20 ∧ ∀ z ∈ l, z.Name.length ≤ 40 ∧ z.Value.length ≤ 100 := by
  refine ⟨each_small h, fun z hz => ?_⟩
  have h1 : eachB false l = 0 := by
    unfold chkL at h
    split at h
    · assumption
    · exact h
  unfold eachB at h1
  split at h1
  · omega
  · cases hf : eachF false l with
    | some e =>
      rw [hf] at h1
      simp only [Option.getD_some] at h1
      exfalso
      have : ∀ {l : List VLabel} {e : Int}, eachF false l = some e → e ≠ 0 := by
        intro l
        induction l with
        | nil => intro e h; cases h
        | cons y r ih =>
          intro e h
          unfold eachF at h
          split at h
          · cases h; decide
          · split at h
            · cases h; decide
            · split at h
              · cases h; decide
              · exact ih h
      exact this hf h1
    | none =>
      obtain ⟨q1, q2⟩ := eachF_none hf z hz
      unfold isNameL at q1
      simp only [Bool.and_eq_true, decide_eq_true_eq] at q1
      exact ⟨q1.2, q2⟩


theorem right_order {l : List VLabel} (h : chkL l = 0) : adjB l = true := by
  unfold chkL at h
  split at h
  · by_cases ha : adjB l = true
    · exact ha
    · rw [if_neg ha] at h; cases h
  · rename_i he; exact absurd h he
theorem nameVal_le {s : List UInt8} {b : Nat} : ∀ {l : List VLabel}, (∀ z ∈ l, z.Value.length ≤ b) → (nameVal s l).length ≤ b
  | [], _ => by simp [nameVal]
  | z :: r, h => by
    unfold nameVal
    split
    · exact h z (by simp)
    · exact nameVal_le fun y hy => h y (by simp [hy])
theorem smallB_of {l : List VLabel} (h : chkL l = 0) : smallB l (nameVal nameB l) = true := by
  obtain ⟨h1, h2⟩ := right_labels h
  have h3 : (nameVal nameB l).length ≤ 100 := nameVal_le fun z hz => (h2 z hz).2
  unfold smallB
  simp only [Bool.and_eq_true, decide_eq_true_eq, List.all_eq_true]
  exact ⟨h1, h3, h2⟩
theorem text_ev (l : List VLabel) (hw : WLab l) : Ev (fun N => labels_Text N l) (if chkL l = 0 then (textB l (nameVal nameB l), 0) else ([], chkL l)) := by
  obtain ⟨N1, h1⟩ := check_ev l hw
  by_cases hc : chkL l = 0
  · obtain ⟨N2, h2⟩ := value_ev l hw (right_order hc) nameB
    refine ⟨max (max N1 N2) 3, fun N hN => ?_⟩
    have h1 := check1_is N l _ (h1 N (by omega)) (by omega)
    have h2 := h2 N (by omega)
    simp only at h2
    show labels_Text N l = _
    unfold labels_Text
    rw [h1, h2, if_pos hc]
    simp only
    rw [if_pos hc, smallB_of hc]
  · refine ⟨max N1 3, fun N hN => ?_⟩
    have h1 := check1_is N l _ (h1 N (by omega)) (by omega)
    show labels_Text N l = _
    unfold labels_Text
    rw [h1, if_neg hc]
    simp only
    rw [if_neg hc]
/-! ### The reference -/
theorem escB_cons (c : UInt8) (r : List UInt8) : escB (c :: r) = esc1 c ++ escB r := by simp [escB]
/-! ### The law -/
end Go.Proofs.Ytgmlkhfjhogdbaa
