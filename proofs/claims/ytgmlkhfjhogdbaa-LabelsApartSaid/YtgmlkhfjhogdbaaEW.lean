-- slim: written by gen/slim.py from XEW.f.lean.tpl
/- What the plain functions come to: labels and shards, checked. -/
import Derived.Test.YtgmlkhfjhogdbaaEV
namespace Go.Proofs.Ytgmlkhfjhogdbaa
open Go.RowKit P
set_option linter.unusedVariables false
set_option linter.unusedSimpArgs false

def adjB : List VLabel → Bool
  | a :: b :: r => !Op.bytesLess b.Name a.Name && adjB (b :: r)
  | _ => true
theorem adjB_snoc : ∀ (p : List VLabel) (a b : VLabel), adjB (p ++ [a, b]) = (adjB (p ++ [a]) && !Op.bytesLess b.Name a.Name)
  | [], a, b => by simp [adjB]
  | [x], a, b => by simp [adjB, Bool.and_assoc]
  | x :: y :: p, a, b => by
    have ih := adjB_snoc (y :: p) a b
    simp only [List.cons_append] at ih ⊢
    simp only [adjB, ih, Bool.and_assoc]
theorem byName_is (N : Nat) (a b : VLabel) : (labels_byName N a b).bind (fun z => some (decide (z < 0))) = some (Op.bytesLess a.Name b.Name) := by
  unfold labels_byName cmp_Compare_string_ cmp_isNaN_string_
  simp only [Option.bind_some, decide_true, Bool.not_true, cond_false]
  cases Op.bytesLess a.Name b.Name with
  | true => simp
  | false =>
    simp only [cond_false, Bool.false_or]
    by_cases h : a.Name = b.Name
    · simp [h]
    · simp [h]
theorem byName_get (N : Nat) (a b : VLabel) : ∃ z, labels_byName N a b = some z ∧ decide (z < 0) = Op.bytesLess a.Name b.Name := by
  have h := byName_is N a b
  cases hz : labels_byName N a b with
  | none => rw [hz] at h; cases h
  | some z => rw [hz] at h; exact ⟨z, rfl, by simpa using h⟩
theorem sorted_loop (N : Nat) (l : List VLabel) (hl : l.length < 140737488355328) : ∀ (i n : Nat), i < n → i < l.length → slices_IsSortedFunc_api_Label_api_Label__i0_L2 N n l (i : Int) = some (adjB (l.take (i + 1)))
  | i, 0, h, _ => by omega
  | 0, n + 1, _, hi => by
    unfold slices_IsSortedFunc_api_Label_api_Label__i0_L2
    cases l with
    | nil => simp at hi
    | cons a l => simp [adjB]
  | i + 1, n + 1, h, hi => by
    have ih := sorted_loop N l hl i n (by omega) (by omega)
    obtain ⟨z, hz1, hz2⟩ := byName_get N (l[i + 1]'hi) (l[i]'(by omega))
    unfold slices_IsSortedFunc_api_Label_api_Label__i0_L2
    have h1 : decide (((i + 1 : Nat) : Int) > 0) = true := decide_eq_true (by omega)
    have h2 : w64 (((i + 1 : Nat) : Int) - 1) = (i : Int) := by rw [w64_id (by omega) (by omega)]; omega
    rw [h1, cond_true, idxC_get hi, Option.bind_some, h2, idxC_get (by omega), Option.bind_some, hz1, Option.bind_some, hz2, ih]
    have h3 : l.take (i + 1 + 1) = l.take i ++ [l[i]'(by omega), l[i + 1]'hi] := by
      rw [List.take_succ_eq_append_getElem hi, List.take_succ_eq_append_getElem (by omega : i < l.length), List.append_assoc]; rfl
    have h4 : l.take (i + 1) = l.take i ++ [l[i]'(by omega)] := List.take_succ_eq_append_getElem (by omega)
    rw [h3, adjB_snoc, ← h4]
    cases Op.bytesLess (l[i + 1]'hi).Name (l[i]'(by omega)).Name <;> simp
theorem sorted_ev (l : List VLabel) (hl : l.length < 140737488355328) : Ev (fun N => slices_IsSortedFunc_api_Label_api_Label__i0 N l) (adjB l) := ⟨l.length + 1, fun N hN => by
  show slices_IsSortedFunc_api_Label_api_Label__i0 N l = _
  unfold slices_IsSortedFunc_api_Label_api_Label__i0
  cases l with
  | nil =>
    have : w64 ((([] : List VLabel).length : Int) - 1) = -1 := by rw [w64_id] <;> simp
    rw [this]
    cases N with
    | zero => omega
    | succ n =>
      unfold slices_IsSortedFunc_api_Label_api_Label__i0_L2
      simp [adjB]
  | cons a l =>
    have : w64 ((((a :: l).length : Nat) : Int) - 1) = (l.length : Int) := by
      have h1 : ((a :: l).length : Int) = (l.length : Int) + 1 := by simp
      rw [w64_id (by simp only [List.length_cons] at hl; omega) (by simp only [List.length_cons] at hl; omega)]; omega
    rw [this, sorted_loop N (a :: l) hl l.length N (by simp only [List.length_cons] at hN; omega) (by simp)]
    simp⟩
def chkL (l : List VLabel) : Int := if eachB false l = 0 then (if adjB l then 0 else 4) else eachB false l
theorem check_ev (l : List VLabel) (hw : WLab l) : Ev (fun N => labels_Check N l) (chkL l) := by
  obtain ⟨N1, h1⟩ := eachB_ev false l hw
  obtain ⟨N2, h2⟩ := sorted_ev l hw.1
  refine ⟨max N1 N2, fun N hN => ?_⟩
  show labels_Check N l = _
  have h1 := h1 N (by omega)
  have h2 := h2 N (by omega)
  simp only at h1 h2
  unfold labels_Check chkL
  rw [h1, Option.bind_some, h2, Option.bind_some]
  by_cases h : eachB false l = 0
  · rw [if_pos h, h]; cases adjB l <;> simp
  · rw [if_neg h]
    have : (eachB false l != 0) = true := by simpa using h
    rw [this]; rfl
end Go.Proofs.Ytgmlkhfjhogdbaa
