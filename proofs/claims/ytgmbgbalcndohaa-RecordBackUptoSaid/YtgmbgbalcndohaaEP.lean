-- slim: written by gen/slim.py from XEP.r.lean.tpl
/- What the plain functions come to: reading what is packed, step by step. -/
import Derived.Test.YtgmbgbalcndohaaEW
import Derived.Test.YtgmbgbalcndohaaFR1p
namespace Go.Proofs.Ytgmbgbalcndohaa
open Go.RowKit P
set_option linter.unusedVariables false
set_option linter.unusedSimpArgs false
def wrongP : Value := Value.iface 54 (.agg #[])
/-- A number that is written as short as can be. -/
def numR (s : List UInt8) : Option (Nat × List UInt8) := if (rd s).2.2 = 0 ∧ (rd s).1 ≤ 4611686018427387904 ∧ num (rd s).1 = s.take (rd s).2.1 then some ((rd s).1, s.drop (rd s).2.1) else none
theorem numR_some {s t : List UInt8} {n : Nat} (h : numR s = some (n, t)) : s = num n ++ t ∧ n ≤ 4611686018427387904 := by
  unfold numR at h
  split at h
  · rename_i hc
    cases h
    exact ⟨by rw [hc.2.2, List.take_append_drop], hc.2.1⟩
  · cases h
theorem numR_num {n : Nat} (h : n ≤ 4611686018427387904) (t : List UInt8) : numR (num n ++ t) = some (n, t) := by
  unfold numR
  rw [rd_num (by omega) t]
  rw [if_pos ⟨rfl, h, by simp⟩]
  simp
theorem num_pos (n : Nat) : 1 ≤ (num n).length := by
  have := num_ne n
  cases h : num n with
  | nil => exact absurd h this
  | cons a b => simp
theorem numR_len {s t : List UInt8} {n : Nat} (h : numR s = some (n, t)) : t.length < s.length := by
  have h1 := (numR_some h).1
  have := num_pos n
  rw [h1, List.length_append]; omega
theorem subC_pre (s : List UInt8) (k : Nat) (h : k ≤ s.length) : subC s 0 (k : Int) = some (s.take k) := by
  unfold subC
  rw [if_pos ⟨by omega, by omega, by omega⟩]; simp
theorem subC_suf (s : List UInt8) (k : Nat) (h : k ≤ s.length) : subC s (k : Int) (s.length : Int) = some (s.drop k) := by
  unfold subC
  rw [if_pos ⟨by omega, by omega, by omega⟩]; simp
theorem w64_nat {n : Nat} (h : n ≤ 4611686018427387904) : w64 (n : Int) = n := w64_id (by omega) (by omega)
def numP (s : List UInt8) : PR (Int × Vreader) := match numR s with
  | some (n, t) => .ok ((n : Int), ⟨t⟩)
  | none => .pan wrongP
theorem number_is (N : Nat) (s : List UInt8) (hs : s.length ≤ 1048576) : record_reader_number_i0 N ⟨s⟩ = some (numP s) := by
  unfold record_reader_number_i0 wire_ReadNumber record_reader_number_i0_R3
  rw [if_pos (show s.length ≤ 140737488355328 by omega), Option.bind_some]
  obtain ⟨⟨n, k, e⟩, h⟩ : ∃ r, rd s = r := ⟨_, rfl⟩
  unfold numP numR num3
  rw [h]
  by_cases he : e = 0
  · subst he
    obtain ⟨f1, f2, f3, f4⟩ := rd_fine h
    by_cases hn : n ≤ 4611686018427387904
    · have hw : wire_Number N (n : Int) = some (num n) := by
        unfold wire_Number
        rw [if_pos ⟨by omega, by omega⟩]; simp
      have c2 : decide ((n : Int) > 4611686018427387904) = false := by simp; omega
      simp only [Int.natCast_zero, bne_self_eq_false, cond_false, c2, hw, Option.bind_some, subC_pre s k f2]
      by_cases hq : num n = s.take k
      · simp only [hq, decide_true, Bool.not_true, cond_false, subC_suf s k f2, Option.bind_some, w64_nat hn, true_and, hn, if_true]
      · simp only [hq, decide_false, Bool.not_false, cond_true, true_and, hn, if_false]; rfl
    · have c2 : decide ((n : Int) > 4611686018427387904) = true := by simp; omega
      simp only [Int.natCast_zero, bne_self_eq_false, cond_false, c2, cond_true, hn, false_and, and_false, if_false]; rfl
  · have c1 : (((e : Nat) : Int) != 0) = true := by simp; omega
    simp only [c1, cond_true, he, false_and, if_false]; rfl
/-- So many bytes. -/
def takeR (n : Nat) (s : List UInt8) : Option (List UInt8 × List UInt8) := if n ≤ s.length then some (s.take n, s.drop n) else none
theorem takeR_some {n : Nat} {s a t : List UInt8} (h : takeR n s = some (a, t)) : s = a ++ t ∧ a.length = n := by
  unfold takeR at h
  split at h
  · rename_i hn
    cases h; exact ⟨(List.take_append_drop n s).symm, List.length_take.trans (Nat.min_eq_left hn)⟩
  · cases h
theorem takeR_cat (a t : List UInt8) : takeR a.length (a ++ t) = some (a, t) := by
  unfold takeR
  rw [if_pos (by simp)]; simp
theorem take_is (N : Nat) (n : Nat) (s : List UInt8) (hs : s.length ≤ 1048576) : record_reader_take_i0 N (n : Int) ⟨s⟩ = some (match takeR n s with
    | some (a, t) => .ok (a, ⟨t⟩)
    | none => .pan wrongP) := by
  unfold record_reader_take_i0 record_reader_take_i0_R2 takeR
  have c1 : decide ((n : Int) < 0) = false := by simp
  simp only [c1, cond_false]
  by_cases hn : n ≤ s.length
  · have c2 : decide ((n : Int) > (s.length : Int)) = false := by simp; omega
    simp only [c2, cond_false, subC_pre s n hn, subC_suf s n hn, Option.bind_some, if_pos hn]
  · have c2 : decide ((n : Int) > (s.length : Int)) = true := by simp; omega
    simp only [c2, cond_true, if_neg hn]; rfl
/-- A text with its length ahead. -/
def textR (s : List UInt8) : Option (List UInt8 × List UInt8) := (numR s).bind fun p => takeR p.1 p.2
theorem textR_len {s a t : List UInt8} (h : textR s = some (a, t)) : t.length < s.length := by
  obtain ⟨⟨n, u⟩, h1, h2⟩ := Option.bind_eq_some_iff.1 h
  have h3 := numR_len h1
  have h4 := congrArg List.length (takeR_some h2).1
  simp only [List.length_append] at h4
  omega
theorem text_is (N : Nat) (s : List UInt8) (hs : s.length ≤ 1048576) : record_reader_text_i0 N ⟨s⟩ = some (match textR s with
    | some (a, t) => .ok (a, ⟨t⟩)
    | none => .pan wrongP) := by
  unfold record_reader_text_i0 textR
  rw [number_is N s hs, Option.bind_some]
  unfold numP
  cases h : numR s with
  | none => rfl
  | some p =>
    obtain ⟨n, t⟩ := p
    have hl := numR_len h
    simp only [Option.bind_some]
    rw [take_is N n t (by omega), Option.bind_some]
    cases takeR n t with
    | none => rfl
    | some q => rfl
end Go.Proofs.Ytgmbgbalcndohaa
