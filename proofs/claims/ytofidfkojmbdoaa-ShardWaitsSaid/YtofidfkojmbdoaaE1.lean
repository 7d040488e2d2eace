/- What the plain functions come to: series, checked and written by the reference. -/
import Derived.Test.YtofidfkojmbdoaaEZ
namespace Go.Proofs.Ytofidfkojmbdoaa
open Go.RowKit P
set_option linter.unusedVariables false
set_option linter.unusedSimpArgs false

theorem idxC_at {α : Type} (P : List α) (s : α) (R : List α) : idxC (P ++ s :: R) (P.length : Int) = some s := idxC_cat P s R
theorem ltL (a b : Nat) : decide ((a : Int) < (b : Int)) = decide (a < b) := by congr 1; apply propext; omega
theorem ref7_many (N : Nat) (k : List VSeries → Int → Option Bool) (P R : List VSeries) (s : VSeries) (hP : P.length < 1000000000) : ∀ (r p : List VLabel) (n : Nat), s.Labels = p ++ r → s.Labels.length ≤ 1000 → r.length < n → ref_TooMany_L7 N k n (P ++ s :: R) (P.length : Int) (p.length : Int) = if r.any longL then some true else k (P ++ s :: R) ((P.length + 1 : Nat) : Int)
  | r, p, 0, _, _, h => by omega
  | [], p, n + 1, hs, hl, h => by
    unfold ref_TooMany_L7
    rw [idxC_at, Option.bind_some, hs, lt_end, cond_false, w64_id (by omega) (by omega)]; simp
  | z :: r, p, n + 1, hs, hl, h => by
    have hp := hl
    rw [hs] at hp
    simp only [List.length_append, List.length_cons] at hp
    have ih := ref7_many N k P R s hP r (p ++ [z]) n (by rw [← cat_next]; exact hs) hl (by simp only [List.length_cons] at h; omega)
    unfold ref_TooMany_L7
    simp only [idxC_at, Option.bind_some, hs]
    rw [lt_cat, cond_true]
    rw [w64_next p z (by omega), ih]
    rw [show decide ((z.Name.length : Int) > 20000) = decide (z.Name.length > 20000) from gtI _ 20000, show decide ((z.Value.length : Int) > 20000) = decide (z.Value.length > 20000) from gtI _ 20000]
    simp only [List.any_cons, longL]
    by_cases h1 : z.Name.length > 20000
    · simp [h1]
    · by_cases h2 : z.Value.length > 20000
      · simp [h1, h2]
      · simp [h1, h2]
theorem ref2_many (N : Nat) : ∀ (r p : List VSeries) (n : Nat), (p ++ r).length < 1000000000 → r.length + 25 < n → ref_TooMany_L2 N n (p ++ r) (p.length : Int) = some (r.any manyS || decide ((p ++ r).length > 200))
  | r, p, 0, _, h => by omega
  | [], p, n + 1, hl, h => by
    unfold ref_TooMany_L2
    rw [lt_end, cond_false, show decide (((p ++ ([] : List VSeries)).length : Int) > 200) = decide ((p ++ ([] : List VSeries)).length > 200) from gtI _ 200]
    simp
  | s :: r, p, n + 1, hl, h => by
    have hp := hl
    simp only [List.length_append, List.length_cons] at hp
    have ih := ref2_many N r (p ++ [s]) n (by rw [← cat_next]; exact hl) (by simp only [List.length_cons] at h; omega)
    rw [← cat_next] at ih
    unfold ref_TooMany_L2
    rw [lt_cat, cond_true, idxC_cat]
    simp only [Option.bind_some]
    rw [show decide ((s.Labels.length : Int) > 20) = decide (s.Labels.length > 20) from gtI _ 20, show decide ((s.Samples.length : Int) > 200) = decide (s.Samples.length > 200) from gtI _ 200]
    simp only [List.any_cons, manyS]
    by_cases h1 : s.Labels.length > 20
    · simp [h1]
    · by_cases h2 : s.Samples.length > 200
      · simp [h1, h2]
      · have h9 := ref7_many N (ref_TooMany_L2 N n) p r s (by omega) s.Labels [] n (by simp) (by omega) (by simp only [List.length_cons] at h; omega)
        rw [show (([] : List VLabel).length : Int) = 0 from rfl] at h9
        have e1 : ((p.length + 1 : Nat) : Int) = ((p ++ [s]).length : Int) := by simp
        rw [e1, ih] at h9
        simp only [decide_eq_false h1, decide_eq_false h2, cond_false, Bool.false_or, h9]
        by_cases h3 : s.Labels.any longL = true
        · simp [h3]
        · rw [Bool.not_eq_true] at h3; simp [h3]
theorem refMany_is (N : Nat) (l : List VSeries) (hl : l.length < 1000000000) (hN : l.length + 30 ≤ N) : ref_TooMany N l = some (manyB l) := by
  unfold ref_TooMany manyB
  have := ref2_many N l [] N (by simpa using hl) (by omega)
  rw [List.nil_append, show (([] : List VSeries).length : Int) = 0 from rfl] at this
  rw [this, Bool.or_comm]
theorem ref7_times (N : Nat) (k : List VSeries → Int → Option Int) (P R : List VSeries) (s : VSeries) (hP : P.length < 1000000000) : ∀ (r p : List VSample) (n : Nat), s.Samples = p ++ r → s.Samples.length ≤ 1000 → r.length < n → ref_CheckSeries_L7 N k n (P ++ s :: R) (P.length : Int) (p.length : Int) = if r.all (fun x => timeB x.Time) then k (P ++ s :: R) ((P.length + 1 : Nat) : Int) else some 3
  | r, p, 0, _, _, h => by omega
  | [], p, n + 1, hs, hl, h => by
    unfold ref_CheckSeries_L7
    rw [idxC_at, Option.bind_some, hs, lt_end, cond_false, w64_id (by omega) (by omega)]; simp
  | z :: r, p, n + 1, hs, hl, h => by
    have hp := hl
    rw [hs] at hp
    simp only [List.length_append, List.length_cons] at hp
    have ih := ref7_times N k P R s hP r (p ++ [z]) n (by rw [← cat_next]; exact hs) hl (by simp only [List.length_cons] at h; omega)
    unfold ref_CheckSeries_L7
    simp only [idxC_at, Option.bind_some, hs, refIsTime_is]
    rw [lt_cat, cond_true]
    rw [w64_next p z (by omega), ih]
    simp only [List.all_cons]
    by_cases hq : timeB z.Time = true
    · simp [hq]
    · rw [Bool.not_eq_true] at hq; simp [hq]
theorem ref4_times (N : Nat) : ∀ (r p : List VSeries) (n : Nat), (p ++ r).length < 1000000000 → (∀ s ∈ r, s.Samples.length ≤ 200) → r.length + 205 < n → ref_CheckSeries_L4 N n (p ++ r) (p.length : Int) = some (if r.all timesS then 0 else 3)
  | r, p, 0, _, _, h => by omega
  | [], p, n + 1, hl, hs, h => by
    unfold ref_CheckSeries_L4
    rw [lt_end]; rfl
  | s :: r, p, n + 1, hl, hs, h => by
    have hp := hl
    simp only [List.length_append, List.length_cons] at hp
    have ih := ref4_times N r (p ++ [s]) n (by rw [← cat_next]; exact hl) (fun y hy => hs y (List.mem_cons_of_mem _ hy)) (by simp only [List.length_cons] at h; omega)
    rw [← cat_next] at ih
    have hs0 := hs s List.mem_cons_self
    have h5 := ref7_times N (ref_CheckSeries_L4 N n) p r s (by omega) s.Samples [] n (by simp) (by omega) (by simp only [List.length_cons] at h; omega)
    have e1 : ((p.length + 1 : Nat) : Int) = ((p ++ [s]).length : Int) := by simp
    rw [show (([] : List VSample).length : Int) = 0 from rfl, e1, ih] at h5
    unfold ref_CheckSeries_L4
    rw [lt_cat, cond_true, h5]
    simp only [List.all_cons, timesS]
    by_cases h3 : s.Samples.all (fun x => timeB x.Time) = true
    · simp [h3]
    · rw [Bool.not_eq_true] at h3; simp [h3]
theorem refCheckW_is (N : Nat) (l : List VSeries) (hl : l.length < 1000000000) (hN : l.length + 500 ≤ N) : ref_CheckSeries N l = some (checkW l) := by
  unfold ref_CheckSeries checkW
  rw [refMany_is N l hl (by omega), Option.bind_some]
  cases hm : manyB l with
  | true => simp
  | false =>
    obtain ⟨h1, h2⟩ := few_of hm
    have := ref4_times N l [] N (by simp; omega) (fun s hs => (h2 s hs).2.1) (by omega)
    rw [List.nil_append, show (([] : List VSeries).length : Int) = 0 from rfl] at this
    rw [this]; simp
theorem refW15_is (N : Nat) (hN : 10 < N) (k : List VSeries → List UInt8 → Int → Option (List UInt8 × Int)) (out : List UInt8) (P R : List VSeries) (s : VSeries) (hP : P.length < 1000000000) (ho : out.length ≤ 20000) : ∀ (r p : List VSample) (n : Nat) (acc : List UInt8), s.Samples = p ++ r → s.Samples.length ≤ 1000 → (∀ x ∈ r, WSmp x) → acc.length + 41 * r.length ≤ 100000000 → r.length < n →
    ref_WriteOf_L15 N k n (P ++ s :: R) out (P.length : Int) acc (p.length : Int) = if (out ++ fieldB 1 (acc ++ smsB r)).length > 20000 then some ([], 2) else k (P ++ s :: R) (out ++ fieldB 1 (acc ++ smsB r)) ((P.length + 1 : Nat) : Int)
  | r, p, 0, acc, _, _, _, _, h => by omega
  | [], p, n + 1, acc, hsp, hl, hs, ha, h => by
    have ha' : acc.length ≤ 100000000 := by simpa using ha
    have hf := fieldB_len (k := 1) (by omega) (s := acc) (by omega)
    have hfi : ref_fieldOf N 1 acc = some (fieldB 1 acc) := refField_is N 1 (.inl rfl) acc (by omega) hN
    unfold ref_WriteOf_L15
    rw [idxC_at, Option.bind_some, hsp, lt_end, cond_false, hfi, Option.bind_some, catC_is (by omega), Option.bind_some, w64_id (by omega) (by omega)]
    simp only [smsB, List.flatMap_nil, List.append_nil]
    rw [show decide (((out ++ fieldB 1 acc).length : Int) > 20000) = decide ((out ++ fieldB 1 acc).length > 20000) from gtI _ 20000]
    by_cases hq : (out ++ fieldB 1 acc).length > 20000
    · rw [if_pos hq, decide_eq_true hq]; rfl
    · rw [if_neg hq, decide_eq_false hq]; rfl
  | z :: r, p, n + 1, acc, hsp, hl, hs, ha, h => by
    have hp := hl
    rw [hsp] at hp
    simp only [List.length_append, List.length_cons] at hp ha
    obtain ⟨b0, b1, t0, t1⟩ := hs z List.mem_cons_self
    have hb := smB_len z
    have hsl := sampleB_len z
    have ih := refW15_is N hN k out P R s hP ho r (p ++ [z]) n (acc ++ smB z) (by rw [← cat_next]; exact hsp) hl (fun y hy => hs y (List.mem_cons_of_mem _ hy)) (by simp; omega) (by simp only [List.length_cons] at h; omega)
    have hbits : z.Bits = (z.Bits.toNat : Int) := by omega
    have hw : ref_Word N z.Bits = some (wordF 8 z.Bits.toNat) := by rw [hbits]; exact refWord_is N _ (by omega) hN
    have hwl := wordF_len 8 z.Bits.toNat
    have hnu := num_len10 (uns_lt z.Time)
    have hn : ref_NumberOf N (uns z.Time : Int) = some (num (uns z.Time)) := refNumber_is N _ (uns_lt _) hN
    have h16 : num 16 = [16] := by rw [num_small (by decide)]; rfl
    have hsb : [9] ++ wordF 8 z.Bits.toNat ++ [16] ++ num (uns z.Time) = sampleB z := by unfold sampleB; rw [h16]
    have hfi : ref_fieldOf N 2 (sampleB z) = some (smB z) := refField_is N 2 (.inr rfl) (sampleB z) (by omega) hN
    unfold ref_WriteOf_L15
    simp only [idxC_at, Option.bind_some, hsp]
    rw [lt_cat, cond_true, hw, Option.bind_some, catC_is (by simp [hwl]), Option.bind_some, catC_is (by simp [hwl]), Option.bind_some, refUns_is N z.Time t0 t1, Option.bind_some, hn, Option.bind_some, catC_is (by simp [hwl]; omega), Option.bind_some, hsb, hfi, Option.bind_some, catC_is (by omega), Option.bind_some, w64_next p z (by omega), ih]
    simp only [smsB, List.flatMap_cons, List.append_assoc]
theorem refW10_is (N : Nat) (hN : 10 < N) (k : List VSeries → List UInt8 → Int → Option (List UInt8 × Int)) (out : List UInt8) (P R : List VSeries) (s : VSeries) (hP : P.length < 1000000000) (ho : out.length ≤ 20000) (hss : s.Samples.length ≤ 200) (hsm : ∀ x ∈ s.Samples, WSmp x) : ∀ (r p : List VLabel) (n : Nat) (acc : List UInt8), s.Labels = p ++ r → s.Labels.length ≤ 1000 → (∀ x ∈ r, x.Name.length ≤ 20000 ∧ x.Value.length ≤ 20000) → acc.length + 40036 * r.length ≤ 90000000 → r.length + 201 < n →
    ref_WriteOf_L10 N k n (P ++ s :: R) out (P.length : Int) acc (p.length : Int) = if (out ++ fieldB 1 (acc ++ lbsB r ++ smsB s.Samples)).length > 20000 then some ([], 2) else k (P ++ s :: R) (out ++ fieldB 1 (acc ++ lbsB r ++ smsB s.Samples)) ((P.length + 1 : Nat) : Int)
  | r, p, 0, acc, _, _, _, _, h => by omega
  | [], p, n + 1, acc, hsp, hl, hs, ha, h => by
    simp only [List.length_nil, Nat.mul_zero, Nat.add_zero] at ha
    have h15 := refW15_is N hN k out P R s hP ho s.Samples [] n acc (by simp) (by omega) hsm (by omega) (by omega)
    rw [show (([] : List VSample).length : Int) = 0 from rfl] at h15
    unfold ref_WriteOf_L10
    rw [idxC_at, Option.bind_some, hsp, lt_end, cond_false, h15]
    simp only [lbsB, List.flatMap_nil, List.append_nil]
  | z :: r, p, n + 1, acc, hsp, hl, hs, ha, h => by
    have hp := hl
    rw [hsp] at hp
    simp only [List.length_append, List.length_cons] at hp ha
    obtain ⟨z1, z2⟩ := hs z List.mem_cons_self
    have hb := lbB_len ⟨z1, z2⟩
    have ih := refW10_is N hN k out P R s hP ho hss hsm r (p ++ [z]) n (acc ++ lbB z) (by rw [← cat_next]; exact hsp) hl (fun y hy => hs y (List.mem_cons_of_mem _ hy)) (by simp; omega) (by simp only [List.length_cons] at h; omega)
    have f1 : ref_fieldOf N 1 z.Name = some (fieldB 1 z.Name) := refField_is N 1 (.inl rfl) _ (by omega) hN
    have f2 : ref_fieldOf N 2 z.Value = some (fieldB 2 z.Value) := refField_is N 2 (.inr rfl) _ (by omega) hN
    have l1 := fieldB_len (k := 1) (by omega) (s := z.Name) (by omega)
    have l2 := fieldB_len (k := 2) (by omega) (s := z.Value) (by omega)
    have f3 : ref_fieldOf N 1 (fieldB 1 z.Name ++ fieldB 2 z.Value) = some (lbB z) := refField_is N 1 (.inl rfl) _ (by simp; omega) hN
    unfold ref_WriteOf_L10
    simp only [idxC_at, Option.bind_some, hsp]
    rw [lt_cat, cond_true, f1, Option.bind_some, f2, Option.bind_some, catC_is (by omega), Option.bind_some, f3, Option.bind_some, catC_is (by omega), Option.bind_some, w64_next p z (by omega), ih]
    simp only [lbsB, List.flatMap_cons, List.append_assoc]
theorem refW6_is (N : Nat) (hN : 10 < N) : ∀ (r p : List VSeries) (n : Nat) (acc : List UInt8), (p ++ r).length ≤ 1000 → (∀ s ∈ r, WSer s) → acc.length ≤ 20000 → r.length + 225 < n → ref_WriteOf_L6 N n (p ++ r) acc (p.length : Int) = some (wrB acc r)
  | r, p, 0, acc, _, _, _, h => by omega
  | [], p, n + 1, acc, hl, hs, ha, h => by
    unfold ref_WriteOf_L6
    rw [lt_end]; rfl
  | s :: r, p, n + 1, acc, hl, hs, ha, h => by
    have hp := hl
    simp only [List.length_append, List.length_cons] at hp
    obtain ⟨s1, s2, s3, s4⟩ := hs s List.mem_cons_self
    have h10 := refW10_is N hN (ref_WriteOf_L6 N n) acc p r s (by omega) ha s2 s4 s.Labels [] n [] (by simp) (by omega) s3 (by simp; omega) (by simp only [List.length_cons] at h; omega)
    rw [List.nil_append, show (([] : List VLabel).length : Int) = 0 from rfl] at h10
    unfold ref_WriteOf_L6
    rw [lt_cat, cond_true, h10]
    simp only [wrB]
    change (if (acc ++ fieldB 1 (inB s)).length > 20000 then _ else _) = _
    by_cases hq : (acc ++ fieldB 1 (inB s)).length > 20000
    · rw [if_pos hq, if_pos hq]
    · have ih := refW6_is N hN r (p ++ [s]) n (acc ++ fieldB 1 (inB s)) (by rw [← cat_next]; exact hl) (fun y hy => hs y (List.mem_cons_of_mem _ hy)) (by omega) (by simp only [List.length_cons] at h; omega)
      rw [← cat_next] at ih
      rw [if_neg hq, if_neg hq, ← ih]
      have e1 : ((p.length + 1 : Nat) : Int) = ((p ++ [s]).length : Int) := by simp
      rw [e1]; rfl
theorem refWrite_is (N : Nat) (l : List VSeries) (hl : l.length < 1000000000) (hN : l.length + 500 ≤ N) (hs : ∀ s ∈ l, ∀ x ∈ s.Samples, WSmp x) : ref_WriteOf N l = some (writeS l) := by
  unfold ref_WriteOf writeS
  rw [refCheckW_is N l hl hN, Option.bind_some]
  by_cases hc : checkW l = 0
  · have hm : manyB l = false := by
      unfold checkW at hc
      cases hq : manyB l with
      | false => rfl
      | true => rw [hq] at hc; simp at hc
    obtain ⟨h1, h2⟩ := few_of hm
    have h6 := refW6_is N (by omega) l [] N [] (by simp; omega) (fun s hs' => ⟨(h2 s hs').1, (h2 s hs').2.1, (h2 s hs').2.2, hs s hs'⟩) (by simp) (by omega)
    rw [List.nil_append, show (([] : List VSeries).length : Int) = 0 from rfl] at h6
    rw [hc]
    simp only [bne_self_eq_false, cond_false, ne_eq, not_true, if_false]
    exact h6
  · have : (checkW l != 0) = true := by simpa using hc
    rw [this, if_pos hc]; rfl
end Go.Proofs.Ytofidfkojmbdoaa
