/- What the plain functions come to: series, checked and written. -/
import Derived.Test.YtofidfkojmbdoaaEY
namespace Go.Proofs.Ytofidfkojmbdoaa
open Go.RowKit P
set_option linter.unusedVariables false
set_option linter.unusedSimpArgs false

def longL (x : VLabel) : Bool := decide (x.Name.length > 20000) || decide (x.Value.length > 20000)
def manyS (s : VSeries) : Bool := decide (s.Labels.length > 20) || (decide (s.Samples.length > 200) || s.Labels.any longL)
def manyB (l : List VSeries) : Bool := decide (l.length > 200) || l.any manyS
def timesS (s : VSeries) : Bool := s.Samples.all fun x => timeB x.Time
def checkW (l : List VSeries) : Int := if manyB l then 2 else if l.all timesS then 0 else 3
theorem gtI (a k : Nat) : decide ((a : Int) > (k : Int)) = decide (a > k) := by congr 1; apply propext; omega
theorem many9_is (N : Nat) (k : List VSeries → Int → Int → Option Bool) (X : List VSeries) (len : Int) (i : Nat) (hi : i < 1000000000000) : ∀ (r p : List VLabel) (n : Nat), (p ++ r).length ≤ 1000 → r.length < n → wire_many_L9 N k n X len (i : Int) (p ++ r) ((p ++ r).length : Int) (p.length : Int) = if r.any longL then some true else k X len ((i + 1 : Nat) : Int)
  | r, p, 0, _, h => by omega
  | [], p, n + 1, hl, h => by
    unfold wire_many_L9
    rw [lt_end, cond_false, w64_id (by omega) (by omega)]; simp
  | z :: r, p, n + 1, hl, h => by
    have hp := hl
    simp only [List.length_append, List.length_cons] at hp
    have ih := many9_is N k X len i hi r (p ++ [z]) n (by rw [← cat_next]; exact hl) (by simp only [List.length_cons] at h; omega)
    rw [← cat_next] at ih
    have g1 := gtI z.Name.length 20000
    have g2 := gtI z.Value.length 20000
    unfold wire_many_L9
    rw [lt_cat, cond_true, idxC_cat, Option.bind_some, w64_next p z (by omega), ih]
    rw [show decide ((z.Name.length : Int) > 20000) = decide (z.Name.length > 20000) from g1, show decide ((z.Value.length : Int) > 20000) = decide (z.Value.length > 20000) from g2]
    simp only [List.any_cons, longL]
    by_cases h1 : z.Name.length > 20000
    · simp [h1]
    · by_cases h2 : z.Value.length > 20000
      · simp [h1, h2]
      · simp [h1, h2]
theorem many4_is (N : Nat) : ∀ (r p : List VSeries) (n : Nat), (p ++ r).length < 1000000000 → r.length + 25 < n → wire_many_L4 N n (p ++ r) ((p ++ r).length : Int) (p.length : Int) = some (r.any manyS)
  | r, p, 0, _, h => by omega
  | [], p, n + 1, hl, h => by
    unfold wire_many_L4
    rw [lt_end]; rfl
  | s :: r, p, n + 1, hl, h => by
    have hp := hl
    simp only [List.length_append, List.length_cons] at hp
    have ih := many4_is N r (p ++ [s]) n (by rw [← cat_next]; exact hl) (by simp only [List.length_cons] at h; omega)
    rw [← cat_next] at ih
    unfold wire_many_L4
    rw [lt_cat, cond_true, idxC_cat, Option.bind_some]
    rw [show decide ((s.Labels.length : Int) > 20) = decide (s.Labels.length > 20) from gtI _ 20, show decide ((s.Samples.length : Int) > 200) = decide (s.Samples.length > 200) from gtI _ 200]
    simp only [List.any_cons, manyS]
    by_cases h1 : s.Labels.length > 20
    · simp [h1]
    · by_cases h2 : s.Samples.length > 200
      · simp [h1, h2]
      · have h9 := many9_is N (wire_many_L4 N n) (p ++ s :: r) ((p ++ s :: r).length : Int) p.length (by omega) s.Labels [] n (by simp; omega) (by simp only [List.length_cons] at h; omega)
        rw [List.nil_append] at h9
        have e0 : (([] : List VLabel).length : Int) = 0 := rfl
        rw [e0] at h9
        have e1 : ((p.length + 1 : Nat) : Int) = ((p ++ [s]).length : Int) := by simp
        rw [e1, ih] at h9
        simp only [decide_eq_false h1, decide_eq_false h2, cond_false, Bool.false_or, h9]
        by_cases h3 : s.Labels.any longL = true
        · simp [h3]
        · rw [Bool.not_eq_true] at h3; simp [h3]
theorem many_is (N : Nat) (l : List VSeries) (hN : 300 ≤ N) : wire_many N l = some (manyB l) := by
  unfold wire_many manyB
  rw [show decide ((l.length : Int) > 200) = decide (l.length > 200) from gtI _ 200]
  by_cases h : l.length > 200
  · simp [h]
  · have := many4_is N l [] N (by simp; omega) (by omega)
    simp only [decide_eq_false h, cond_false, Bool.false_or]
    simpa using this
theorem wTime_is (N : Nat) (t : Int) : wire_isTime N t = some (timeB t) := by
  unfold wire_isTime timeB
  cases decide (t ≥ -9007199254740991) <;> rfl
theorem times5_is (N : Nat) (k : List VSeries → Int → Int → Option Bool) (X : List VSeries) (len : Int) (i : Nat) (hi : i < 1000000000000) : ∀ (r p : List VSample) (n : Nat), (p ++ r).length ≤ 1000 → r.length < n → wire_times_L5 N k n X len (i : Int) (p ++ r) ((p ++ r).length : Int) (p.length : Int) = if r.all (fun x => timeB x.Time) then k X len ((i + 1 : Nat) : Int) else some false
  | r, p, 0, _, h => by omega
  | [], p, n + 1, hl, h => by
    unfold wire_times_L5
    rw [lt_end, cond_false, w64_id (by omega) (by omega)]; simp
  | z :: r, p, n + 1, hl, h => by
    have hp := hl
    simp only [List.length_append, List.length_cons] at hp
    have ih := times5_is N k X len i hi r (p ++ [z]) n (by rw [← cat_next]; exact hl) (by simp only [List.length_cons] at h; omega)
    rw [← cat_next] at ih
    unfold wire_times_L5
    rw [lt_cat, cond_true, idxC_cat, Option.bind_some, wTime_is, Option.bind_some, w64_next p z (by omega), ih]
    simp only [List.all_cons]
    by_cases hq : timeB z.Time = true
    · simp [hq]
    · rw [Bool.not_eq_true] at hq; simp [hq]
theorem times2_is (N : Nat) : ∀ (r p : List VSeries) (n : Nat), (p ++ r).length < 1000000000 → (∀ s ∈ r, s.Samples.length ≤ 200) → r.length + 205 < n → wire_times_L2 N n (p ++ r) ((p ++ r).length : Int) (p.length : Int) = some (r.all timesS)
  | r, p, 0, _, _, h => by omega
  | [], p, n + 1, hl, hs, h => by
    unfold wire_times_L2
    rw [lt_end]; rfl
  | s :: r, p, n + 1, hl, hs, h => by
    have hp := hl
    simp only [List.length_append, List.length_cons] at hp
    have ih := times2_is N r (p ++ [s]) n (by rw [← cat_next]; exact hl) (fun y hy => hs y (List.mem_cons_of_mem _ hy)) (by simp only [List.length_cons] at h; omega)
    rw [← cat_next] at ih
    have hs0 := hs s List.mem_cons_self
    have h5 := times5_is N (wire_times_L2 N n) (p ++ s :: r) ((p ++ s :: r).length : Int) p.length (by omega) s.Samples [] n (by simp; omega) (by simp only [List.length_cons] at h; omega)
    rw [List.nil_append] at h5
    have e0 : (([] : List VSample).length : Int) = 0 := rfl
    have e1 : ((p.length + 1 : Nat) : Int) = ((p ++ [s]).length : Int) := by simp
    rw [e0, e1, ih] at h5
    unfold wire_times_L2
    rw [lt_cat, cond_true, idxC_cat, Option.bind_some, h5]
    simp only [List.all_cons, timesS]
    by_cases h3 : s.Samples.all (fun x => timeB x.Time) = true
    · simp [h3]
    · rw [Bool.not_eq_true] at h3; simp [h3]
theorem few_of {l : List VSeries} (h : manyB l = false) : l.length ≤ 200 ∧ ∀ s ∈ l, s.Labels.length ≤ 20 ∧ s.Samples.length ≤ 200 ∧ ∀ x ∈ s.Labels, x.Name.length ≤ 20000 ∧ x.Value.length ≤ 20000 := by
  unfold manyB at h
  simp only [Bool.or_eq_false_iff, decide_eq_false_iff_not] at h
  refine ⟨by omega, fun s hs => ?_⟩
  have h1 := List.any_eq_false.1 h.2 s hs
  rw [Bool.not_eq_true] at h1
  unfold manyS at h1
  simp only [Bool.or_eq_false_iff, decide_eq_false_iff_not] at h1
  refine ⟨by omega, by omega, fun x hx => ?_⟩
  have h2 := List.any_eq_false.1 h1.2.2 x hx
  rw [Bool.not_eq_true] at h2
  unfold longL at h2
  simp only [Bool.or_eq_false_iff, decide_eq_false_iff_not] at h2
  omega
theorem wcheck_is (N : Nat) (l : List VSeries) (hN : 500 ≤ N) : wire_check N l = some (checkW l) := by
  unfold wire_check checkW
  rw [many_is N l (by omega), Option.bind_some]
  cases hm : manyB l with
  | true => simp
  | false =>
    obtain ⟨h1, h2⟩ := few_of hm
    have := times2_is N l [] N (by simp; omega) (fun s hs => (h2 s hs).2.1) (by omega)
    rw [List.nil_append] at this
    unfold wire_times
    rw [show (([] : List VSeries).length : Int) = 0 from rfl] at this
    rw [this]
    simp only [cond_false, Option.bind_some]
    by_cases h3 : l.all timesS = true
    · simp [h3]
    · rw [Bool.not_eq_true] at h3; simp [h3]

/-! ### Write -/
def lbB (x : VLabel) : List UInt8 := fieldB 1 (fieldB 1 x.Name ++ fieldB 2 x.Value)
def smB (x : VSample) : List UInt8 := fieldB 2 (sampleB x)
def lbsB (l : List VLabel) : List UInt8 := l.flatMap lbB
def smsB (l : List VSample) : List UInt8 := l.flatMap smB
def inB (s : VSeries) : List UInt8 := lbsB s.Labels ++ smsB s.Samples
def wrB : List UInt8 → List VSeries → List UInt8 × Int
  | acc, [] => (acc, 0)
  | acc, s :: r => if (acc ++ fieldB 1 (inB s)).length > 20000 then ([], 2) else wrB (acc ++ fieldB 1 (inB s)) r
def writeS (l : List VSeries) : List UInt8 × Int := if checkW l ≠ 0 then ([], checkW l) else wrB [] l
def WSer (s : VSeries) : Prop := s.Labels.length ≤ 20 ∧ s.Samples.length ≤ 200 ∧ (∀ x ∈ s.Labels, x.Name.length ≤ 20000 ∧ x.Value.length ≤ 20000) ∧ ∀ x ∈ s.Samples, WSmp x
theorem lbB_len {x : VLabel} (h : x.Name.length ≤ 20000 ∧ x.Value.length ≤ 20000) : (lbB x).length ≤ 40036 := by
  have h1 := fieldB_len (k := 1) (by omega) (s := x.Name) (by omega)
  have h2 := fieldB_len (k := 2) (by omega) (s := x.Value) (by omega)
  have h3 := fieldB_len (k := 1) (by omega) (s := fieldB 1 x.Name ++ fieldB 2 x.Value) (by simp; omega)
  simp only [List.length_append] at h3
  unfold lbB; omega
theorem smB_len (x : VSample) : (smB x).length ≤ 41 := by
  have h1 := sampleB_len x
  have h2 := fieldB_len (k := 2) (by omega) (s := sampleB x) (by omega)
  unfold smB; omega
theorem write15_is (N : Nat) (hN : 10 < N) (k : List UInt8 → List VSeries → Int → Int → Option (List UInt8 × Int)) (out : List UInt8) (X : List VSeries) (len : Int) (i : Nat) (hi : i < 1000000000000) (ho : out.length ≤ 20000) : ∀ (r p : List VSample) (n : Nat) (acc : List UInt8), (p ++ r).length ≤ 1000 → (∀ x ∈ r, WSmp x) → acc.length + 41 * r.length ≤ 100000000 → r.length < n →
    wire_Write_L15 N k n out acc X len (i : Int) (p ++ r) ((p ++ r).length : Int) (p.length : Int) = if (out ++ fieldB 1 (acc ++ smsB r)).length > 20000 then some ([], 2) else k (out ++ fieldB 1 (acc ++ smsB r)) X len ((i + 1 : Nat) : Int)
  | r, p, 0, acc, _, _, _, h => by omega
  | [], p, n + 1, acc, hl, hs, ha, h => by
    have hf := fieldB_len (k := 1) (by omega) (s := acc) (by simp at ha; omega)
    have hfi := field_is N 1 (.inl rfl) acc (by simp at ha; omega) hN
    unfold wire_Write_L15
    rw [lt_end, cond_false, show ((1 : Nat) : Int) = 1 from rfl] at *
    rw [hfi, Option.bind_some, catC_is (by simp at ha; omega), Option.bind_some, w64_id (by omega) (by omega)]
    simp only [smsB, List.flatMap_nil, List.append_nil]
    rw [show decide (((out ++ fieldB 1 acc).length : Int) > 20000) = decide ((out ++ fieldB 1 acc).length > 20000) from gtI _ 20000]
    by_cases hq : (out ++ fieldB 1 acc).length > 20000
    · rw [if_pos hq, decide_eq_true hq]; rfl
    · rw [if_neg hq, decide_eq_false hq]; rfl
  | z :: r, p, n + 1, acc, hl, hs, ha, h => by
    have hp := hl
    simp only [List.length_append, List.length_cons] at hp ha
    have hb := smB_len z
    have hsl := sampleB_len z
    have ih := write15_is N hN k out X len i hi ho r (p ++ [z]) n (acc ++ smB z) (by rw [← cat_next]; exact hl) (fun y hy => hs y (List.mem_cons_of_mem _ hy)) (by simp; omega) (by simp only [List.length_cons] at h; omega)
    rw [← cat_next] at ih
    have hfi : wire_field N 2 (sampleB z) = some (smB z) := field_is N 2 (.inr rfl) (sampleB z) (by omega) hN
    unfold wire_Write_L15
    rw [lt_cat, cond_true, idxC_cat, Option.bind_some, sample_is N z (hs z List.mem_cons_self) hN, Option.bind_some, hfi, Option.bind_some, catC_is (by omega), Option.bind_some, w64_next p z (by omega), ih]
    simp only [smsB, List.flatMap_cons, List.append_assoc]
theorem write10_is (N : Nat) (hN : 10 < N) (k : List UInt8 → List VSeries → Int → Int → Option (List UInt8 × Int)) (out : List UInt8) (X : List VSeries) (len : Int) (i : Nat) (hi : i < 1000000000000) (ho : out.length ≤ 20000) (s : VSeries) (hss : s.Samples.length ≤ 200) (hsm : ∀ x ∈ s.Samples, WSmp x) : ∀ (r p : List VLabel) (n : Nat) (acc : List UInt8), (p ++ r).length ≤ 1000 → (∀ x ∈ r, x.Name.length ≤ 20000 ∧ x.Value.length ≤ 20000) → acc.length + 40036 * r.length ≤ 90000000 → r.length + 201 < n →
    wire_Write_L10 N k n out acc X len (i : Int) (p ++ r) ((p ++ r).length : Int) (p.length : Int) s = if (out ++ fieldB 1 (acc ++ lbsB r ++ smsB s.Samples)).length > 20000 then some ([], 2) else k (out ++ fieldB 1 (acc ++ lbsB r ++ smsB s.Samples)) X len ((i + 1 : Nat) : Int)
  | r, p, 0, acc, _, _, _, h => by omega
  | [], p, n + 1, acc, hl, hs, ha, h => by
    simp only [List.length_nil, Nat.mul_zero, Nat.add_zero] at ha
    have h15 := write15_is N hN k out X len i hi ho s.Samples [] n acc (by simp; omega) hsm (by omega) (by omega)
    rw [List.nil_append, show (([] : List VSample).length : Int) = 0 from rfl] at h15
    unfold wire_Write_L10
    rw [lt_end, cond_false, h15]
    simp only [lbsB, List.flatMap_nil, List.append_nil]
  | z :: r, p, n + 1, acc, hl, hs, ha, h => by
    have hp := hl
    simp only [List.length_append, List.length_cons] at hp ha
    obtain ⟨z1, z2⟩ := hs z List.mem_cons_self
    have hb := lbB_len ⟨z1, z2⟩
    have ih := write10_is N hN k out X len i hi ho s hss hsm r (p ++ [z]) n (acc ++ lbB z) (by rw [← cat_next]; exact hl) (fun y hy => hs y (List.mem_cons_of_mem _ hy)) (by simp; omega) (by simp only [List.length_cons] at h; omega)
    rw [← cat_next] at ih
    have f1 : wire_field N 1 z.Name = some (fieldB 1 z.Name) := field_is N 1 (.inl rfl) _ (by omega) hN
    have f2 : wire_field N 2 z.Value = some (fieldB 2 z.Value) := field_is N 2 (.inr rfl) _ (by omega) hN
    have l1 := fieldB_len (k := 1) (by omega) (s := z.Name) (by omega)
    have l2 := fieldB_len (k := 2) (by omega) (s := z.Value) (by omega)
    have f3 : wire_field N 1 (fieldB 1 z.Name ++ fieldB 2 z.Value) = some (lbB z) := field_is N 1 (.inl rfl) _ (by simp; omega) hN
    unfold wire_Write_L10
    rw [lt_cat, cond_true, idxC_cat, Option.bind_some, f1, Option.bind_some, f2, Option.bind_some, catC_is (by omega), Option.bind_some, f3, Option.bind_some, catC_is (by omega), Option.bind_some, w64_next p z (by omega), ih]
    simp only [lbsB, List.flatMap_cons, List.append_assoc]
theorem write6_is (N : Nat) (hN : 10 < N) : ∀ (r p : List VSeries) (n : Nat) (acc : List UInt8), (p ++ r).length ≤ 1000 → (∀ s ∈ r, WSer s) → acc.length ≤ 20000 → r.length + 225 < n → wire_Write_L6 N n acc (p ++ r) ((p ++ r).length : Int) (p.length : Int) = some (wrB acc r)
  | r, p, 0, acc, _, _, _, h => by omega
  | [], p, n + 1, acc, hl, hs, ha, h => by
    unfold wire_Write_L6
    rw [lt_end]; rfl
  | s :: r, p, n + 1, acc, hl, hs, ha, h => by
    have hp := hl
    simp only [List.length_append, List.length_cons] at hp
    obtain ⟨s1, s2, s3, s4⟩ := hs s List.mem_cons_self
    have h10 := write10_is N hN (wire_Write_L6 N n) acc (p ++ s :: r) ((p ++ s :: r).length : Int) p.length (by omega) ha s s2 s4 s.Labels [] n [] (by simp; omega) s3 (by simp; omega) (by simp only [List.length_cons] at h; omega)
    rw [List.nil_append, List.nil_append, show (([] : List VLabel).length : Int) = 0 from rfl] at h10
    unfold wire_Write_L6
    rw [lt_cat, cond_true, idxC_cat, Option.bind_some, h10]
    simp only [wrB]
    change (if (acc ++ fieldB 1 (inB s)).length > 20000 then _ else _) = _
    by_cases hq : (acc ++ fieldB 1 (inB s)).length > 20000
    · rw [if_pos hq, if_pos hq]
    · have ih := write6_is N hN r (p ++ [s]) n (acc ++ fieldB 1 (inB s)) (by rw [← cat_next]; exact hl) (fun y hy => hs y (List.mem_cons_of_mem _ hy)) (by omega) (by simp only [List.length_cons] at h; omega)
      rw [← cat_next] at ih
      rw [if_neg hq, if_neg hq, ← ih]
      have e1 : ((p.length + 1 : Nat) : Int) = ((p ++ [s]).length : Int) := by simp
      rw [e1]; rfl
theorem write_is (N : Nat) (l : List VSeries) (hN : 500 ≤ N) (hs : ∀ s ∈ l, ∀ x ∈ s.Samples, WSmp x) : wire_Write N l = some (writeS l) := by
  unfold wire_Write writeS
  rw [wcheck_is N l hN, Option.bind_some]
  by_cases hc : checkW l = 0
  · have hm : manyB l = false := by
      unfold checkW at hc
      cases hq : manyB l with
      | false => rfl
      | true => rw [hq] at hc; simp at hc
    obtain ⟨h1, h2⟩ := few_of hm
    have h6 := write6_is N (by omega) l [] N [] (by simp; omega) (fun s hs' => ⟨(h2 s hs').1, (h2 s hs').2.1, (h2 s hs').2.2, hs s hs'⟩) (by simp) (by omega)
    rw [List.nil_append, show (([] : List VSeries).length : Int) = 0 from rfl] at h6
    rw [hc]
    simp only [bne_self_eq_false, cond_false, ne_eq, not_true, if_false]
    exact h6
  · have : (checkW l != 0) = true := by simpa using hc
    rw [this, if_pos hc]; rfl
end Go.Proofs.Ytofidfkojmbdoaa
