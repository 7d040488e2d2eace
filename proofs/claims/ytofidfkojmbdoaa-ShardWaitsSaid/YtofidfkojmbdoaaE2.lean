/- What the plain functions come to: what a shard sends next. -/
import Derived.Test.YtofidfkojmbdoaaE1
namespace Go.Proofs.Ytofidfkojmbdoaa
open Go.RowKit P
set_option linter.unusedVariables false
set_option linter.unusedSimpArgs false

def seriesOf (l : List VItem) : List VSeries := l.map fun z => ⟨z.Labels, [z.Sample]⟩
def okW (l : List VItem) : Bool := decide ((writeS (seriesOf l)).2 = 0)
def textW (l : List VItem) : List UInt8 := (packB (writeS (seriesOf l)).1).1
def WI2 (z : VItem) : Prop := WItem z ∧ WSmp z.Sample
def WS2 (s : VShard) : Prop := WShard s ∧ ∀ z ∈ s.Items, WI2 z
theorem wser_of {l : List VItem} (h : ∀ z ∈ l, WI2 z) : ∀ s ∈ seriesOf l, ∀ x ∈ s.Samples, WSmp x := fun s hs x hx => by
  unfold seriesOf at hs
  obtain ⟨z, hz, rfl⟩ := List.mem_map.1 hs
  simp at hx
  subst hx
  exact (h z hz).2
theorem wrB_len : ∀ (l : List VSeries) (acc : List UInt8), acc.length ≤ 20000 → (wrB acc l).1.length ≤ 20000
  | [], acc, h => h
  | s :: l, acc, h => by
    unfold wrB
    split
    · simp
    · exact wrB_len l _ (by omega)
theorem writeS_len (l : List VSeries) : (writeS l).1.length ≤ 20000 := by
  unfold writeS
  split
  · simp
  · exact wrB_len l [] (by simp)
theorem packB_zero {s : List UInt8} (h : s.length ≤ 20000) : (packB s).2 = 0 := by unfold packB; rw [if_neg (by omega)]
theorem packed_loop (N : Nat) : ∀ (r p : List VItem) (n : Nat), SmallI (p ++ r) → (∀ z ∈ p ++ r, WI2 z) → 500 ≤ N → r.length < n → shard_packed_L3 N n (seriesOf p) (p ++ r) ((p ++ r).length : Int) (p.length : Int) = some (if okW (p ++ r) then (textW (p ++ r), true) else ([], false))
  | r, p, 0, _, _, _, h => by omega
  | [], p, n + 1, hs, hw, hN, h => by
    rw [List.append_nil] at hw ⊢
    unfold shard_packed_L3
    have : decide ((p.length : Int) < (p.length : Int)) = false := by simp
    rw [this, cond_false, write_is N _ hN (wser_of hw), Option.bind_some]
    have hl := writeS_len (seriesOf p)
    have hp := packB_zero hl
    unfold okW textW press_Pack
    rw [if_pos (by omega), hp]
    by_cases hq : (writeS (seriesOf p)).2 = 0
    · simp [hq]
    · have : ((writeS (seriesOf p)).2 != 0) = true := by simpa using hq
      simp [this, hq]
  | z :: r, p, n + 1, hs, hw, hN, h => by
    have hl := hs.1
    simp only [List.length_append, List.length_cons] at hl
    have ih := packed_loop N r (p ++ [z]) n (by rw [← cat_next]; exact hs) (by rw [← cat_next]; exact hw) hN (by simp only [List.length_cons] at h; omega)
    rw [← cat_next] at ih
    have hser : seriesOf p ++ [{ Labels := z.Labels, Samples := [z.Sample] }] = seriesOf (p ++ [z]) := by simp [seriesOf]
    unfold shard_packed_L3
    rw [lt_cat, cond_true, idxC_cat, Option.bind_some, appC_is (by simp [seriesOf]; omega), Option.bind_some, hser, w64_next p z (by omega), ih]
theorem packed_is (N : Nat) (l : List VItem) (hs : SmallI l) (hw : ∀ z ∈ l, WI2 z) (hN : 1500 ≤ N) : shard_packed N l = some (if okW l then (textW l, true) else ([], false)) := by
  have hl := hs.1
  have := packed_loop N l [] N (by simpa using hs) (by simpa using hw) (by omega) (by omega)
  rw [List.nil_append] at this
  exact this
def nextN (l : List VItem) (n : Nat) : Nat := if h : n = 0 then 0 else if okW (l.take n) then n else nextN l (n / 2)
  termination_by n
  decreasing_by omega
theorem nextN_le (l : List VItem) (n : Nat) : nextN l n ≤ n := by
  induction n using Nat.strongRecOn with
  | _ n ih =>
    rw [nextN]
    split
    · omega
    · split
      · omega
      · have := ih (n / 2) (by omega); omega
theorem small_take {l : List VItem} (h : SmallI l) (n : Nat) : SmallI (l.take n) := ⟨by have := h.1; simp; omega, fun z hz => h.2 z (List.mem_of_mem_take hz)⟩
theorem div2 (n : Nat) (h : n < 1000000) : quoC .i64 (n : Int) 2 = some ((n / 2 : Nat) : Int) := by
  unfold quoC
  rw [if_neg (by decide)]
  congr 1
  rw [Int.tdiv_eq_ediv_of_nonneg (by omega)]
  have := w64_id (n := (n : Int) / 2) (by omega) (by omega)
  unfold w64 at this
  rw [this]; omega
def nextI (s : VShard) : List VItem := s.Items.take (nextN s.Items (min s.Items.length s.Batch.toNat))
def nextT (s : VShard) : List UInt8 := if nextI s = [] then [] else textW (nextI s)
theorem next9_is (N : Nat) (s : VShard) (hs : SmallI s.Items) (hw : ∀ z ∈ s.Items, WI2 z) (hN : 1500 ≤ N) : ∀ (m n : Nat), n < m → n ≤ s.Items.length → shard_Next_L9 N m (n : Int) s = some (s.Items.take (nextN s.Items n), (if nextN s.Items n = 0 then [] else textW (s.Items.take (nextN s.Items n))), 0)
  | 0, n, h, _ => by omega
  | m + 1, n, h, hn => by
    have hl := hs.1
    unfold shard_Next_L9
    by_cases h0 : n = 0
    · subst h0
      have : decide (((0 : Nat) : Int) > 0) = false := by decide
      rw [this, cond_false, nextN]; simp
    · have : decide ((n : Int) > 0) = true := by simp; omega
      rw [this, cond_true, subC_take _ _ hn, Option.bind_some, packed_is N _ (small_take hs n) (fun z hz => hw z (List.mem_of_mem_take hz)) hN, Option.bind_some, nextN, dif_neg h0]
      by_cases hk : okW (s.Items.take n) = true
      · simp only [hk, if_true, cond_true, Option.bind_some]
        rw [own_is0 N _ (small_take hs n) (by simp; omega)]
        simp [h0]
      · have hk' := hk
        rw [Bool.not_eq_true] at hk'
        have ih := next9_is N s hs hw hN m (n / 2) (by omega) (by omega)
        simp only [hk', if_false, cond_false, Bool.false_eq_true]
        rw [div2 n (by omega), Option.bind_some, ih]
def chkN (s : VShard) (now : Int) : Int := if chkS s ≠ 0 then chkS s else if timeB now = false then 3 else if s.Till > now then 4 else 0
theorem minI (s : VShard) (h : 0 ≤ s.Batch) : (if s.Batch < (s.Items.length : Int) then s.Batch else (s.Items.length : Int)) = ((min s.Items.length s.Batch.toNat : Nat) : Int) := by
  split <;> omega
theorem nextN_zero {l : List VItem} {n : Nat} (h : n ≤ l.length) : (l.take (nextN l n) = []) ↔ nextN l n = 0 := by
  have := nextN_le l n
  constructor
  · intro h1
    have h2 := congrArg List.length h1
    rw [List.length_take, List.length_nil] at h2; omega
  · intro h1; rw [h1]; rfl
theorem next_ev (s : VShard) (now : Int) (hw : WS2 s) : Ev (fun N => shard_Next N s now) (if chkN s now ≠ 0 then ([], [], chkN s now) else (nextI s, nextT s, 0)) := by
  obtain ⟨N1, h1⟩ := shardCheck_ev s hw.1
  refine ⟨max N1 1500, fun N hN => ?_⟩
  have h1 := h1 N (by omega)
  simp only at h1
  show shard_Next N s now = _
  unfold shard_Next
  rw [h1, Option.bind_some, isTime_is, Option.bind_some]
  by_cases hc : chkS s = 0
  · have hc1 : (chkS s != 0) = false := by simpa using hc
    rw [hc1, cond_false]
    cases ht : timeB now with
    | false => simp [chkN, hc, ht]
    | true =>
      simp only [Bool.not_true, cond_false]
      by_cases hq : s.Till > now
      · simp [chkN, hc, ht, hq]
      · have hb := (right_room (chkS_right hc).1).1
        have hsm := small_of hc
        have h9 := next9_is N s hsm hw.2 (by omega) N (min s.Items.length s.Batch.toNat) (by have := hsm.1; omega) (by omega)
        have hE : chkN s now = 0 := by simp [chkN, hc, ht, hq]
        rw [decide_eq_false hq, cond_false, minI s (by omega), h9]
        have hz0 := nextN_zero (l := s.Items) (n := min s.Items.length s.Batch.toNat) (by omega)
        have hT : nextT s = if nextN s.Items (min s.Items.length s.Batch.toNat) = 0 then [] else textW (s.Items.take (nextN s.Items (min s.Items.length s.Batch.toNat))) := by
          unfold nextT
          by_cases hz : nextN s.Items (min s.Items.length s.Batch.toNat) = 0
          · rw [if_pos (show nextI s = [] from hz0.2 hz), if_pos hz]
          · rw [if_neg (show ¬ nextI s = [] from fun e => hz (hz0.1 e)), if_neg hz]; rfl
        simp only [hE, ne_eq, not_true, if_false]
        rw [hT]; rfl
  · have hc1 : (chkS s != 0) = true := by simpa using hc
    rw [hc1, cond_true]
    simp [chkN, hc]

/-! ### The reference -/
theorem refChkN_ev (s : VShard) (now : Int) (hw : WShard s) : Ev (fun N => ref_CheckNext N s now) (chkN s now) := by
  obtain ⟨N1, h1⟩ := refShard_ev s hw
  refine ⟨N1, fun N hN => ?_⟩
  have h1 := h1 N (by omega)
  simp only at h1
  show ref_CheckNext N s now = _
  unfold ref_CheckNext ref_CheckNext_R4 chkN
  rw [h1, Option.bind_some, refIsTime_is, Option.bind_some]
  by_cases hc : chkS s = 0
  · rw [hc]
    cases timeB now with
    | false => simp
    | true =>
      by_cases hq : s.Till > now <;> simp [hq]
  · have hc1 : (chkS s == 0) = false := by simpa using hc
    rw [hc1]; simp [hc]
theorem refSeries_loop (N : Nat) : ∀ (r p : List VItem) (n : Nat), SmallI (p ++ r) → r.length < n → ref_SeriesOf_L3 N n (p ++ r) (seriesOf p) (p.length : Int) = some (seriesOf (p ++ r))
  | r, p, 0, _, h => by omega
  | [], p, n + 1, hs, h => by
    unfold ref_SeriesOf_L3
    rw [lt_end]; simp
  | z :: r, p, n + 1, hs, h => by
    have hl := hs.1
    simp only [List.length_append, List.length_cons] at hl
    have ih := refSeries_loop N r (p ++ [z]) n (by rw [← cat_next]; exact hs) (by simp only [List.length_cons] at h; omega)
    rw [← cat_next] at ih
    have hser : seriesOf p ++ [{ Labels := z.Labels, Samples := [z.Sample] }] = seriesOf (p ++ [z]) := by simp [seriesOf]
    unfold ref_SeriesOf_L3
    rw [lt_cat, cond_true, idxC_cat]
    simp only [Option.bind_some]
    rw [appC_is (by simp [seriesOf]; omega), Option.bind_some, hser, w64_next p z (by omega), ih]
theorem refSeries_is (N : Nat) (l : List VItem) (hs : SmallI l) (hN : 1500 ≤ N) : ref_SeriesOf N l = some (seriesOf l) := by
  have hl := hs.1
  have := refSeries_loop N l [] N (by simpa using hs) (by omega)
  rw [List.nil_append] at this
  exact this
theorem seriesOf_len (l : List VItem) : (seriesOf l).length = l.length := by simp [seriesOf]
theorem refWriteI_is (N : Nat) (l : List VItem) (hs : SmallI l) (hw : ∀ z ∈ l, WI2 z) (hN : 1500 ≤ N) : ref_WriteOf N (seriesOf l) = some (writeS (seriesOf l)) := refWrite_is N _ (by rw [seriesOf_len]; have := hs.1; omega) (by rw [seriesOf_len]; have := hs.1; omega) (wser_of hw)
theorem refNext2_is (N : Nat) (s : VShard) (hs : SmallI s.Items) (hw : ∀ z ∈ s.Items, WI2 z) (hN : 1500 ≤ N) : ∀ (m n : Nat), n < m → n ≤ s.Items.length → ref_NextOf_L2 N m (n : Int) s = some (s.Items.take (nextN s.Items n))
  | 0, n, h, _ => by omega
  | m + 1, n, h, hn => by
    have hl := hs.1
    unfold ref_NextOf_L2
    by_cases h0 : n = 0
    · subst h0
      have : decide (((0 : Nat) : Int) > 0) = false := by decide
      rw [this, cond_false, subC_take _ _ hn, nextN]; simp
    · have : decide ((n : Int) > 0) = true := by simp; omega
      have hst := small_take hs n
      have hwt : ∀ z ∈ s.Items.take n, WI2 z := fun z hz => hw z (List.mem_of_mem_take hz)
      rw [this, cond_true, subC_take _ _ hn, Option.bind_some, refSeries_is N _ hst hN, Option.bind_some, refWriteI_is N _ hst hwt hN, Option.bind_some, nextN, dif_neg h0]
      unfold okW
      by_cases hk : (writeS (seriesOf (s.Items.take n))).2 = 0
      · simp [hk]
      · have hk1 : ((writeS (seriesOf (s.Items.take n))).2 == 0) = false := by simpa using hk
        have ih := refNext2_is N s hs hw hN m (n / 2) (by omega) (by omega)
        rw [hk1, cond_false, div2 n (by omega), Option.bind_some, ih]
        simp [hk]
theorem refNextOf_is (N : Nat) (s : VShard) (hc : chkS s = 0) (hw : ∀ z ∈ s.Items, WI2 z) (hN : 1500 ≤ N) : ref_NextOf N s = some (nextI s) := by
  have hb := (right_room (chkS_right hc).1).1
  have hsm := small_of hc
  unfold ref_NextOf
  rw [minI s (by omega), refNext2_is N s hsm hw hN N (min s.Items.length s.Batch.toNat) (by have := hsm.1; omega) (by omega)]; rfl

/-! ### One item goes -/
theorem flat_len {α : Type} {f : α → List UInt8} {k : Nat} : ∀ {l : List α}, (∀ x ∈ l, (f x).length ≤ k) → (l.flatMap f).length ≤ k * l.length
  | [], _ => by simp
  | x :: l, h => by
    have h1 := h x List.mem_cons_self
    have h2 := flat_len (l := l) fun y hy => h y (List.mem_cons_of_mem _ hy)
    simp only [List.flatMap_cons, List.length_append, List.length_cons, Nat.mul_succ]; omega
theorem eachF_none {e : Bool} : ∀ {l : List VLabel}, eachF e l = none → ∀ z ∈ l, isNameL z.Name = true ∧ z.Value.length ≤ 100
  | [], _, z, hz => by cases hz
  | y :: r, h, z, hz => by
    unfold eachF at h
    split at h
    · cases h
    · rename_i h1
      split at h
      · cases h
      · split at h
        · cases h
        · rename_i h3
          rcases List.mem_cons.1 hz with rfl | hz
          · exact ⟨by simpa using h1, by omega⟩
          · exact eachF_none h z hz
theorem right_labels {l : List VLabel} (h : chkL l = 0) : l.length ≤ 20 ∧ ∀ z ∈ l, z.Name.length ≤ 40 ∧ z.Value.length ≤ 100 := by
  refine ⟨each_small h, fun z hz => ?_⟩
  have h1 : eachB false l = 0 := by
    unfold chkL at h
    split at h
    · assumption
    · exact h
  unfold eachB at h1
  split at h1
  · omega
  · cases hf : eachF false l with
    | some e =>
      rw [hf] at h1
      simp only [Option.getD_some] at h1
      exfalso
      have : ∀ {l : List VLabel} {e : Int}, eachF false l = some e → e ≠ 0 := by
        intro l
        induction l with
        | nil => intro e h; cases h
        | cons y r ih =>
          intro e h
          unfold eachF at h
          split at h
          · cases h; decide
          · split at h
            · cases h; decide
            · split at h
              · cases h; decide
              · exact ih h
      exact this hf h1
    | none =>
      obtain ⟨q1, q2⟩ := eachF_none hf z hz
      unfold isNameL at q1
      simp only [Bool.and_eq_true, decide_eq_true_eq] at q1
      exact ⟨q1.2, q2⟩
theorem okW_one {z : VItem} (h : chkI z = 0) : okW [z] = true := by
  have hL : chkL z.Labels = 0 ∧ timeB z.Sample.Time = true := by
    unfold chkI at h
    split at h
    · omega
    · split at h
      · omega
      · rename_i ht; exact ⟨h, by simpa using ht⟩
  obtain ⟨h1, h2⟩ := right_labels hL.1
  have hlb : ∀ x ∈ z.Labels, (lbB x).length ≤ 176 := fun x hx => by
    obtain ⟨q1, q2⟩ := h2 x hx
    have l1 := fieldB_len (k := 1) (by omega) (s := x.Name) (by omega)
    have l2 := fieldB_len (k := 2) (by omega) (s := x.Value) (by omega)
    have l3 := fieldB_len (k := 1) (by omega) (s := fieldB 1 x.Name ++ fieldB 2 x.Value) (by simp; omega)
    simp only [List.length_append] at l3
    unfold lbB; omega
  have hlbs := flat_len hlb
  have hsm := smB_len z.Sample
  have hin : (inB ⟨z.Labels, [z.Sample]⟩).length ≤ 3561 := by
    unfold inB lbsB smsB
    simp only [List.length_append, List.flatMap_cons, List.flatMap_nil, List.append_nil]; omega
  have hf := fieldB_len (k := 1) (by omega) (s := inB ⟨z.Labels, [z.Sample]⟩) (by omega)
  have hchk : checkW (seriesOf [z]) = 0 := by
    unfold checkW seriesOf
    have hm : manyB ([z].map fun z => (⟨z.Labels, [z.Sample]⟩ : VSeries)) = false := by
      unfold manyB
      simp only [List.map_cons, List.map_nil, List.any_cons, List.any_nil, Bool.or_false, manyS, List.length_cons, List.length_nil]
      have : z.Labels.any longL = false := by
        rw [List.any_eq_false]
        intro x hx
        obtain ⟨q1, q2⟩ := h2 x hx
        simp [longL]; omega
      simp [this]; omega
    rw [hm]
    simp [timesS, hL.2]
  unfold okW writeS
  rw [hchk]
  simp only [seriesOf, List.map_cons, List.map_nil, ne_eq, not_true, if_false, wrB, List.nil_append]
  rw [if_neg (by omega)]
  simp
theorem nextN_pos {l : List VItem} (h : ∀ z ∈ l, chkI z = 0) : ∀ n, 0 < n → n ≤ l.length → 0 < nextN l n := by
  intro n
  induction n using Nat.strongRecOn with
  | _ n ih =>
    intro h0 hn
    rw [nextN, dif_neg (by omega)]
    split
    · exact h0
    · rename_i hk
      by_cases h1 : n = 1
      · exfalso
        subst h1
        cases l with
        | nil => simp at hn
        | cons z r =>
          apply hk
          have := okW_one (h z List.mem_cons_self)
          simpa using this
      · exact ih (n / 2) (by omega) (by omega) (by omega)
theorem nextI_ne {s : VShard} (hc : chkS s = 0) (h : s.Items ≠ []) : nextI s ≠ [] := by
  have hb := (right_room (chkS_right hc).1).1
  have hpos : 0 < s.Items.length := List.length_pos_iff.2 h
  have hp := nextN_pos (firstE_none (chkS_right hc).2.2.1) (min s.Items.length s.Batch.toNat) (by omega) (by omega)
  unfold nextI
  intro e
  have := (nextN_zero (l := s.Items) (n := min s.Items.length s.Batch.toNat) (by omega)).1 e
  omega
end Go.Proofs.Ytofidfkojmbdoaa
