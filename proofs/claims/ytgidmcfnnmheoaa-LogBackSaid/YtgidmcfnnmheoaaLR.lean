-- slim: written by gen/slim.py from XLR.lean.tpl
/- Logs in plain Lean: many records appended, one behind the other; the log cut off; what is appended behind what is whole. -/
import Derived.Test.YtgidmcfnnmheoaaLQ
namespace Go.Proofs.Ytgidmcfnnmheoaa
open P
set_option linter.unusedSimpArgs false
set_option linter.unusedVariables false

theorem snoc_ind {α : Type} {p : List α → Prop} (h0 : p []) (h1 : ∀ l a, p l → p (l ++ [a])) (l : List α) : p l := by
  have : ∀ m : List α, p m.reverse := by
    intro m
    induction m with
    | nil => exact h0
    | cons a m ih => rw [List.reverse_cons]; exact h1 _ _ ih
  rw [← List.reverse_reverse l]
  exact this _
theorem Steps.rest {s : List UInt8} {a b z : RdSt} (h : Steps s a b) (k : Steps s a z) (hz : rdStep s z = none) : Steps s b z := by
  induction h with
  | refl => exact k
  | tail _ e ih =>
    rcases ih.cases_head with rfl | ⟨w, h1, h2⟩
    · rw [hz] at e; cases e
    · rw [e] at h1; cases h1; exact h2
def logB (l : List (List UInt8)) : List UInt8 := l.foldl lgApp []
def endsB (l : List (List UInt8)) : List Nat := (List.range l.length).map fun i => (logB (l.take (i + 1))).length
theorem logB_snoc (l : List (List UInt8)) (r : List UInt8) : logB (l ++ [r]) = lgApp (logB l) r := by simp [logB]
theorem lastN_snoc (l : List Nat) (a : Nat) : lastN (l ++ [a]) = a := by simp [lastN]
theorem endsB_snoc (l : List (List UInt8)) (r : List UInt8) : endsB (l ++ [r]) = endsB l ++ [(logB (l ++ [r])).length] := by
  unfold endsB
  rw [List.length_append, List.length_singleton, List.range_succ, List.map_append]
  congr 1
  · refine List.map_congr_left fun i hi => ?_
    rw [List.mem_range] at hi
    rw [List.take_append_of_le_length (by omega)]
  · simp only [List.map_cons, List.map_nil]
    rw [List.take_of_length_le (by simp)]
def LogRead (l : List (List UInt8)) : Prop := Steps (logB l) st0 ⟨l, endsB l, [], false, (logB l).length⟩ ∧ lastN (endsB l) = (logB l).length ∧
    ∀ c z, c ≤ (logB l).length → Steps ((logB l).take c) st0 z → rdStep ((logB l).take c) z = none → ∃ i, i ≤ l.length ∧ z.out = l.take i ∧ lastN z.ends = (logB (l.take i)).length ∧ (logB (l.take i)).length ≤ c ∧ (i < l.length → c < (logB (l.take (i + 1))).length)
theorem log_read (l : List (List UInt8)) : LogRead l := by
  refine snoc_ind (p := LogRead) ?_ (fun l r ih => ?_) l
  · refine ⟨.refl _, rfl, fun c z hc h hz => ?_⟩
    have h0 : c = 0 := by simp [logB] at hc; exact hc
    subst h0
    rcases h.cases_head with rfl | ⟨y, h1, _⟩
    · exact ⟨0, Nat.le_refl _, rfl, rfl, Nat.le_refl _, fun h => absurd h (by simp)⟩
    · have := rdStep_at h1
      simp [logB] at this
      omega
  · obtain ⟨h1, h2, h3⟩ := ih
    obtain ⟨q, hq⟩ := lgApp_pre (logB l) r
    have htk : (lgApp (logB l) r).take (logB l).length = logB l := by rw [hq]; simp
    have hle : (logB l).length ≤ (lgApp (logB l) r).length := by rw [hq]; simp
    obtain ⟨a1, a2⟩ := lgApp_read (log := logB l) (rec := r) (x := ⟨l, endsB l, [], false, (logB l).length⟩) rfl rfl rfl
    have hs : Steps (lgApp (logB l) r) st0 ⟨l, endsB l, [], false, (logB l).length⟩ := h1.same (c := (logB l).length) (by rw [htk, List.take_length]) (Nat.le_refl _)
    have hf : Steps (lgApp (logB l) r) st0 ⟨l ++ [r], endsB l ++ [(lgApp (logB l) r).length], [], false, (lgApp (logB l) r).length⟩ := hs.trans a1
    have he : endsB (l ++ [r]) = endsB l ++ [(lgApp (logB l) r).length] := by rw [endsB_snoc, logB_snoc]
    unfold LogRead
    rw [logB_snoc, he]
    refine ⟨hf, lastN_snoc _ _, fun c z hc hz hn => ?_⟩
    have hto : ∀ i, i ≤ l.length → (l ++ [r]).take i = l.take i := fun i hi => List.take_append_of_le_length hi
    have hll : (l ++ [r]).length = l.length + 1 := by simp
    have htl : (l ++ [r]).take (l.length + 1) = l ++ [r] := List.take_of_length_le (by simp)
    by_cases c1 : c < (logB l).length
    · have ht : (lgApp (logB l) r).take c = (logB l).take c := by
        have := congrArg (List.take c) htk
        rw [List.take_take, Nat.min_eq_left (by omega)] at this
        exact this
      rw [ht] at hz hn
      obtain ⟨i, i1, i2, i3, i4, i5⟩ := h3 c z (by omega) hz hn
      refine ⟨i, by omega, by rw [hto i i1]; exact i2, by rw [hto i i1]; exact i3, by rw [hto i i1]; exact i4, fun _ => ?_⟩
      by_cases hi : i < l.length
      · rw [hto (i + 1) (by omega)]; exact i5 hi
      · have : i = l.length := by omega
        subst this
        rw [htl, logB_snoc]
        omega
    by_cases c2 : c < (lgApp (logB l) r).length
    · have hx : Steps ((lgApp (logB l) r).take c) st0 ⟨l, endsB l, [], false, (logB l).length⟩ := h1.same (c := (logB l).length) (by rw [List.take_take, Nat.min_eq_left (by omega), htk, List.take_length]) (Nat.le_refl _)
      obtain ⟨b1, b2⟩ := a2 c z (by omega) c2 (hx.rest hz hn)
      dsimp only at b1 b2
      refine ⟨l.length, by omega, by rw [hto _ (Nat.le_refl _), List.take_length]; exact b1, by rw [hto _ (Nat.le_refl _), List.take_length, b2]; exact h2, by rw [hto _ (Nat.le_refl _), List.take_length]; omega, fun _ => by rw [htl, logB_snoc]; exact c2⟩
    · have c3 : c = (lgApp (logB l) r).length := by omega
      subst c3
      rw [List.take_length] at hz hn
      have := hf.rest hz hn
      rcases this.cases_head with rfl | ⟨y, e1, _⟩
      · refine ⟨l.length + 1, by omega, by rw [htl], by rw [htl, logB_snoc]; exact lastN_snoc _ _, by rw [htl, logB_snoc]; exact Nat.le_refl _, fun h => by omega⟩
      · have := rdStep_at e1
        dsimp only at this
        omega
theorem rdB_log (l : List (List UInt8)) : (rdB (logB l)).out = l ∧ lastN (rdB (logB l)).ends = (logB l).length := by
  obtain ⟨h1, h2, _⟩ := log_read l
  have := rdB_is h1 (rdStep_end (Nat.le_refl _))
  rw [this]
  exact ⟨rfl, h2⟩
theorem rdB_cut (l : List (List UInt8)) (c : Nat) (hc : c ≤ (logB l).length) : ∃ i, i ≤ l.length ∧ (rdB ((logB l).take c)).out = l.take i ∧ lastN (rdB ((logB l).take c)).ends = (logB (l.take i)).length ∧ (logB (l.take i)).length ≤ c ∧ (i < l.length → c < (logB (l.take (i + 1))).length) :=
  (log_read l).2.2 c _ hc (rdB_steps _).1 (rdB_steps _).2
theorem logB_pre (l : List (List UInt8)) (i : Nat) : ∃ r, logB l = logB (l.take i) ++ r := by
  refine snoc_ind (p := fun l => ∃ r, logB l = logB (l.take i) ++ r) ⟨[], by simp⟩ (fun l a ih => ?_) l
  by_cases hi : i ≤ l.length
  · obtain ⟨r, hr⟩ := ih
    obtain ⟨q, hq⟩ := lgApp_pre (logB l) a
    rw [logB_snoc, hq, List.take_append_of_le_length hi]
    exact ⟨r ++ q, by rw [← List.append_assoc, ← hr]⟩
  · rw [List.take_of_length_le (by simp; omega)]
    exact ⟨[], by simp⟩
theorem logB_take (l : List (List UInt8)) (i : Nat) : (logB l).take (logB (l.take i)).length = logB (l.take i) := by
  obtain ⟨r, hr⟩ := logB_pre l i
  rw [hr]; simp
theorem logB_le (l : List (List UInt8)) (i : Nat) : (logB (l.take i)).length ≤ (logB l).length := by
  obtain ⟨r, hr⟩ := logB_pre l i
  rw [hr]; simp
end Go.Proofs.Ytgidmcfnnmheoaa
