/- labels.IsName, walked: a range over a string. -/
import Derived.Test.YtgmlkhfjhogdbaaK
import Derived.Laws.BytesString
import Derived.LoopTactic
import Derived.Laws.RangeAny
namespace Go.Proofs.Ytgmlkhfjhogdbaa
open Go.RowKit P
set_option linter.unusedSimpArgs false
set_option linter.unusedVariables false
/-- May a byte stand in a name, at this place? -/
def nmC (i : Nat) (c : Nat) : Bool := (decide (97 ≤ c) && decide (c ≤ 122) || decide (65 ≤ c) && decide (c ≤ 90) || decide (c = 95)) || (decide (i ≠ 0) && (decide (48 ≤ c) && decide (c ≤ 57)))
def nmAt (s : ByteArray) : Nat → Nat → Bool
  | 0, _ => true
  | b + 1, i => if h : i < s.size then nmC i (s[i]'h).toNat && nmAt s b (i + 1) else true
def nmB (s : ByteArray) : Bool := nmAt s s.size 0 && decide (0 < s.size) && decide (s.size ≤ 40)
theorem nmAt_end {s : ByteArray} {b i : Nat} (h : ¬ i < s.size) : nmAt s b i = true := by
  cases b with
  | zero => rfl
  | succ b => simp [nmAt, h]
theorem width_pos' (s : ByteArray) (pos : Nat) (h : pos < s.size) : 1 ≤ (Utf8.decode s pos).2 := by
  by_cases ha : (s[pos]'h).toNat < 128
  · rw [decode_ascii s pos h ha]
    exact Nat.le_refl _
  · exact (decode_high s pos h (by omega)).2
theorem nmC_dec (s : ByteArray) (pos : Nat) (h : pos < s.size) : nmC pos (s[pos]'h).toNat = nmC pos (Utf8.decode s pos).1 := by
  by_cases ha : (s[pos]'h).toNat < 128
  · rw [decode_ascii s pos h ha]
  · have h1 := (decode_high s pos h (by omega)).1
    have h2 : ∀ c, 128 ≤ c → nmC pos c = false := fun c hc => by
      unfold nmC
      simp only [decide_eq_true_eq, Bool.or_eq_false_iff, Bool.and_eq_false_iff, decide_eq_false_iff_not]
      omega
    rw [h2 _ h1, h2 _ (by omega)]
theorem size_toList' (s : ByteArray) : s.toList.length = s.size := by rw [ByteArray.toList_eq]; rfl
theorem nmAt_step {s : ByteArray} {b pos r : Nat} (hp : pos < s.size) (hb : s.size ≤ pos + b) (hnm : nmC pos (s[pos]'hp).toNat = nmC pos r) (hq : nmC pos r = true) : nmAt s (b - 1) (pos + 1) = nmAt s b pos := by
  cases b with
  | zero => omega
  | succ b =>
    show nmAt s b (pos + 1) = if h : pos < s.size then nmC pos (s[pos]'h).toNat && nmAt s b (pos + 1) else true
    rw [dif_pos hp, hnm, hq, Bool.true_and]
theorem nmAt_stop {s : ByteArray} {b pos r : Nat} (hp : pos < s.size) (hb : s.size ≤ pos + b) (hnm : nmC pos (s[pos]'hp).toNat = nmC pos r) (hq : nmC pos r = false) : nmAt s b pos = false := by
  cases b with
  | zero => omega
  | succ b =>
    show (if h : pos < s.size then nmC pos (s[pos]'h).toNat && nmAt s b (pos + 1) else true) = false
    rw [dif_pos hp, hnm, hq, Bool.false_and]
theorem decode_one (s : ByteArray) (pos : Nat) (h : pos < s.size) (h1 : (Utf8.decode s pos).1 < 128) : (Utf8.decode s pos).2 = 1 := by
  by_cases ha : (s[pos]'h).toNat < 128
  · rw [decode_ascii s pos h ha]
  · have := (decode_high s pos h (by omega)).1; omega
set_option maxHeartbeats 4000000 in
set_option maxRecDepth 1000000 in
theorem isName_walk (s : ByteArray) (hs : s.size < 9223372036854775808) (w : World) : Calls Try.prog 48 #[.string s] w fun e w' => e = .returned (.bool (nmB s)) ∧ ∃ pos, w' = w.iter s pos := by
  go_enter Try.func48, Try.ntmps48
  go_wp2
  go_loopw [2] (fun v w' => ∃ pos b : Nat, w' = w.iter s pos ∧ v = .bool false ∧ nmAt s b pos = nmAt s s.size 0 ∧ s.size ≤ pos + b) (fun _ w' => s.size - w'.iterPos w.heap.size)
  case atStart => exact ⟨0, s.size, rfl, rfl, rfl, by omega⟩
  case round =>
    obtain ⟨pos, b, rfl, rfl, hc, hb⟩ := hrel
    by_cases hp : pos < s.size
    · have hnx : ∀ ty, (Instr.next (.pointer (some ⟨w.heap.size, 0, none⟩)) true ty).run Try.prog (w.iter s pos) = _ := fun ty => run_next_any w s pos ty hp
      have hwd := width_pos' s pos hp
      have hnm := nmC_dec s pos hp
      have hr1 := decode_one s pos hp
      generalize (Utf8.decode s pos).1 = r at hnx hnm hr1
      generalize (Utf8.decode s pos).2 = n at hnx hwd hr1
      have hcase : (97 ≤ r ∧ r ≤ 122) ∨ (65 ≤ r ∧ r ≤ 90) ∨ (r = 95) ∨ (48 ≤ r ∧ r ≤ 57 ∧ pos ≠ 0) ∨ (48 ≤ r ∧ r ≤ 57 ∧ pos = 0) ∨ (r < 48 ∧ pos ≠ 0) ∨ (r < 48 ∧ pos = 0) ∨ (58 ≤ r ∧ r ≤ 64 ∧ pos ≠ 0) ∨ (58 ≤ r ∧ r ≤ 64 ∧ pos = 0) ∨ (91 ≤ r ∧ r ≤ 94 ∧ pos ≠ 0) ∨ (91 ≤ r ∧ r ≤ 94 ∧ pos = 0) ∨ (r = 96 ∧ pos ≠ 0) ∨ (r = 96 ∧ pos = 0) ∨ (123 ≤ r ∧ pos ≠ 0) ∨ (123 ≤ r ∧ pos = 0) := by omega
      rcases hcase with hh | hh | hh | hh | hh | hh | hh | hh | hh | hh | hh | hh | hh | hh | hh
      · -- 97 ≤ r ∧ r ≤ 122
        have f0 : (97 : Int) ≤ (r : Int) := by omega
        have f1 : (r : Int) ≤ 122 := by omega
        go_wp2
        have hn1 := hr1 (by omega)
        subst hn1
        have hq : nmC pos r = true := by unfold nmC; simp; omega
        refine ⟨⟨pos + 1, b - 1, rfl, rfl, (nmAt_step hp hb hnm hq).trans hc, by omega⟩, ?_⟩
        simp
        omega
      · -- 65 ≤ r ∧ r ≤ 90
        have f0 : ¬ (97 : Int) ≤ (r : Int) := by omega
        have f1 : (65 : Int) ≤ (r : Int) := by omega
        have f2 : (r : Int) ≤ 90 := by omega
        go_wp2
        have hn1 := hr1 (by omega)
        subst hn1
        have hq : nmC pos r = true := by unfold nmC; simp; omega
        refine ⟨⟨pos + 1, b - 1, rfl, rfl, (nmAt_step hp hb hnm hq).trans hc, by omega⟩, ?_⟩
        simp
        omega
      · -- r = 95
        have f0 : ¬ (97 : Int) ≤ (r : Int) := by omega
        have f1 : (65 : Int) ≤ (r : Int) := by omega
        have f2 : ¬ (r : Int) ≤ 90 := by omega
        have f3 : ((r : Int) == 95) = true := by simp; omega
        go_wp2
        have hn1 := hr1 (by omega)
        subst hn1
        have hq : nmC pos r = true := by unfold nmC; simp; omega
        refine ⟨⟨pos + 1, b - 1, rfl, rfl, (nmAt_step hp hb hnm hq).trans hc, by omega⟩, ?_⟩
        simp
        omega
      · -- 48 ≤ r ∧ r ≤ 57 ∧ pos ≠ 0
        have f0 : ¬ (97 : Int) ≤ (r : Int) := by omega
        have f1 : ¬ (65 : Int) ≤ (r : Int) := by omega
        have f2 : ((r : Int) == 95) = false := by simp; omega
        have f3 : ((pos : Int) == 0) = false := by simp; omega
        have f4 : ¬ (r : Int) < 48 := by omega
        have f5 : ¬ (57 : Int) < (r : Int) := by omega
        go_wp2
        have hn1 := hr1 (by omega)
        subst hn1
        have hq : nmC pos r = true := by unfold nmC; simp; omega
        refine ⟨⟨pos + 1, b - 1, rfl, rfl, (nmAt_step hp hb hnm hq).trans hc, by omega⟩, ?_⟩
        simp
        omega
      · -- 48 ≤ r ∧ r ≤ 57 ∧ pos = 0
        have f0 : ¬ (97 : Int) ≤ (r : Int) := by omega
        have f1 : ¬ (65 : Int) ≤ (r : Int) := by omega
        have f2 : ((r : Int) == 95) = false := by simp; omega
        obtain rfl : pos = 0 := by omega
        have hnx' : ∀ ty, (Instr.next (.pointer (some ⟨w.heap.size, 0, none⟩)) true ty).run Try.prog (w.iter s 0) = .ok (.tuple #[.bool true, .int .i64 0, .int .i32 r]) (w.iter s (0 + n)) := fun ty => by simpa using hnx ty
        clear hnx
        go_wp2
        have hq : nmC 0 r = false := by unfold nmC; simp; omega
        have hz := nmAt_stop hp hb hnm hq
        rw [hc] at hz
        go_ret
        exact ⟨by simp [nmB, hz], _, rfl⟩
      · -- r < 48 ∧ pos ≠ 0
        have f0 : ¬ (97 : Int) ≤ (r : Int) := by omega
        have f1 : ¬ (65 : Int) ≤ (r : Int) := by omega
        have f2 : ((r : Int) == 95) = false := by simp; omega
        have f3 : ((pos : Int) == 0) = false := by simp; omega
        have f4 : (r : Int) < 48 := by omega
        go_wp2
        have hq : nmC pos r = false := by unfold nmC; simp; omega
        have hz := nmAt_stop hp hb hnm hq
        rw [hc] at hz
        go_ret
        exact ⟨by simp [nmB, hz], _, rfl⟩
      · -- r < 48 ∧ pos = 0
        have f0 : ¬ (97 : Int) ≤ (r : Int) := by omega
        have f1 : ¬ (65 : Int) ≤ (r : Int) := by omega
        have f2 : ((r : Int) == 95) = false := by simp; omega
        obtain rfl : pos = 0 := by omega
        have hnx' : ∀ ty, (Instr.next (.pointer (some ⟨w.heap.size, 0, none⟩)) true ty).run Try.prog (w.iter s 0) = .ok (.tuple #[.bool true, .int .i64 0, .int .i32 r]) (w.iter s (0 + n)) := fun ty => by simpa using hnx ty
        clear hnx
        go_wp2
        have hq : nmC 0 r = false := by unfold nmC; simp; omega
        have hz := nmAt_stop hp hb hnm hq
        rw [hc] at hz
        go_ret
        exact ⟨by simp [nmB, hz], _, rfl⟩
      · -- 58 ≤ r ∧ r ≤ 64 ∧ pos ≠ 0
        have f0 : ¬ (97 : Int) ≤ (r : Int) := by omega
        have f1 : ¬ (65 : Int) ≤ (r : Int) := by omega
        have f2 : ((r : Int) == 95) = false := by simp; omega
        have f3 : ((pos : Int) == 0) = false := by simp; omega
        have f4 : ¬ (r : Int) < 48 := by omega
        have f5 : (57 : Int) < (r : Int) := by omega
        go_wp2
        have hq : nmC pos r = false := by unfold nmC; simp; omega
        have hz := nmAt_stop hp hb hnm hq
        rw [hc] at hz
        go_ret
        exact ⟨by simp [nmB, hz], _, rfl⟩
      · -- 58 ≤ r ∧ r ≤ 64 ∧ pos = 0
        have f0 : ¬ (97 : Int) ≤ (r : Int) := by omega
        have f1 : ¬ (65 : Int) ≤ (r : Int) := by omega
        have f2 : ((r : Int) == 95) = false := by simp; omega
        obtain rfl : pos = 0 := by omega
        have hnx' : ∀ ty, (Instr.next (.pointer (some ⟨w.heap.size, 0, none⟩)) true ty).run Try.prog (w.iter s 0) = .ok (.tuple #[.bool true, .int .i64 0, .int .i32 r]) (w.iter s (0 + n)) := fun ty => by simpa using hnx ty
        clear hnx
        go_wp2
        have hq : nmC 0 r = false := by unfold nmC; simp; omega
        have hz := nmAt_stop hp hb hnm hq
        rw [hc] at hz
        go_ret
        exact ⟨by simp [nmB, hz], _, rfl⟩
      · -- 91 ≤ r ∧ r ≤ 94 ∧ pos ≠ 0
        have f0 : ¬ (97 : Int) ≤ (r : Int) := by omega
        have f1 : (65 : Int) ≤ (r : Int) := by omega
        have f2 : ¬ (r : Int) ≤ 90 := by omega
        have f3 : ((r : Int) == 95) = false := by simp; omega
        have f4 : ((pos : Int) == 0) = false := by simp; omega
        have f5 : ¬ (r : Int) < 48 := by omega
        have f6 : (57 : Int) < (r : Int) := by omega
        go_wp2
        have hq : nmC pos r = false := by unfold nmC; simp; omega
        have hz := nmAt_stop hp hb hnm hq
        rw [hc] at hz
        go_ret
        exact ⟨by simp [nmB, hz], _, rfl⟩
      · -- 91 ≤ r ∧ r ≤ 94 ∧ pos = 0
        have f0 : ¬ (97 : Int) ≤ (r : Int) := by omega
        have f1 : (65 : Int) ≤ (r : Int) := by omega
        have f2 : ¬ (r : Int) ≤ 90 := by omega
        have f3 : ((r : Int) == 95) = false := by simp; omega
        obtain rfl : pos = 0 := by omega
        have hnx' : ∀ ty, (Instr.next (.pointer (some ⟨w.heap.size, 0, none⟩)) true ty).run Try.prog (w.iter s 0) = .ok (.tuple #[.bool true, .int .i64 0, .int .i32 r]) (w.iter s (0 + n)) := fun ty => by simpa using hnx ty
        clear hnx
        go_wp2
        have hq : nmC 0 r = false := by unfold nmC; simp; omega
        have hz := nmAt_stop hp hb hnm hq
        rw [hc] at hz
        go_ret
        exact ⟨by simp [nmB, hz], _, rfl⟩
      · -- r = 96 ∧ pos ≠ 0
        have f0 : ¬ (97 : Int) ≤ (r : Int) := by omega
        have f1 : (65 : Int) ≤ (r : Int) := by omega
        have f2 : ¬ (r : Int) ≤ 90 := by omega
        have f3 : ((r : Int) == 95) = false := by simp; omega
        have f4 : ((pos : Int) == 0) = false := by simp; omega
        have f5 : ¬ (r : Int) < 48 := by omega
        have f6 : (57 : Int) < (r : Int) := by omega
        go_wp2
        have hq : nmC pos r = false := by unfold nmC; simp; omega
        have hz := nmAt_stop hp hb hnm hq
        rw [hc] at hz
        go_ret
        exact ⟨by simp [nmB, hz], _, rfl⟩
      · -- r = 96 ∧ pos = 0
        have f0 : ¬ (97 : Int) ≤ (r : Int) := by omega
        have f1 : (65 : Int) ≤ (r : Int) := by omega
        have f2 : ¬ (r : Int) ≤ 90 := by omega
        have f3 : ((r : Int) == 95) = false := by simp; omega
        obtain rfl : pos = 0 := by omega
        have hnx' : ∀ ty, (Instr.next (.pointer (some ⟨w.heap.size, 0, none⟩)) true ty).run Try.prog (w.iter s 0) = .ok (.tuple #[.bool true, .int .i64 0, .int .i32 r]) (w.iter s (0 + n)) := fun ty => by simpa using hnx ty
        clear hnx
        go_wp2
        have hq : nmC 0 r = false := by unfold nmC; simp; omega
        have hz := nmAt_stop hp hb hnm hq
        rw [hc] at hz
        go_ret
        exact ⟨by simp [nmB, hz], _, rfl⟩
      · -- 123 ≤ r ∧ pos ≠ 0
        have f0 : (97 : Int) ≤ (r : Int) := by omega
        have f1 : ¬ (r : Int) ≤ 122 := by omega
        have f2 : (65 : Int) ≤ (r : Int) := by omega
        have f3 : ¬ (r : Int) ≤ 90 := by omega
        have f4 : ((r : Int) == 95) = false := by simp; omega
        have f5 : ((pos : Int) == 0) = false := by simp; omega
        have f6 : ¬ (r : Int) < 48 := by omega
        have f7 : (57 : Int) < (r : Int) := by omega
        go_wp2
        have hq : nmC pos r = false := by unfold nmC; simp; omega
        have hz := nmAt_stop hp hb hnm hq
        rw [hc] at hz
        go_ret
        exact ⟨by simp [nmB, hz], _, rfl⟩
      · -- 123 ≤ r ∧ pos = 0
        have f0 : (97 : Int) ≤ (r : Int) := by omega
        have f1 : ¬ (r : Int) ≤ 122 := by omega
        have f2 : (65 : Int) ≤ (r : Int) := by omega
        have f3 : ¬ (r : Int) ≤ 90 := by omega
        have f4 : ((r : Int) == 95) = false := by simp; omega
        obtain rfl : pos = 0 := by omega
        have hnx' : ∀ ty, (Instr.next (.pointer (some ⟨w.heap.size, 0, none⟩)) true ty).run Try.prog (w.iter s 0) = .ok (.tuple #[.bool true, .int .i64 0, .int .i32 r]) (w.iter s (0 + n)) := fun ty => by simpa using hnx ty
        clear hnx
        go_wp2
        have hq : nmC 0 r = false := by unfold nmC; simp; omega
        have hz := nmAt_stop hp hb hnm hq
        rw [hc] at hz
        go_ret
        exact ⟨by simp [nmB, hz], _, rfl⟩
    · have hnx : ∀ ty, (Instr.next (.pointer (some ⟨w.heap.size, 0, none⟩)) true ty).run Try.prog (w.iter s pos) = _ := fun ty => run_next_end w s pos ty hp
      rw [nmAt_end hp] at hc
      have hB : nmB s = (decide (0 < s.size) && decide (s.size ≤ 40)) := by unfold nmB; rw [← hc, Bool.true_and]
      clear hc
      by_cases h0 : s.size = 0
      · have hs0 : s = ⟨#[]⟩ := by
          rcases s with ⟨⟨l⟩⟩
          cases l with
          | nil => rfl
          | cons x l => exact absurd h0 (by simp [ByteArray.size])
        subst hs0
        go_wp2
        go_ret
        exact ⟨rfl, _, rfl⟩
      · have hne : s ≠ ⟨#[]⟩ := fun e => h0 (by rw [e]; rfl)
        have hl : ¬ s.toList = [] := fun e => hne (by
          have h1 : (s == (⟨#[]⟩ : ByteArray)) = true := by
            have := size_toList' s
            rw [e] at this
            exact absurd this.symm h0
          exact (MapKept.bytes_beq _ _).1 h1)
        have hle : s.toList.isEmpty = false := by cases hq : s.toList with
          | nil => exact absurd hq hl
          | cons => rfl
        have hnb : nmB s = decide (s.size ≤ 40) := by rw [hB]; simp; omega
        clear hB
        by_cases h40 : s.size ≤ 40
        · have hi : ((s.size : Nat) : Int) ≤ 40 := by omega
          go_wp2
          go_ret
          exact ⟨by simp [hle, hnb, h40], _, rfl⟩
        · have hi : ¬ ((s.size : Nat) : Int) ≤ 40 := by omega
          go_wp2
          go_ret
          exact ⟨by simp [hnb, h40], _, rfl⟩
end Go.Proofs.Ytgmlkhfjhogdbaa
