/- What the plain functions come to: a shard after an answer. -/
import Derived.Test.YtofidfkojmbdoaaE2
import Derived.Test.YtofidfkojmbdoaaSB
namespace Go.Proofs.Ytofidfkojmbdoaa
open Go.RowKit P
set_option linter.unusedVariables false
set_option linter.unusedSimpArgs false

theorem witem2_of {z : VItem} (h : WF_VItem z) : WI2 z := ⟨witem_of h, by
  obtain ⟨h1, h2⟩ := h.2.2
  simp [Lit.wf, IntKind.min, IntKind.max, IntKind.signed, IntKind.bits] at h1 h2
  unfold WSmp
  omega⟩
theorem wshard2_of {s : VShard} (h : WF_VShard s) : WS2 s := ⟨wshard_of h, fun z hz => witem2_of (h.1.2 z hz)⟩

/-! ### Less of a right shard is right -/
theorem firstE_all : ∀ {l : List VItem}, (∀ z ∈ l, chkI z = 0) → firstE l = none
  | [], _ => rfl
  | y :: r, h => by
    unfold firstE
    rw [if_pos (h y List.mem_cons_self)]
    exact firstE_all fun z hz => h z (List.mem_cons_of_mem _ hz)
theorem ris_tail {y : VItem} : ∀ {r : List VItem}, risB (y :: r) = true → risB r = true
  | [], _ => rfl
  | z :: r, h => by
    unfold risB at h
    simp only [Bool.and_eq_true] at h
    exact h.2
theorem ris_drop : ∀ (n : Nat) {l : List VItem}, risB l = true → risB (l.drop n) = true
  | 0, l, h => h
  | n + 1, [], h => rfl
  | n + 1, y :: r, h => ris_drop n (ris_tail h)
def goneS (s : VShard) (n : Nat) : VShard := { s with Items := s.Items.drop n, Waits := 0, Till := 0 }
theorem gone_right {s : VShard} (h : chkS s = 0) (n : Nat) : chkS (goneS s n) = 0 := by
  obtain ⟨h1, h2, h3, h4⟩ := chkS_right h
  have hr : rightB (goneS s n) = true := by
    unfold rightB at h1 ⊢
    simp only [Bool.and_eq_true] at h1 ⊢
    exact ⟨⟨⟨⟨⟨h1.1.1.1.1.1, h1.1.1.1.1.2⟩, h1.1.1.1.2⟩, h1.1.1.2⟩, rfl⟩, rfl⟩
  have hf : firstE (s.Items.drop n) = none := firstE_all fun z hz => firstE_none h3 z (List.mem_of_mem_drop hz)
  have hl : ¬ (((s.Items.drop n).length : Nat) : Int) > s.Room := by
    rw [List.length_drop]; omega
  unfold chkS
  rw [hr]
  show (if true = false then (3 : Int) else if (((s.Items.drop n).length : Nat) : Int) > s.Room then 2 else (firstE (s.Items.drop n)).getD (if risB (s.Items.drop n) then 0 else 4)) = 0
  rw [if_neg (by decide), if_neg hl, hf, ris_drop n h4]; rfl
theorem gone_wide {s : VShard} (h : WS2 s) (n : Nat) : WS2 (goneS s n) := ⟨⟨by have := h.1.1; simp [goneS]; omega, fun z hz => h.1.2 z (List.mem_of_mem_drop hz)⟩, fun z hz => h.2 z (List.mem_of_mem_drop hz)⟩

/-! ### Done -/
def longerW (s : VShard) : Int := if s.Waits = 0 then s.First else if s.Most < 2 * s.Waits then s.Most else 2 * s.Waits
def laterT (s : VShard) (now : Int) : Int := if 9007199254740991 < now + longerW s then 9007199254740991 else now + longerW s
def lateS (s : VShard) (now : Int) : VShard := { s with Waits := longerW s, Till := laterT s now }
def doneE (s : VShard) (now a : Int) : Int := if chkN s now ≠ 0 then chkN s now else if a ≠ 200 ∧ a ≠ 400 ∧ a ≠ 0 then 7 else if s.Items = [] then 5 else 0
def doneS (s : VShard) (now a : Int) : VShard := if doneE s now a ≠ 0 then zShard else if a ≠ 0 then goneS s (nextI s).length else lateS s now
theorem longer_is {s : VShard} (h : rightB s = true) : (if (if s.First < w64 (2 * s.Waits) then w64 (2 * s.Waits) else s.First) < s.Most then (if s.First < w64 (2 * s.Waits) then w64 (2 * s.Waits) else s.First) else s.Most) = longerW s := by
  have := right_room h
  rw [w64_id (by omega) (by omega)]
  unfold longerW
  split <;> split <;> (try split) <;> (try split) <;> omega
theorem longer_room {s : VShard} (h : rightB s = true) : 1 ≤ longerW s ∧ longerW s ≤ 100000 := by
  have := right_room h
  unfold longerW
  split
  · omega
  · split <;> omega
theorem timeB_room {t : Int} (h : timeB t = true) : -9007199254740991 ≤ t ∧ t ≤ 9007199254740991 := by
  unfold timeB at h
  simp only [Bool.and_eq_true, decide_eq_true_eq] at h
  omega
theorem later_is {s : VShard} {now : Int} (h : rightB s = true) (hn : timeB now = true) : (if w64 (now + longerW s) < 9007199254740991 then w64 (now + longerW s) else 9007199254740991) = laterT s now := by
  have h1 := longer_room h
  have h2 := timeB_room hn
  rw [w64_id (by omega) (by omega)]
  unfold laterT
  split <;> split <;> omega
theorem chkN_right {s : VShard} {now : Int} (h : chkN s now = 0) : chkS s = 0 ∧ timeB now = true ∧ ¬ s.Till > now := by
  unfold chkN at h
  split at h
  · rename_i h1; exact absurd h h1
  · rename_i h1
    split at h
    · omega
    · rename_i h2
      split at h
      · omega
      · rename_i h3
        exact ⟨by omega, by simpa using h2, h3⟩
theorem nextI_len (s : VShard) : (nextI s).length ≤ s.Items.length := by unfold nextI; rw [List.length_take]; omega
theorem done7_bad (N n : Nat) (now a e : Int) (he : e ≠ 0) (i : List VItem) (s : VShard) (c0 : List VItem) (c1 c2 c3 c4 c5 c6 : Int) : shard_Done_R7 N n now a i e s c0 c1 c2 c3 c4 c5 c6 = some (zShard, e) := by
  unfold shard_Done_R7
  have : (e != 0) = true := by simpa using he
  rw [this]; rfl
theorem done7_ok (N n : Nat) (now a : Int) (s : VShard) (hc : chkS s = 0) (hn : timeB now = true) (c0 : List VItem) (c1 c2 c3 c4 c5 c6 : Int) (hN : s.Items.length < N) : shard_Done_R7 N n now a (nextI s) 0 s c0 c1 c2 c3 c4 c5 c6 = some (if a ≠ 0 then goneS s (nextI s).length else lateS s now, 0) := by
  have hr := (chkS_right hc).1
  unfold shard_Done_R7
  simp only [bne_self_eq_false, cond_false]
  by_cases ha : a = 0
  · subst ha
    simp only [bne_self_eq_false, cond_false, ne_eq, not_true, if_false]
    rw [own_is0 N _ (small_of hc) hN, Option.bind_some, longer_is hr, later_is hr hn]
    rfl
  · have : (a != 0) = true := by simpa using ha
    rw [this, cond_true, own_is N _ _ (nextI_len s) (small_of hc) hN, if_pos ha]
    rfl
theorem done5_is (N n : Nat) (now a : Int) (s : VShard) (hc : chkS s = 0) (hn : timeB now = true) (c0 : List VItem) (c1 c2 c3 c4 c5 c6 : Int) (hN : s.Items.length < N) : shard_Done_R5 N n now a (nextI s) 0 s c0 c1 c2 c3 c4 c5 c6 = some (if s.Items = [] then (zShard, 5) else (if a ≠ 0 then goneS s (nextI s).length else lateS s now, 0)) := by
  unfold shard_Done_R5
  by_cases h : s.Items = []
  · have : nextI s = [] := by unfold nextI; rw [h, List.take_nil]
    rw [this, if_pos h]
    exact done7_bad N n now a 5 (by decide) [] s c0 c1 c2 c3 c4 c5 c6
  · have h0 := nextI_ne hc h
    have : (((nextI s).length : Int) == 0) = false := by
      have := List.length_pos_iff.2 h0
      simp; exact h0
    rw [this, cond_false, done7_ok N n now a s hc hn c0 c1 c2 c3 c4 c5 c6 hN, if_neg h]
theorem done_ev (s : VShard) (now a : Int) (hw : WS2 s) : Ev (fun N => shard_Done N s now a) (doneS s now a, doneE s now a) := by
  obtain ⟨N1, h1⟩ := next_ev s now hw
  refine ⟨max N1 1500, fun N hN => ?_⟩
  have h1 := h1 N (by omega)
  simp only at h1
  show shard_Done N s now a = _
  unfold shard_Done
  rw [h1, Option.bind_some]
  by_cases hc : chkN s now = 0
  · obtain ⟨q1, q2, q3⟩ := chkN_right hc
    have hl := (small_of q1).1
    have h5 := done5_is N N now a s q1 q2 ([] : List VItem) 0 0 0 0 0 0 (by omega)
    have hgood : ¬ (a ≠ 200 ∧ a ≠ 400 ∧ a ≠ 0) → (doneS s now a, doneE s now a) = if s.Items = [] then (zShard, 5) else (if a ≠ 0 then goneS s (nextI s).length else lateS s now, 0) := fun hb => by
      unfold doneS doneE
      rw [if_neg (show ¬ chkN s now ≠ 0 by omega), if_neg hb]
      by_cases hi : s.Items = []
      · simp [hi]
      · simp [hi]
    simp only [hc, ne_eq, not_true, if_false, bne_self_eq_false, cond_false]
    by_cases a1 : a = 200
    · rw [show (a != 200) = false by simpa using a1, cond_false, h5, hgood (by omega)]
    · rw [show (a != 200) = true by simpa using a1, cond_true]
      by_cases a2 : a = 400
      · rw [show (a != 400) = false by simpa using a2, cond_false, h5, hgood (by omega)]
      · rw [show (a != 400) = true by simpa using a2, cond_true]
        by_cases a3 : a = 0
        · rw [show (a != 0) = false by simpa using a3, cond_false, h5, hgood (by omega)]
        · rw [show (a != 0) = true by simpa using a3, cond_true, done7_bad N N now a 7 (by decide)]
          have hE : doneE s now a = 7 := by unfold doneE; rw [if_neg (show ¬ chkN s now ≠ 0 by omega), if_pos ⟨a1, a2, a3⟩]
          unfold doneS
          rw [hE, if_pos (by decide)]
  · have hE : doneE s now a = chkN s now := by unfold doneE; rw [if_pos hc]
    rw [if_pos hc]
    simp only
    rw [show (chkN s now != 0) = true by simpa using hc, cond_true, done7_bad N N now a _ hc]
    unfold doneS
    rw [hE, if_pos hc]

/-! ### The reference -/
theorem refDone6_bad (N n : Nat) (now a e : Int) (he : e ≠ 0) (s : VShard) (c0 : List VItem) (c1 c2 c3 c4 c5 c6 : Int) : ref_DoneOf_R6 N n now a e s c0 c1 c2 c3 c4 c5 c6 = some (zShard, e) := by
  unfold ref_DoneOf_R6
  rw [show (e != 0) = true by simpa using he]; rfl
theorem refDone15_is (N n : Nat) (now : Int) (s : VShard) (hr : rightB s = true) (hn : timeB now = true) (c0 : List VItem) (c1 c2 c3 c4 c5 c6 : Int) : ref_DoneOf_R15 N n now { s with Waits := longerW s } c0 c1 c2 c3 c4 c5 c6 = some (lateS s now, 0) := by
  have h1 := longer_room hr
  have h2 := timeB_room hn
  unfold ref_DoneOf_R15
  simp only
  rw [w64_id (n := now + longerW s) (by omega) (by omega)]
  rfl
theorem refDone6_ok (N n : Nat) (now a : Int) (s : VShard) (hw : WS2 s) (hc : chkS s = 0) (hn : timeB now = true) (c0 : List VItem) (c1 c2 c3 c4 c5 c6 : Int) (hN : 1500 ≤ N) : ref_DoneOf_R6 N n now a 0 s c0 c1 c2 c3 c4 c5 c6 = some (if a ≠ 0 then goneS s (nextI s).length else lateS s now, 0) := by
  have hr := (chkS_right hc).1
  unfold ref_DoneOf_R6
  simp only [bne_self_eq_false, cond_false]
  by_cases ha : a = 0
  · subst ha
    simp only [bne_self_eq_false, cond_false, ne_eq, not_true, if_false]
    have h15 := refDone15_is N n now s hr hn c0 c1 c2 c3 c4 c5 c6
    have hrr := right_room hr
    by_cases hz : s.Waits = 0
    · rw [show (s.Waits == 0) = true by simpa using hz, cond_true]
      rw [show longerW s = s.First by unfold longerW; rw [if_pos hz]] at h15
      exact h15
    · rw [show (s.Waits == 0) = false by simpa using hz, cond_false, w64_id (n := 2 * s.Waits) (by omega) (by omega)]
      rw [show longerW s = if s.Most < 2 * s.Waits then s.Most else 2 * s.Waits by unfold longerW; rw [if_neg hz]] at h15
      exact h15
  · rw [show (a != 0) = true by simpa using ha, cond_true, refNextOf_is N s hc hw.2 hN, Option.bind_some, subC_drop _ _ (nextI_len s), if_pos ha]
    rfl
theorem refDone4_ok (N n : Nat) (now a : Int) (s : VShard) (hw : WS2 s) (hc : chkS s = 0) (hn : timeB now = true) (c0 : List VItem) (c1 c2 c3 c4 c5 c6 : Int) (hN : 1500 ≤ N) : ref_DoneOf_R4 N n now a 0 s c0 c1 c2 c3 c4 c5 c6 = some (if s.Items = [] then (zShard, 5) else (if a ≠ 0 then goneS s (nextI s).length else lateS s now, 0)) := by
  unfold ref_DoneOf_R4
  rw [beq_self_eq_true, cond_true]
  by_cases h : s.Items = []
  · rw [show ((s.Items.length : Int) == 0) = true by rw [h]; rfl, cond_true, if_pos h]
    exact refDone6_bad N n now a 5 (by decide) s c0 c1 c2 c3 c4 c5 c6
  · rw [show ((s.Items.length : Int) == 0) = false by simp; exact h, cond_false, if_neg h]
    exact refDone6_ok N n now a s hw hc hn c0 c1 c2 c3 c4 c5 c6 hN
theorem refDone4_bad (N n : Nat) (now a e : Int) (he : e ≠ 0) (s : VShard) (c0 : List VItem) (c1 c2 c3 c4 c5 c6 : Int) : ref_DoneOf_R4 N n now a e s c0 c1 c2 c3 c4 c5 c6 = some (zShard, e) := by
  unfold ref_DoneOf_R4
  rw [show (e == 0) = false by simpa using he, cond_false]
  exact refDone6_bad N n now a e he s c0 c1 c2 c3 c4 c5 c6
theorem refDone_ev (s : VShard) (now a : Int) (hw : WS2 s) : Ev (fun N => ref_DoneOf N s now a) (doneS s now a, doneE s now a) := by
  obtain ⟨N1, h1⟩ := refChkN_ev s now hw.1
  refine ⟨max N1 1500, fun N hN => ?_⟩
  have h1 := h1 N (by omega)
  simp only at h1
  show ref_DoneOf N s now a = _
  unfold ref_DoneOf
  rw [h1, Option.bind_some]
  by_cases hc : chkN s now = 0
  · obtain ⟨q1, q2, q3⟩ := chkN_right hc
    have h4 := refDone4_ok N N now a s hw q1 q2 ([] : List VItem) 0 0 0 0 0 0 (by omega)
    have hgood : ¬ (a ≠ 200 ∧ a ≠ 400 ∧ a ≠ 0) → (doneS s now a, doneE s now a) = if s.Items = [] then (zShard, 5) else (if a ≠ 0 then goneS s (nextI s).length else lateS s now, 0) := fun hb => by
      unfold doneS doneE
      rw [if_neg (show ¬ chkN s now ≠ 0 by omega), if_neg hb]
      by_cases hi : s.Items = []
      · simp [hi]
      · simp [hi]
    rw [hc, beq_self_eq_true, cond_true]
    by_cases a3 : a = 0
    · rw [show (a != 0) = false by simpa using a3, cond_false, h4, hgood (by omega)]
    · rw [show (a != 0) = true by simpa using a3, cond_true]
      by_cases a1 : a = 200
      · rw [show (a != 200) = false by simpa using a1, cond_false, h4, hgood (by omega)]
      · rw [show (a != 200) = true by simpa using a1, cond_true]
        by_cases a2 : a = 400
        · rw [show (a != 400) = false by simpa using a2, cond_false, h4, hgood (by omega)]
        · rw [show (a != 400) = true by simpa using a2, cond_true, refDone4_bad N N now a 7 (by decide)]
          have hE : doneE s now a = 7 := by unfold doneE; rw [if_neg (show ¬ chkN s now ≠ 0 by omega), if_pos ⟨a1, a2, a3⟩]
          unfold doneS
          rw [hE, if_pos (by decide)]
  · have hE : doneE s now a = chkN s now := by unfold doneE; rw [if_pos hc]
    rw [show (chkN s now == 0) = false by simpa using hc, cond_false, refDone4_bad N N now a _ hc]
    unfold doneS
    rw [hE, if_pos hc]
theorem done_small (s : VShard) (now a : Int) : SmallI (doneS s now a).Items := by
  unfold doneS
  split
  · exact ⟨by simp [zShard], fun z hz => by simp [zShard] at hz⟩
  · rename_i h
    have hc : chkN s now = 0 := by
      unfold doneE at h
      by_cases hc : chkN s now = 0
      · exact hc
      · rw [if_pos hc] at h; omega
    have hs := small_of (chkN_right hc).1
    split
    · exact ⟨by have := hs.1; simp [goneS]; omega, fun z hz => hs.2 z (List.mem_of_mem_drop hz)⟩
    · exact hs
end Go.Proofs.Ytofidfkojmbdoaa
