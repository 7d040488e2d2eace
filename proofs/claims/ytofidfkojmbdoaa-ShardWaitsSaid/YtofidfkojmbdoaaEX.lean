/- What the plain functions come to: shards that are pushed to. -/
import Derived.Test.YtofidfkojmbdoaaEW
namespace Go.Proofs.Ytofidfkojmbdoaa
open Go.RowKit P
set_option linter.unusedVariables false
set_option linter.unusedSimpArgs false

/-- Items that a shard may hold, by size. -/
def SmallI (l : List VItem) : Prop := l.length ≤ 1000 ∧ ∀ z ∈ l, z.Labels.length ≤ 1000
theorem appC_is {α : Type} {by_ : Nat} {l m : List α} (h : (l.length + m.length) * by_ ≤ 140737488355328) : appC by_ l m = some (l ++ m) := by unfold appC; rw [if_pos h]
theorem clone_is (N : Nat) (l : List VLabel) (h : l.length ≤ 1000) : slices_Clone_api_Label_api_Label_ N l = some l := by
  unfold slices_Clone_api_Label_api_Label_
  rw [appC_is (by simp; omega)]; rfl
theorem subC_all {α : Type} (l : List α) : subC l 0 (l.length : Int) = some l := by
  unfold subC
  rw [if_pos ⟨by omega, by omega, by omega⟩]
  simp
theorem subC_drop {α : Type} (l : List α) (i : Nat) (h : i ≤ l.length) : subC l (i : Int) (l.length : Int) = some (l.drop i) := by
  unfold subC
  rw [if_pos ⟨by omega, by omega, by omega⟩]
  simp
theorem subC_take {α : Type} (l : List α) (j : Nat) (h : j ≤ l.length) : subC l 0 (j : Int) = some (l.take j) := by
  unfold subC
  rw [if_pos ⟨by omega, by omega, by omega⟩]
  simp
theorem own_loop (N : Nat) (b1 b2 b3 b4 b5 b6 : Int) (c0 : List VItem) (c1 c2 c3 c4 c5 c6 : Int) : ∀ (r p : List VItem) (n : Nat), SmallI (p ++ r) → r.length < n → shard_own_L4 N n (p ++ r) ((p ++ r).length : Int) (p.length : Int) p b1 b2 b3 b4 b5 b6 c0 c1 c2 c3 c4 c5 c6 = some ⟨p ++ r, b1, b2, b3, b4, b5, b6⟩
  | r, p, 0, _, h => by omega
  | [], p, n + 1, hs, h => by
    unfold shard_own_L4
    rw [lt_end]; simp
  | z :: r, p, n + 1, hs, h => by
    have hl := hs.1
    simp only [List.length_append, List.length_cons] at hl
    have ih := own_loop N b1 b2 b3 b4 b5 b6 c0 c1 c2 c3 c4 c5 c6 r (p ++ [z]) n (by rw [← cat_next]; exact hs) (by simp only [List.length_cons] at h; omega)
    rw [← cat_next] at ih
    unfold shard_own_L4
    rw [lt_cat, cond_true, idxC_cat, Option.bind_some, clone_is N z.Labels (hs.2 z (by simp)), Option.bind_some, appC_is (by simp; omega), Option.bind_some, w64_next p z (by omega)]
    exact ih
theorem own_is (N : Nat) (s : VShard) (i : Nat) (hi : i ≤ s.Items.length) (hs : SmallI s.Items) (hN : s.Items.length < N) : shard_own N s (i : Int) = some { s with Items := s.Items.drop i } := by
  unfold shard_own
  rw [subC_drop _ _ hi, Option.bind_some]
  have hs' : SmallI (s.Items.drop i) := ⟨by have := hs.1; simp; omega, fun z hz => hs.2 z (List.mem_of_mem_drop hz)⟩
  have := own_loop N s.Batch s.Room s.First s.Most s.Waits s.Till [] 0 0 0 0 0 0 (s.Items.drop i) [] N (by simpa using hs') (by simp; omega)
  simpa using this
theorem own_is0 (N : Nat) (s : VShard) (hs : SmallI s.Items) (hN : s.Items.length < N) : shard_own N s 0 = some s := by
  have := own_is N s 0 (Nat.zero_le _) hs hN
  simpa using this

/-! ### Right shards are small -/
theorem each_small {l : List VLabel} (h : chkL l = 0) : l.length ≤ 20 := by
  unfold chkL at h
  split at h
  · rename_i he
    unfold eachB at he
    split at he
    · omega
    · omega
  · rename_i he; exact absurd h he
theorem chkI_small {z : VItem} (h : chkI z = 0) : z.Labels.length ≤ 20 := by
  unfold chkI at h
  split at h
  · omega
  · split at h
    · omega
    · exact each_small h
theorem firstE_none : ∀ {l : List VItem}, firstE l = none → ∀ z ∈ l, chkI z = 0
  | [], _, z, hz => by cases hz
  | y :: r, h, z, hz => by
    unfold firstE at h
    split at h
    · rename_i hy
      rcases List.mem_cons.1 hz with rfl | hz
      · exact hy
      · exact firstE_none h z hz
    · cases h
theorem firstE_ne : ∀ {l : List VItem} {e : Int}, firstE l = some e → e ≠ 0
  | [], e, h => by cases h
  | y :: r, e, h => by
    unfold firstE at h
    split at h
    · exact firstE_ne h
    · rename_i hy; cases h; exact hy
theorem chkS_right {s : VShard} (h : chkS s = 0) : rightB s = true ∧ (s.Items.length : Int) ≤ s.Room ∧ firstE s.Items = none ∧ risB s.Items = true := by
  unfold chkS at h
  split at h
  · omega
  · rename_i hr
    split at h
    · omega
    · rename_i hl
      cases hf : firstE s.Items with
      | some e =>
        rw [hf] at h
        exact absurd h (firstE_ne hf)
      | none =>
        rw [hf] at h
        simp only [Option.getD_none] at h
        cases hq : risB s.Items with
        | true => exact ⟨by simpa using hr, by omega, rfl, rfl⟩
        | false => rw [hq] at h; simp at h
theorem right_room {s : VShard} (h : rightB s = true) : 1 ≤ s.Batch ∧ s.Batch ≤ 200 ∧ 1 ≤ s.Room ∧ s.Room ≤ 100 ∧ 1 ≤ s.First ∧ s.First ≤ s.Most ∧ s.Most ≤ 100000 ∧ (s.Waits = 0 ∨ s.First ≤ s.Waits ∧ s.Waits ≤ s.Most) ∧ -9007199254740991 ≤ s.Till ∧ s.Till ≤ 9007199254740991 := by
  unfold rightB withinB timeB at h
  simp only [Bool.and_eq_true, decide_eq_true_eq, Bool.or_eq_true] at h
  omega
theorem chkS_small {s : VShard} (h : chkS s = 0) : s.Items.length ≤ 100 ∧ ∀ z ∈ s.Items, z.Labels.length ≤ 20 := by
  obtain ⟨h1, h2, h3, _⟩ := chkS_right h
  have := right_room h1
  exact ⟨by omega, fun z hz => chkI_small (firstE_none h3 z hz)⟩
theorem small_of {s : VShard} (h : chkS s = 0) : SmallI s.Items := ⟨by have := (chkS_small h).1; omega, fun z hz => by have := (chkS_small h).2 z hz; omega⟩

/-! ### The same -/
theorem sameL_loop (N : Nat) : ∀ (r p : List VLabel) (n : Nat), (p ++ r).length < 140737488355328 → r.length < n → ref_SameLabels_L4 N n (p ++ r) (p ++ r) (p.length : Int) = some true
  | r, p, 0, _, h => by omega
  | [], p, n + 1, hs, h => by
    unfold ref_SameLabels_L4
    rw [lt_end]; rfl
  | z :: r, p, n + 1, hs, h => by
    have ih := sameL_loop N r (p ++ [z]) n (by rw [← cat_next]; exact hs) (by simp only [List.length_cons] at h; omega)
    rw [← cat_next] at ih
    have hb : (beqS z.Name z.Name && (beqS z.Value z.Value && true)) = true := by simp [beqS]
    unfold ref_SameLabels_L4
    rw [lt_cat, cond_true, idxC_cat, Option.bind_some, Option.bind_some, hb, w64_next p z (by simp at hs; omega)]
    exact ih
theorem sameL_is (N : Nat) (l : List VLabel) (hl : l.length < 140737488355328) (hN : l.length < N) : ref_SameLabels N l l = some true := by
  unfold ref_SameLabels
  have := sameL_loop N l [] N (by simpa using hl) hN
  simpa using this
theorem sameI_loop (N : Nat) : ∀ (r p : List VItem) (n : Nat), (p ++ r).length < 140737488355328 → (∀ z ∈ r, z.Labels.length < 140737488355328 ∧ z.Labels.length < N) → r.length < n → ref_SameItems_L4 N n (p ++ r) (p ++ r) (p.length : Int) = some true
  | r, p, 0, _, _, h => by omega
  | [], p, n + 1, hs, hw, h => by
    unfold ref_SameItems_L4
    rw [lt_end]; rfl
  | z :: r, p, n + 1, hs, hw, h => by
    have ih := sameI_loop N r (p ++ [z]) n (by rw [← cat_next]; exact hs) (fun y hy => hw y (List.mem_cons_of_mem _ hy)) (by simp only [List.length_cons] at h; omega)
    rw [← cat_next] at ih
    obtain ⟨w1, w2⟩ := hw z List.mem_cons_self
    have hb : (beqI z.Sample.Time z.Sample.Time && (beqI z.Sample.Bits z.Sample.Bits && true)) = true := by simp [beqI]
    unfold ref_SameItems_L4
    rw [lt_cat, cond_true, idxC_cat]
    simp only [Option.bind_some, hb, sameL_is N z.Labels w1 w2, bne_self_eq_false, Bool.not_true, cond_false]
    rw [w64_next p z (by simp at hs; omega)]
    exact ih
theorem sameI_is (N : Nat) (l : List VItem) (hl : l.length < 140737488355328) (hw : ∀ z ∈ l, z.Labels.length < 140737488355328 ∧ z.Labels.length < N) (hN : l.length < N) : ref_SameItems N l l = some true := by
  unfold ref_SameItems
  have := sameI_loop N l [] N (by simpa using hl) hw hN
  simpa using this
theorem sameS_is (N : Nat) (s : VShard) (hl : s.Items.length < 140737488355328) (hw : ∀ z ∈ s.Items, z.Labels.length < 140737488355328 ∧ z.Labels.length < N) (hN : s.Items.length < N) : ref_SameShard N s s = some true := by
  unfold ref_SameShard
  rw [sameI_is N _ hl hw hN]
  simp
theorem small_same (N : Nat) {s : VShard} (h : SmallI s.Items) (hN : 1001 ≤ N) : ref_SameShard N s s = some true := by
  have := h.1
  exact sameS_is N s (by omega) (fun z hz => by have := h.2 z hz; omega) (by omega)

/-! ### Push -/
def zShard : VShard := { Items := [], Batch := 0, Room := 0, First := 0, Most := 0, Waits := 0, Till := 0 }
def lastLe (l : List VItem) (i : VItem) : Bool := match l.getLast? with
  | some z => decide (i.Number ≤ z.Number)
  | none => false
def pushE (s : VShard) (i : VItem) : Int := if chkS s ≠ 0 then chkS s else if chkI i ≠ 0 then chkI i else if lastLe s.Items i then 4 else if (s.Items.length : Int) = s.Room then 2 else 0
def pushS (s : VShard) (i : VItem) : VShard := if pushE s i ≠ 0 then zShard else { s with Items := s.Items ++ [i] }
theorem last_get {l : List VItem} (hl : l.length < 140737488355328) (h : (l.length : Int) > 0) : ∃ z, l.getLast? = some z ∧ idxC l (w64 ((l.length : Int) - 1)) = some z := by
  have hp : l.length - 1 < l.length := by omega
  refine ⟨l[l.length - 1], by rw [List.getLast?_eq_getElem?, List.getElem?_eq_getElem hp], ?_⟩
  rw [w64_id (by omega) (by omega), show (l.length : Int) - 1 = ((l.length - 1 : Nat) : Int) by omega]
  exact idxC_get hp
theorem push10_bad (N n : Nat) (e : Int) (he : e ≠ 0) (b2 : VShard) (b3 : VItem) (c0 : List VItem) (c1 c2 c3 c4 c5 c6 : Int) : shard_Push_R10 N n e b2 b3 c0 c1 c2 c3 c4 c5 c6 = some (zShard, e) := by
  unfold shard_Push_R10
  have : (e != 0) = true := by simpa using he
  rw [this]; rfl
theorem push10_ok (N n : Nat) (s : VShard) (i : VItem) (c0 : List VItem) (c1 c2 c3 c4 c5 c6 : Int) (hs : SmallI (s.Items ++ [i])) (hN : s.Items.length + 1 < N) : shard_Push_R10 N n 0 s i c0 c1 c2 c3 c4 c5 c6 = some ({ s with Items := s.Items ++ [i] }, 0) := by
  unfold shard_Push_R10
  have hl := hs.1
  simp only [List.length_append, List.length_cons, List.length_nil] at hl
  have ha : appCl 48 s.Items ([i] : List VItem) = some (s.Items ++ [i]) := by
    show appC 48 s.Items [i] = _
    exact appC_is (by simp; omega)
  rw [ha]
  simp only [bne_self_eq_false, cond_false, Option.bind_some]
  rw [own_is0 N _ hs (by simp; omega)]
  rfl
theorem push_ev (s : VShard) (i : VItem) (hw : WShard s) (hi : WItem i) : Ev (fun N => shard_Push N s i) (pushS s i, pushE s i) := by
  obtain ⟨N1, h1⟩ := shardCheck_ev s hw
  obtain ⟨N2, h2⟩ := checkItem_ev i hi
  refine ⟨max N1 (max N2 1010), fun N hN => ?_⟩
  have h1 := h1 N (by omega)
  have h2 := h2 N (by omega)
  simp only at h1 h2
  show shard_Push N s i = _
  unfold shard_Push
  rw [h1, Option.bind_some, h2, Option.bind_some]
  by_cases hc : chkS s = 0
  · have hc1 : (chkS s == 0) = true := by simpa using hc
    rw [hc1, cond_true]
    unfold shard_Push_R4
    by_cases hk : chkI i = 0
    · rw [hk]
      simp only [bne_self_eq_false, cond_false]
      have hsm : SmallI (s.Items ++ [i]) := by
        obtain ⟨q1, q2⟩ := chkS_small hc
        refine ⟨by simp; omega, fun z hz => ?_⟩
        rcases List.mem_append.1 hz with hz | hz
        · have := q2 z hz; omega
        · simp at hz; subst hz; have := chkI_small hk; omega
      have fin : lastLe s.Items i = false → shard_Push_R8 N N 0 (s.Items.length : Int) s i ([] : List VItem) 0 0 0 0 0 0 = some (pushS s i, pushE s i) := fun hlast => by
        have hE : pushE s i = if (s.Items.length : Int) = s.Room then 2 else 0 := by unfold pushE; simp [hc, hk, hlast]
        unfold shard_Push_R8
        by_cases hr : (s.Items.length : Int) = s.Room
        · have : ((s.Items.length : Int) == s.Room) = true := by simpa using hr
          rw [this, cond_true, push10_bad N N 2 (by decide)]
          rw [if_pos hr] at hE
          simp [pushS, hE]
        · have : ((s.Items.length : Int) == s.Room) = false := by simpa using hr
          rw [this, cond_false, push10_ok N N s i _ _ _ _ _ _ _ hsm (by have := (chkS_small hc).1; omega)]
          rw [if_neg hr] at hE
          simp [pushS, hE]
      by_cases hl : (s.Items.length : Int) > 0
      · have : decide ((s.Items.length : Int) > 0) = true := by simpa using hl
        obtain ⟨z, z1, z2⟩ := last_get hw.1 hl
        rw [this, cond_true, z2, Option.bind_some]
        by_cases hq : i.Number ≤ z.Number
        · have hq1 : decide (i.Number ≤ z.Number) = true := by simpa using hq
          have hE : pushE s i = 4 := by unfold pushE lastLe; simp [hc, hk, z1, hq]
          rw [hq1, cond_true, push10_bad N N 4 (by decide)]
          simp [pushS, hE]
        · have hq1 : decide (i.Number ≤ z.Number) = false := by simpa using hq
          rw [hq1, cond_false]
          exact fin (by unfold lastLe; rw [z1]; exact hq1)
      · have : decide ((s.Items.length : Int) > 0) = false := by simpa using hl
        rw [this, cond_false]
        refine fin ?_
        have h0 : s.Items = [] := List.length_eq_zero_iff.1 (by omega)
        rw [h0]; rfl
    · have hk1 : (chkI i != 0) = true := by simpa using hk
      have hE : pushE s i = chkI i := by unfold pushE; simp [hc, hk]
      rw [hk1, cond_true, push10_bad N N _ hk]
      simp [pushS, hE, hk]
  · have hc1 : (chkS s == 0) = false := by simpa using hc
    have hc2 : (chkS s != 0) = true := by simpa using hc
    have hE : pushE s i = chkS s := by unfold pushE; simp [hc]
    rw [hc1, cond_false]
    unfold shard_Push_R4
    rw [hc2, cond_true, push10_bad N N _ hc]
    simp [pushS, hE, hc]
end Go.Proofs.Ytofidfkojmbdoaa
