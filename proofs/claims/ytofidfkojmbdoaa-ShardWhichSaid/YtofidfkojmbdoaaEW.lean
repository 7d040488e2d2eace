/- What the plain functions come to: labels and shards, checked. -/
import Derived.Test.YtofidfkojmbdoaaEV
namespace Go.Proofs.Ytofidfkojmbdoaa
open Go.RowKit P
set_option linter.unusedVariables false
set_option linter.unusedSimpArgs false

def adjB : List VLabel → Bool
  | a :: b :: r => !Op.bytesLess b.Name a.Name && adjB (b :: r)
  | _ => true
theorem adjB_snoc : ∀ (p : List VLabel) (a b : VLabel), adjB (p ++ [a, b]) = (adjB (p ++ [a]) && !Op.bytesLess b.Name a.Name)
  | [], a, b => by simp [adjB]
  | [x], a, b => by simp [adjB, Bool.and_assoc]
  | x :: y :: p, a, b => by
    have ih := adjB_snoc (y :: p) a b
    simp only [List.cons_append] at ih ⊢
    simp only [adjB, ih, Bool.and_assoc]
theorem byName_is (N : Nat) (a b : VLabel) : (labels_byName N a b).bind (fun z => some (decide (z < 0))) = some (Op.bytesLess a.Name b.Name) := by
  unfold labels_byName cmp_Compare_string_ cmp_isNaN_string_
  simp only [Option.bind_some, decide_true, Bool.not_true, cond_false]
  cases Op.bytesLess a.Name b.Name with
  | true => simp
  | false =>
    simp only [cond_false, Bool.false_or]
    by_cases h : a.Name = b.Name
    · simp [h]
    · simp [h]
theorem byName_get (N : Nat) (a b : VLabel) : ∃ z, labels_byName N a b = some z ∧ decide (z < 0) = Op.bytesLess a.Name b.Name := by
  have h := byName_is N a b
  cases hz : labels_byName N a b with
  | none => rw [hz] at h; cases h
  | some z => rw [hz] at h; exact ⟨z, rfl, by simpa using h⟩
theorem sorted_loop (N : Nat) (l : List VLabel) (hl : l.length < 140737488355328) : ∀ (i n : Nat), i < n → i < l.length → slices_IsSortedFunc_api_Label_api_Label__i0_L2 N n l (i : Int) = some (adjB (l.take (i + 1)))
  | i, 0, h, _ => by omega
  | 0, n + 1, _, hi => by
    unfold slices_IsSortedFunc_api_Label_api_Label__i0_L2
    cases l with
    | nil => simp at hi
    | cons a l => simp [adjB]
  | i + 1, n + 1, h, hi => by
    have ih := sorted_loop N l hl i n (by omega) (by omega)
    obtain ⟨z, hz1, hz2⟩ := byName_get N (l[i + 1]'hi) (l[i]'(by omega))
    unfold slices_IsSortedFunc_api_Label_api_Label__i0_L2
    have h1 : decide (((i + 1 : Nat) : Int) > 0) = true := decide_eq_true (by omega)
    have h2 : w64 (((i + 1 : Nat) : Int) - 1) = (i : Int) := by rw [w64_id (by omega) (by omega)]; omega
    rw [h1, cond_true, idxC_get hi, Option.bind_some, h2, idxC_get (by omega), Option.bind_some, hz1, Option.bind_some, hz2, ih]
    have h3 : l.take (i + 1 + 1) = l.take i ++ [l[i]'(by omega), l[i + 1]'hi] := by
      rw [List.take_succ_eq_append_getElem hi, List.take_succ_eq_append_getElem (by omega : i < l.length), List.append_assoc]; rfl
    have h4 : l.take (i + 1) = l.take i ++ [l[i]'(by omega)] := List.take_succ_eq_append_getElem (by omega)
    rw [h3, adjB_snoc, ← h4]
    cases Op.bytesLess (l[i + 1]'hi).Name (l[i]'(by omega)).Name <;> simp
theorem sorted_ev (l : List VLabel) (hl : l.length < 140737488355328) : Ev (fun N => slices_IsSortedFunc_api_Label_api_Label__i0 N l) (adjB l) := ⟨l.length + 1, fun N hN => by
  show slices_IsSortedFunc_api_Label_api_Label__i0 N l = _
  unfold slices_IsSortedFunc_api_Label_api_Label__i0
  cases l with
  | nil =>
    have : w64 ((([] : List VLabel).length : Int) - 1) = -1 := by rw [w64_id] <;> simp
    rw [this]
    cases N with
    | zero => omega
    | succ n =>
      unfold slices_IsSortedFunc_api_Label_api_Label__i0_L2
      simp [adjB]
  | cons a l =>
    have : w64 ((((a :: l).length : Nat) : Int) - 1) = (l.length : Int) := by
      have h1 : ((a :: l).length : Int) = (l.length : Int) + 1 := by simp
      rw [w64_id (by simp only [List.length_cons] at hl; omega) (by simp only [List.length_cons] at hl; omega)]; omega
    rw [this, sorted_loop N (a :: l) hl l.length N (by simp only [List.length_cons] at hN; omega) (by simp)]
    simp⟩
def chkL (l : List VLabel) : Int := if eachB false l = 0 then (if adjB l then 0 else 4) else eachB false l
theorem check_ev (l : List VLabel) (hw : WLab l) : Ev (fun N => labels_Check N l) (chkL l) := by
  obtain ⟨N1, h1⟩ := eachB_ev false l hw
  obtain ⟨N2, h2⟩ := sorted_ev l hw.1
  refine ⟨max N1 N2, fun N hN => ?_⟩
  show labels_Check N l = _
  have h1 := h1 N (by omega)
  have h2 := h2 N (by omega)
  simp only at h1 h2
  unfold labels_Check chkL
  rw [h1, Option.bind_some, h2, Option.bind_some]
  by_cases h : eachB false l = 0
  · rw [if_pos h, h]; cases adjB l <;> simp
  · rw [if_neg h]
    have : (eachB false l != 0) = true := by simpa using h
    rw [this]; rfl
theorem refCheck_stop (N : Nat) (l : List VLabel) (x : Int) (hx : x ≠ 0) (i : Int) : ∀ n, ref_CheckLabels_L3 N (n + 1) l x i = some x := fun n => by
  unfold ref_CheckLabels_L3
  have : (x == 0) = false := by simpa using hx
  rw [this]
  cases decide (i < (l.length : Int)) <;> rfl
theorem refCheck_loop (N : Nat) : ∀ (r p : List VLabel) (a : VLabel) (n : Nat), (p ++ a :: r).length < 140737488355328 → r.length + 1 < n → ref_CheckLabels_L3 N n (p ++ a :: r) 0 ((p.length + 1 : Nat) : Int) = some (if adjB (a :: r) then 0 else 4)
  | r, p, a, 0, _, h => by omega
  | [], p, a, n + 1, hl, h => by
    unfold ref_CheckLabels_L3
    have : decide (((p.length + 1 : Nat) : Int) < ((p ++ [a]).length : Int)) = false := by simp
    rw [this]; simp [adjB]
  | b :: r, p, a, n + 1, hl, h => by
    have hlen : (p ++ a :: b :: r).length = p.length + 2 + r.length := by simp; omega
    have h0 : decide (((p.length + 1 : Nat) : Int) < ((p ++ a :: b :: r).length : Int)) = true := by rw [hlen]; simp; omega
    have hb : idxC (p ++ a :: b :: r) ((p.length + 1 : Nat) : Int) = some b := by
      rw [idxC_get (by omega)]; simp
    have ha : w64 (((p.length + 1 : Nat) : Int) - 1) = (p.length : Int) := by rw [w64_id (by omega) (by omega)]; omega
    have hn : w64 (((p.length + 1 : Nat) : Int) + 1) = (((p ++ [a]).length + 1 : Nat) : Int) := by rw [w64_id (by omega) (by omega)]; simp
    have ih := refCheck_loop N r (p ++ [a]) b n (by rw [← cat_next]; exact hl) (by simp only [List.length_cons] at h; omega)
    rw [← cat_next] at ih
    unfold ref_CheckLabels_L3 ref_CheckLabels_R4
    rw [h0, cond_true, hb, Option.bind_some, ha, idxC_cat, Option.bind_some, hn, ih]
    simp only [adjB]
    by_cases hq : Op.bytesLess b.Name a.Name = true
    case neg =>
      rw [Bool.not_eq_true] at hq
      simp [hq]
    case pos =>
      obtain ⟨m, rfl⟩ : ∃ m, n = m + 1 := ⟨n - 1, by omega⟩
      rw [refCheck_stop N _ 4 (by decide)]
      simp [hq]
theorem refCheck_ev (l : List VLabel) (hw : WLab l) : Ev (fun N => ref_CheckLabels N l) (chkL l) := by
  obtain ⟨N1, h1⟩ := refEachB_ev false l hw
  refine ⟨max N1 (l.length + 3), fun N hN => ?_⟩
  show ref_CheckLabels N l = _
  have h1 := h1 N (by omega)
  simp only at h1
  unfold ref_CheckLabels chkL
  rw [h1, Option.bind_some]
  obtain ⟨m, rfl⟩ : ∃ m, N = m + 1 := ⟨N - 1, by omega⟩
  by_cases h : eachB false l = 0
  · rw [if_pos h, h]
    cases l with
    | nil => unfold ref_CheckLabels_L3; simp [adjB]
    | cons a r =>
      have := refCheck_loop (m + 1) r [] a (m + 1) hw.1 (by simp only [List.length_cons] at hN; omega)
      simpa using this
  · rw [if_neg h]; exact refCheck_stop _ _ _ h _ _

/-! ### Shards -/
def WItem (z : VItem) : Prop := WLab z.Labels
def WShard (s : VShard) : Prop := s.Items.length < 140737488355328 ∧ ∀ z ∈ s.Items, WItem z
def timeB (t : Int) : Bool := decide (t ≥ -9007199254740991) && decide (t ≤ 9007199254740991)
def withinB (n a b : Int) : Bool := decide (n ≥ a) && decide (n ≤ b)
theorem within_is (N : Nat) (n a b : Int) : shard_within N n a b = some (withinB n a b) := by
  unfold shard_within withinB
  cases decide (n ≥ a) <;> rfl
theorem refWithin_is (N : Nat) (n a b : Int) : ref_CheckShard_1 N n a b = some (withinB n a b) := by
  unfold ref_CheckShard_1 withinB
  cases decide (n ≥ a) <;> rfl
theorem isTime_is (N : Nat) (t : Int) : shard_isTime N t = some (timeB t) := by
  unfold shard_isTime
  rw [within_is]; rfl
theorem refIsTime_is (N : Nat) (t : Int) : ref_IsTime N t = some (timeB t) := by
  unfold ref_IsTime timeB
  cases decide (t ≥ -9007199254740991) <;> rfl
def chkI (z : VItem) : Int := if z.Number < 0 then 3 else if timeB z.Sample.Time = false then 3 else chkL z.Labels
theorem checkItem_ev (z : VItem) (hw : WItem z) : Ev (fun N => shard_checkItem N z) (chkI z) := by
  obtain ⟨N1, h1⟩ := check_ev z.Labels hw
  refine ⟨N1, fun N hN => ?_⟩
  have h1 := h1 N hN
  simp only at h1
  show shard_checkItem N z = _
  unfold shard_checkItem chkI
  rw [isTime_is, Option.bind_some, h1]
  by_cases h : z.Number < 0
  · simp [h]
  · cases timeB z.Sample.Time <;> simp [h]
theorem refCheckItem_ev (z : VItem) (hw : WItem z) : Ev (fun N => ref_CheckItem N z) (chkI z) := by
  obtain ⟨N1, h1⟩ := refCheck_ev z.Labels hw
  refine ⟨N1, fun N hN => ?_⟩
  have h1 := h1 N hN
  simp only at h1
  show ref_CheckItem N z = _
  unfold ref_CheckItem chkI
  rw [refIsTime_is, Option.bind_some, h1]
  by_cases h : z.Number < 0
  · simp [h]
  · cases timeB z.Sample.Time <;> simp [h]
def firstE : List VItem → Option Int
  | [] => none
  | z :: r => if chkI z = 0 then firstE r else some (chkI z)
def risB : List VItem → Bool
  | a :: b :: r => !decide (b.Number ≤ a.Number) && risB (b :: r)
  | _ => true
def rightB (s : VShard) : Bool := withinB s.Batch 1 200 && withinB s.Room 1 100 && withinB s.First 1 s.Most && decide (s.Most ≤ 100000) && (decide (s.Waits = 0) || withinB s.Waits s.First s.Most) && timeB s.Till
def chkS (s : VShard) : Int := if rightB s = false then 3 else if (s.Items.length : Int) > s.Room then 2 else (firstE s.Items).getD (if risB s.Items then 0 else 4)
theorem shard14_is (N : Nat) (s : VShard) (hl : s.Items.length < 140737488355328) : ∀ (r p : List VItem) (a : VItem) (n : Nat), s.Items = p ++ a :: r → r.length + 1 < n → shard_Check_L14 N n ((p.length + 1 : Nat) : Int) s = some (if risB (a :: r) then 0 else 4)
  | r, p, a, 0, _, h => by omega
  | [], p, a, n + 1, hs, h => by
    unfold shard_Check_L14
    have : decide (((p.length + 1 : Nat) : Int) < (s.Items.length : Int)) = false := by rw [hs]; simp
    rw [this]; simp [risB]
  | b :: r, p, a, n + 1, hs, h => by
    have hlen : s.Items.length = p.length + 2 + r.length := by rw [hs]; simp; omega
    have h0 : decide (((p.length + 1 : Nat) : Int) < (s.Items.length : Int)) = true := by rw [hlen]; simp; omega
    have hb : idxC s.Items ((p.length + 1 : Nat) : Int) = some b := by
      rw [idxC_get (by omega)]; simp [hs]
    have ha : w64 (((p.length + 1 : Nat) : Int) - 1) = (p.length : Int) := by rw [w64_id (by omega) (by omega)]; omega
    have haa : idxC s.Items (p.length : Int) = some a := by rw [hs, idxC_cat]
    have hn : w64 (((p.length + 1 : Nat) : Int) + 1) = (((p ++ [a]).length + 1 : Nat) : Int) := by rw [w64_id (by omega) (by omega)]; simp
    have ih := shard14_is N s hl r (p ++ [a]) b n (by rw [← cat_next]; exact hs) (by simp only [List.length_cons] at h; omega)
    unfold shard_Check_L14
    rw [h0, cond_true, hb, Option.bind_some, ha, haa, Option.bind_some, hn, ih]
    simp only [risB]
    by_cases hq : b.Number ≤ a.Number <;> simp [hq]
theorem shard7_is (N : Nat) (s : VShard) (hl : s.Items.length < 140737488355328) (hN : ∀ z ∈ s.Items, shard_checkItem N z = some (chkI z)) : ∀ (r p : List VItem) (n : Nat), s.Items = p ++ r → r.length + s.Items.length + 2 < n → shard_Check_L7 N n s.Items (s.Items.length : Int) (p.length : Int) s = some ((firstE r).getD (if risB s.Items then 0 else 4))
  | r, p, 0, _, h => by omega
  | [], p, n + 1, hs, h => by
    unfold shard_Check_L7
    have : decide ((p.length : Int) < (s.Items.length : Int)) = false := by rw [hs]; simp
    rw [this, cond_false]
    cases hi : s.Items with
    | nil =>
      obtain ⟨m, rfl⟩ : ∃ m, n = m + 1 := ⟨n - 1, by omega⟩
      unfold shard_Check_L14
      simp [hi, firstE, risB]
    | cons a r =>
      have h14 := shard14_is N s hl r [] a n hi (by rw [hi] at h; simp only [List.length_cons] at h; omega)
      simpa [firstE] using h14
  | z :: r, p, n + 1, hs, h => by
    have hp : p.length + 1 < 9223372036854775808 := by have := congrArg List.length hs; simp only [List.length_append, List.length_cons] at this; omega
    have h0 : decide ((p.length : Int) < (s.Items.length : Int)) = true := by rw [hs]; simp; omega
    have hz : idxC s.Items (p.length : Int) = some z := by rw [hs, idxC_cat]
    have ih := shard7_is N s hl hN r (p ++ [z]) n (by rw [← cat_next]; exact hs) (by simp only [List.length_cons] at h; omega)
    unfold shard_Check_L7
    rw [h0, cond_true, hz, Option.bind_some, hN z (by rw [hs]; simp), Option.bind_some, w64_next p z hp, ih]
    simp only [firstE]
    by_cases hq : chkI z = 0
    · simp [hq]
    · have : (chkI z != 0) = true := by simpa using hq
      simp [hq, this]
theorem ev_all' {β γ : Type} {f : Nat → β → Option γ} {g : β → γ} : ∀ (l : List β), (∀ z ∈ l, Ev (fun N => f N z) (g z)) → ∃ N0, ∀ N, N0 ≤ N → ∀ z ∈ l, f N z = some (g z)
  | [], _ => ⟨0, fun N _ z hz => by cases hz⟩
  | y :: l, h => by
    obtain ⟨N1, h1⟩ := h y List.mem_cons_self
    obtain ⟨N2, h2⟩ := ev_all' l fun z hz => h z (List.mem_cons_of_mem _ hz)
    refine ⟨max N1 N2, fun N hN z hz => ?_⟩
    rcases List.mem_cons.1 hz with rfl | hz
    · exact h1 N (by omega)
    · exact h2 N (by omega) z hz
theorem shardCheck_ev (s : VShard) (hw : WShard s) : Ev (fun N => shard_Check N s) (chkS s) := by
  obtain ⟨N0, h0⟩ := ev_all' (f := fun N z => shard_checkItem N z) (g := chkI) s.Items fun z hz => checkItem_ev z (hw.2 z hz)
  refine ⟨max N0 (2 * s.Items.length + 3), fun N hN => ?_⟩
  have h7 := shard7_is N s hw.1 (h0 N (by omega)) s.Items [] N (by simp) (by omega)
  have hR : ∀ b, shard_Check_R2 N N b s = some (if b = false then 3 else if (s.Items.length : Int) > s.Room then 2 else (firstE s.Items).getD (if risB s.Items then 0 else 4)) := fun b => by
    unfold shard_Check_R2
    cases b with
    | false => simp
    | true =>
      by_cases hq : (s.Items.length : Int) > s.Room
      · simp [hq]
      · have : decide ((s.Items.length : Int) > s.Room) = false := by simpa using hq
        simp only [Bool.not_true, cond_false, this, if_neg hq]
        simpa using h7
  show shard_Check N s = _
  unfold shard_Check chkS rightB
  simp only [within_is, isTime_is, Option.bind_some, hR]
  have hwz : (s.Waits == 0) = decide (s.Waits = 0) := rfl
  rw [hwz]
  cases withinB s.Batch 1 200 <;> cases withinB s.Room 1 100 <;> cases withinB s.First 1 s.Most <;> cases decide (s.Most ≤ 100000) <;> cases decide (s.Waits = 0) <;> cases withinB s.Waits s.First s.Most <;> cases timeB s.Till <;> rfl
theorem ref13_is (N : Nat) (s : VShard) (hl : s.Items.length < 140737488355328) : ∀ (r p : List VItem) (a : VItem) (n : Nat), s.Items = p ++ a :: r → r.length + 1 < n → ref_CheckShard_L13 N n ((p.length + 1 : Nat) : Int) s = some (if risB (a :: r) then 0 else 4)
  | r, p, a, 0, _, h => by omega
  | [], p, a, n + 1, hs, h => by
    unfold ref_CheckShard_L13
    have : decide (((p.length + 1 : Nat) : Int) < (s.Items.length : Int)) = false := by rw [hs]; simp
    rw [this]; simp [risB]
  | b :: r, p, a, n + 1, hs, h => by
    have hlen : s.Items.length = p.length + 2 + r.length := by rw [hs]; simp; omega
    have h0 : decide (((p.length + 1 : Nat) : Int) < (s.Items.length : Int)) = true := by rw [hlen]; simp; omega
    have hb : idxC s.Items ((p.length + 1 : Nat) : Int) = some b := by
      rw [idxC_get (by omega)]; simp [hs]
    have ha : w64 (((p.length + 1 : Nat) : Int) - 1) = (p.length : Int) := by rw [w64_id (by omega) (by omega)]; omega
    have haa : idxC s.Items (p.length : Int) = some a := by rw [hs, idxC_cat]
    have hn : w64 (((p.length + 1 : Nat) : Int) + 1) = (((p ++ [a]).length + 1 : Nat) : Int) := by rw [w64_id (by omega) (by omega)]; simp
    have ih := ref13_is N s hl r (p ++ [a]) b n (by rw [← cat_next]; exact hs) (by simp only [List.length_cons] at h; omega)
    unfold ref_CheckShard_L13
    rw [h0, cond_true, hb, Option.bind_some, ha, haa, Option.bind_some, hn, ih]
    simp only [risB]
    by_cases hq : b.Number ≤ a.Number <;> simp [hq]
theorem ref7_is (N : Nat) (s : VShard) (hl : s.Items.length < 140737488355328) (hN : ∀ z ∈ s.Items, ref_CheckItem N z = some (chkI z)) : ∀ (r p : List VItem) (n : Nat), s.Items = p ++ r → r.length + s.Items.length + 2 < n → ref_CheckShard_L7 N n (p.length : Int) s = some ((firstE r).getD (if risB s.Items then 0 else 4))
  | r, p, 0, _, h => by omega
  | [], p, n + 1, hs, h => by
    unfold ref_CheckShard_L7
    have : decide ((p.length : Int) < (s.Items.length : Int)) = false := by rw [hs]; simp
    rw [this, cond_false]
    cases hi : s.Items with
    | nil =>
      obtain ⟨m, rfl⟩ : ∃ m, n = m + 1 := ⟨n - 1, by omega⟩
      unfold ref_CheckShard_L13
      simp [hi, firstE, risB]
    | cons a r =>
      have h14 := ref13_is N s hl r [] a n hi (by rw [hi] at h; simp only [List.length_cons] at h; omega)
      simpa [firstE] using h14
  | z :: r, p, n + 1, hs, h => by
    have hp : p.length + 1 < 9223372036854775808 := by have := congrArg List.length hs; simp only [List.length_append, List.length_cons] at this; omega
    have h0 : decide ((p.length : Int) < (s.Items.length : Int)) = true := by rw [hs]; simp; omega
    have hz : idxC s.Items (p.length : Int) = some z := by rw [hs, idxC_cat]
    have ih := ref7_is N s hl hN r (p ++ [z]) n (by rw [← cat_next]; exact hs) (by simp only [List.length_cons] at h; omega)
    unfold ref_CheckShard_L7
    rw [h0, cond_true, hz, Option.bind_some, hN z (by rw [hs]; simp), Option.bind_some, w64_next p z hp, ih]
    simp only [firstE]
    by_cases hq : chkI z = 0
    · simp [hq]
    · have : (chkI z != 0) = true := by simpa using hq
      simp [hq, this]
theorem refShard_ev (s : VShard) (hw : WShard s) : Ev (fun N => ref_CheckShard N s) (chkS s) := by
  obtain ⟨N0, h0⟩ := ev_all' (f := fun N z => ref_CheckItem N z) (g := chkI) s.Items fun z hz => refCheckItem_ev z (hw.2 z hz)
  refine ⟨max N0 (2 * s.Items.length + 3), fun N hN => ?_⟩
  have h7 := ref7_is N s hw.1 (h0 N (by omega)) s.Items [] N (by simp) (by omega)
  have hR : ref_CheckShard_R4 N N s = some (if (s.Items.length : Int) > s.Room then 2 else (firstE s.Items).getD (if risB s.Items then 0 else 4)) := by
    unfold ref_CheckShard_R4
    by_cases hq : (s.Items.length : Int) > s.Room
    · simp [hq]
    · have : decide ((s.Items.length : Int) > s.Room) = false := by simpa using hq
      rw [this, cond_false, if_neg hq]
      simpa using h7
  show ref_CheckShard N s = _
  unfold ref_CheckShard ref_CheckShard_R3 chkS rightB
  simp only [refWithin_is, refIsTime_is, Option.bind_some, hR]
  have hwz : (s.Waits != 0) = !decide (s.Waits = 0) := rfl
  have hmo : decide (s.Most > 100000) = !decide (s.Most ≤ 100000) := by
    by_cases h : s.Most ≤ 100000
    · simp [h]
    · simp [h]; omega
  rw [hwz, hmo]
  cases withinB s.Batch 1 200 <;> cases withinB s.Room 1 100 <;> cases withinB s.First 1 s.Most <;> cases decide (s.Most ≤ 100000) <;> cases decide (s.Waits = 0) <;> cases withinB s.Waits s.First s.Most <;> cases timeB s.Till <;> rfl
end Go.Proofs.Ytofidfkojmbdoaa
