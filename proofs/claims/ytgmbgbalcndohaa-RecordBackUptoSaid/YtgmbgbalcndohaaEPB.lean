-- slim: written by gen/slim.py from XEPB.r.lean.tpl
/- What the plain functions come to: records checked; records read by the reference. -/
import Derived.Test.YtgmbgbalcndohaaEPA
namespace Go.Proofs.Ytgmbgbalcndohaa
open Go.RowKit P
set_option linter.unusedVariables false
set_option linter.unusedSimpArgs false
def isRefB (n : Int) : Bool := decide (1 ≤ n) && decide (n ≤ 1000000)
def isTimeB (n : Int) : Bool := decide (-9007199254740991 ≤ n) && decide (n ≤ 9007199254740991)
theorem isRef_is (N : Nat) (n : Int) : record_isRef N n = some (isRefB n) := by
  unfold record_isRef isRefB
  by_cases h : 1 ≤ n <;> simp [h]
theorem isTime_is (N : Nat) (n : Int) : record_isTime N n = some (isTimeB n) := by
  unfold record_isTime isTimeB
  by_cases h : -9007199254740991 ≤ n <;> simp [h]
def chkRef (x : VRef) : Int := if isRefB x.Ref = true then (if x.Labels = [] then 1 else chkL x.Labels) else 3
theorem checkRef_ev (x : VRef) (hw : WLab x.Labels) : Ev (fun N => record_checkRef N x) (chkRef x) := by
  obtain ⟨N0, h⟩ := check_ev x.Labels hw
  refine ⟨N0, fun N hN => ?_⟩
  have h := h N hN
  simp only at h
  show record_checkRef N x = _
  unfold record_checkRef chkRef
  rw [isRef_is, Option.bind_some]
  by_cases h1 : isRefB x.Ref = true
  · rw [h1]
    simp only [Bool.not_true, cond_false, if_true]
    by_cases h2 : x.Labels = []
    · rw [h2]; rfl
    · have : (((x.Labels.length : Nat) : Int) == 0) = false := by
        have := List.length_pos_iff.2 h2
        simp; omega
      rw [this, cond_false, if_neg h2, h]; rfl
  · simp only [Bool.not_eq_true] at h1
    rw [h1]; rfl
theorem ev_allI {β : Type} {f : Nat → β → Option Int} {g : β → Int} : ∀ (l : List β), (∀ z ∈ l, Ev (fun N => f N z) (g z)) → ∃ N0, ∀ N, N0 ≤ N → ∀ z ∈ l, f N z = some (g z)
  | [], _ => ⟨0, fun N _ z hz => by cases hz⟩
  | z :: l, h => by
    obtain ⟨N1, h1⟩ := h z (by simp)
    obtain ⟨N2, h2⟩ := ev_allI l fun y hy => h y (by simp [hy])
    refine ⟨max N1 N2, fun N hN y hy => ?_⟩
    rcases List.mem_cons.1 hy with rfl | hy
    · exact h1 N (by omega)
    · exact h2 N (by omega) y hy
def ptsC : List VPoint → Int
  | [] => 0
  | p :: r => if isRefB p.Ref = true ∧ isTimeB p.Time = true then ptsC r else 3
def refsC : List VRef → Int
  | [] => 0
  | x :: r => if chkRef x = 0 then refsC r else chkRef x
def chkRec (r : VRecord) : Int :=
  if r.Kind ≠ 1 ∧ r.Kind ≠ 2 then 7
  else if (r.Kind = 1 ∧ r.Points ≠ []) ∨ (r.Kind = 2 ∧ r.Refs ≠ []) then 1
  else if 200 < r.Refs.length ∨ 200 < r.Points.length then 2
  else if refsC r.Refs = 0 then ptsC r.Points else refsC r.Refs
/-- Lengths that there may be. -/
def WRec (r : VRecord) : Prop := (r.Refs.length < 140737488355328 ∧ ∀ x ∈ r.Refs, WLab x.Labels) ∧ r.Points.length < 140737488355328
theorem pts_loop (N : Nat) : ∀ (r p : List VPoint) (m : Nat), (p ++ r).length < 140737488355328 → r.length < m → record_check_L15 N m (p ++ r) ((p ++ r).length : Int) (p.length : Int) = some (ptsC r)
  | r, p, 0, _, h => by omega
  | [], p, m + 1, hl, h => by
    unfold record_check_L15
    rw [lt_end]; rfl
  | z :: r, p, m + 1, hl, h => by
    have hp : p.length + 1 < 9223372036854775808 := by simp at hl; omega
    unfold record_check_L15
    rw [lt_cat, cond_true, idxC_cat, Option.bind_some, isRef_is, Option.bind_some]
    unfold ptsC
    by_cases h1 : isRefB z.Ref = true
    · rw [h1]
      simp only [Bool.not_true, cond_false, isTime_is, Option.bind_some, true_and]
      by_cases h2 : isTimeB z.Time = true
      · rw [h2]
        simp only [Bool.not_true, cond_false, if_true]
        rw [w64_next p z hp]
        have ih := pts_loop N r (p ++ [z]) m (by rw [← cat_next]; exact hl) (by simp only [List.length_cons] at h; omega)
        rw [← cat_next] at ih
        exact ih
      · simp only [Bool.not_eq_true] at h2
        rw [h2]; rfl
    · simp only [Bool.not_eq_true] at h1
      rw [h1]; rfl
theorem refs_check (N : Nat) (b : VRecord) (hb : b.Points.length < 140737488355328) : ∀ (r p : List VRef) (m : Nat), (p ++ r).length < 140737488355328 → (∀ x ∈ r, record_checkRef N x = some (chkRef x)) → r.length + b.Points.length + 1 < m → record_check_L8 N m (p ++ r) ((p ++ r).length : Int) (p.length : Int) b = some (if refsC r = 0 then ptsC b.Points else refsC r)
  | r, p, 0, _, _, h => by omega
  | [], p, m + 1, hl, hc, h => by
    unfold record_check_L8
    rw [lt_end]
    have := pts_loop N b.Points [] m (by simpa using hb) (by simp at h; omega)
    simp only [cond_false, refsC, if_true]
    exact this
  | z :: r, p, m + 1, hl, hc, h => by
    have hp : p.length + 1 < 9223372036854775808 := by simp at hl; omega
    unfold record_check_L8
    rw [lt_cat, cond_true, idxC_cat, Option.bind_some, hc z (by simp), Option.bind_some]
    unfold refsC
    by_cases h1 : chkRef z = 0
    · rw [h1]
      simp only [bne_self_eq_false, cond_false, if_true]
      rw [w64_next p z hp]
      have ih := refs_check N b hb r (p ++ [z]) m (by rw [← cat_next]; exact hl) (fun x hx => hc x (by simp [hx])) (by simp only [List.length_cons] at h; omega)
      rw [← cat_next] at ih
      exact ih
    · have : (chkRef z != 0) = true := by simpa using h1
      rw [this, cond_true, if_neg h1, if_neg h1]
theorem checkRec_ev (r : VRecord) (hw : WRec r) : Ev (fun N => record_check N r) (chkRec r) := by
  obtain ⟨N0, h0⟩ := ev_allI (f := fun N x => record_checkRef N x) r.Refs fun z hz => checkRef_ev z (hw.1.2 z hz)
  refine ⟨max N0 (r.Refs.length + r.Points.length + 2), fun N hN => ?_⟩
  have hl := refs_check N r hw.2 r.Refs [] N (by simpa using hw.1.1) (h0 N (by omega)) (by omega)
  simp only [List.nil_append, List.length_nil] at hl
  show record_check N r = _
  have h5 : ∀ n, n = N → record_check_R5 N n r = some (if 200 < r.Refs.length ∨ 200 < r.Points.length then 2 else if refsC r.Refs = 0 then ptsC r.Points else refsC r.Refs) := fun n e => by
    subst e
    unfold record_check_R5
    by_cases h1 : 200 < r.Refs.length
    · have : decide ((r.Refs.length : Int) > 200) = true := by simp; omega
      rw [this, cond_true, if_pos (.inl h1)]
    · have : decide ((r.Refs.length : Int) > 200) = false := by simp; omega
      rw [this, cond_false]
      by_cases h2 : 200 < r.Points.length
      · have : decide ((r.Points.length : Int) > 200) = true := by simp; omega
        rw [this, cond_true, if_pos (.inr h2)]
      · have : decide ((r.Points.length : Int) > 200) = false := by simp; omega
        rw [this, cond_false, if_neg (by omega)]
        exact hl
  have gt : ∀ {α : Type} (l : List α), decide ((l.length : Int) > 0) = decide (l ≠ []) := fun l => by
    cases l with
    | nil => rfl
    | cons a b => simp
  have h3 : record_check_R3 N N r = some (if (r.Kind = 1 ∧ r.Points ≠ []) ∨ (r.Kind = 2 ∧ r.Refs ≠ []) then 1 else if 200 < r.Refs.length ∨ 200 < r.Points.length then 2 else if refsC r.Refs = 0 then ptsC r.Points else refsC r.Refs) := by
    unfold record_check_R3
    rw [gt, gt, h5 N rfl]
    by_cases k1 : r.Kind = 1
    · have e2 : ¬ r.Kind = 2 := by omega
      by_cases k3 : r.Points = [] <;> simp [k1, k3]
    · by_cases k2 : r.Kind = 2
      · by_cases k3 : r.Refs = [] <;> simp [k2, k3]
      · have e1 : (r.Kind == 1) = false := by simpa using k1
        have e2 : (r.Kind == 2) = false := by simpa using k2
        simp [e1, e2, k1, k2]
  unfold record_check chkRec
  rw [h3]
  by_cases k1 : r.Kind = 1
  · simp [k1]
  · by_cases k2 : r.Kind = 2
    · simp [k2]
    · have e1 : (r.Kind != 1) = true := by simpa using k1
      have e2 : (r.Kind != 2) = true := by simpa using k2
      simp [e1, e2, k1, k2]
/-! ### Unpack -/
theorem textR_le {s a t : List UInt8} (h : textR s = some (a, t)) : a.length ≤ s.length := by
  obtain ⟨⟨n, u⟩, h1, h2⟩ := Option.bind_eq_some_iff.1 h
  have h3 := numR_len h1
  have h4 := congrArg List.length (takeR_some h2).1
  simp only [List.length_append] at h4
  omega
theorem repR_all {α : Type} {f : List UInt8 → Option (α × List UInt8)} {Q : α → Prop} (hl : ∀ {s x t}, f s = some (x, t) → t.length < s.length) (hf : ∀ {s x t}, s.length ≤ 1048576 → f s = some (x, t) → Q x) : ∀ {n : Nat} {s t : List UInt8} {l : List α}, s.length ≤ 1048576 → repR f n s = some (l, t) → ∀ x ∈ l, Q x
  | 0, s, t, l, hs, h => by cases h; exact fun x hx => by cases hx
  | n + 1, s, t, l, hs, h => by
    obtain ⟨⟨a, u⟩, h1, h2⟩ := Option.bind_eq_some_iff.1 h
    obtain ⟨⟨b, w⟩, h3, h4⟩ := Option.bind_eq_some_iff.1 h2
    cases h4
    intro x hx
    have := hl h1
    rcases List.mem_cons.1 hx with rfl | hx
    · exact hf hs h1
    · exact repR_all hl hf (by simp only at *; omega) h3 x hx
theorem manyR_rep {α : Type} {f : List UInt8 → Option (α × List UInt8)} {s t : List UInt8} {l : List α} (h : manyR f s = some (l, t)) : ∃ n u, numR s = some (n, u) ∧ n ≤ u.length ∧ repR f n u = some (l, t) := by
  obtain ⟨⟨n, u⟩, h1, h2⟩ := Option.bind_eq_some_iff.1 h
  simp only at h2
  split at h2
  · rename_i hn; exact ⟨n, u, h1, hn, h2⟩
  · cases h2
theorem refR_w {s t : List UInt8} {x : VRef} (hs : s.length ≤ 1048576) (h : refR s = some (x, t)) : WLab x.Labels := by
  obtain ⟨⟨a, u⟩, h1, h2⟩ := Option.bind_eq_some_iff.1 h
  obtain ⟨⟨b, w⟩, h3, h4⟩ := Option.bind_eq_some_iff.1 h2
  cases h4
  obtain ⟨n, v, k1, k2, k3⟩ := manyR_rep h3
  have l1 := numR_len h1
  have l2 := numR_len k1
  have l3 := repR_len labelR_len k3
  simp only at *
  refine ⟨by omega, fun z hz => ?_⟩
  refine repR_all (Q := fun z : VLabel => z.Name.length < 140737488355328 ∧ z.Value.length < 140737488355328) labelR_len (fun {s x t} hs h => ?_) (by omega) k3 z hz
  obtain ⟨⟨a, u⟩, h1, h2⟩ := Option.bind_eq_some_iff.1 h
  obtain ⟨⟨b, w⟩, h3, h4⟩ := Option.bind_eq_some_iff.1 h2
  cases h4
  have m1 := textR_le h1
  have m2 := textR_len h1
  have m3 := textR_le h3
  simp only at *
  exact ⟨by omega, by omega⟩
theorem recordR_w {s t : List UInt8} {x : VRecord} (hs : s.length ≤ 1048576) (h : recordR s = some (x, t)) : WRec x := by
  unfold recordR at h
  split at h
  · cases h
  · rename_i c u
    simp only [List.length_cons] at hs
    split at h
    · obtain ⟨⟨l, w⟩, h1, h2⟩ := Option.map_eq_some_iff.1 h
      cases h2
      obtain ⟨n, v, k1, k2, k3⟩ := manyR_rep h1
      have l2 := numR_len k1
      have l3 := repR_len refR_len k3
      exact ⟨⟨by simp only; omega, fun z hz => repR_all (Q := fun z : VRef => WLab z.Labels) refR_len (fun {s x t} hs h => refR_w hs h) (by omega) k3 z hz⟩, by simp⟩
    · split at h
      · obtain ⟨⟨l, w⟩, h1, h2⟩ := Option.map_eq_some_iff.1 h
        cases h2
        obtain ⟨n, v, k1, k2, k3⟩ := manyR_rep h1
        have l2 := numR_len k1
        have l3 := repR_len pointR_len k3
        exact ⟨⟨by simp, fun z hz => by cases hz⟩, by simp only; omega⟩
      · cases h
        exact ⟨⟨by simp, fun z hz => by cases hz⟩, by simp⟩
def zeroRec : VRecord := ⟨0, [], []⟩
/-- What is unpacked. -/
def unpackR (s : List UInt8) : VRecord × Int := match recordR s with
  | some (x, t) => if t = [] ∧ chkRec x = 0 then (x, 0) else (zeroRec, 1)
  | none => (zeroRec, 1)
theorem unpack_ev (s : List UInt8) (hs : s.length ≤ 1048576) : Ev (fun N => record_Unpack N s) (unpackR s) := by
  unfold unpackR
  cases h : recordR s with
  | none =>
    refine ⟨1048577, fun N hN => ?_⟩
    have := record_is N s hs hN
    rw [h] at this
    show record_Unpack N s = _
    unfold record_Unpack
    rw [this]; rfl
  | some p =>
    obtain ⟨x, t⟩ := p
    obtain ⟨N0, h0⟩ := checkRec_ev x (recordR_w hs h)
    refine ⟨max N0 1048577, fun N hN => ?_⟩
    have := record_is N s hs (by omega)
    rw [h] at this
    have h0 := h0 N (by omega)
    simp only at h0 this
    show record_Unpack N s = _
    unfold record_Unpack
    rw [this]
    simp only [h0]
    by_cases hc : t = [] ∧ chkRec x = 0
    · rw [if_pos hc, if_pos hc]
    · rw [if_neg hc, if_neg hc]; rfl
end Go.Proofs.Ytgmbgbalcndohaa
