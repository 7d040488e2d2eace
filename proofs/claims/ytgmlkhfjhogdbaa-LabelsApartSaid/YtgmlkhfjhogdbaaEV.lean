-- slim: written by gen/slim.py from XEV.f.lean.tpl
/- What the plain functions come to, if there is fuel enough: labels, shards. -/
import Derived.Test.YtgmlkhfjhogdbaaFF1p
namespace Go.Proofs.Ytgmlkhfjhogdbaa
open Go.RowKit P
set_option linter.unusedVariables false
set_option linter.unusedSimpArgs false

/-- With fuel enough. -/
def Ev {α : Type} (f : Nat → Option α) (v : α) : Prop := ∃ N0, ∀ N, N0 ≤ N → f N = some v
theorem Ev.mk {α : Type} {f : Nat → Option α} {v : α} (h : ∀ N, f N = some v) : Ev f v := ⟨0, fun N _ => h N⟩
theorem Ev.bind {α β : Type} {a : Nat → Option α} {k : Nat → α → Option β} {x : α} {v : β} (h1 : Ev a x) (h2 : Ev (fun N => k N x) v) : Ev (fun N => (a N).bind (k N)) v := by
  obtain ⟨N1, h1⟩ := h1
  obtain ⟨N2, h2⟩ := h2
  exact ⟨max N1 N2, fun N hN => by simp only [h1 N (by omega), Option.bind_some]; exact h2 N (by omega)⟩
theorem Ev.one {α : Type} {f : Nat → Option α} {v : α} (h : Ev f v) : ∃ N, f N = some v := let ⟨N, h⟩ := h; ⟨N, h N (Nat.le_refl _)⟩

/-! ### Lists and numbers -/
theorem idxC_cat {α : Type} (p : List α) (z : α) (r : List α) : idxC (p ++ z :: r) (p.length : Int) = some z := by
  unfold idxC
  rw [if_pos (by omega)]
  simp
theorem idxC_get {α : Type} {l : List α} {i : Nat} (h : i < l.length) : idxC l (i : Int) = some l[i] := by
  unfold idxC
  rw [if_pos (by omega)]
  simp [h]
theorem w64_id {n : Int} (h1 : -9223372036854775808 ≤ n) (h2 : n < 9223372036854775808) : w64 n = n := by
  unfold w64
  rw [IntKind.wrap_i64]; omega
theorem w64_next {α : Type} (p : List α) (z : α) (h : p.length + 1 < 9223372036854775808) : w64 ((p.length : Int) + 1) = ((p ++ [z]).length : Int) := by
  rw [w64_id (by omega) (by omega)]; simp
theorem cat_next {α : Type} (p : List α) (z : α) (r : List α) : p ++ z :: r = (p ++ [z]) ++ r := by simp
theorem lt_cat {α : Type} (p : List α) (z : α) (r : List α) : decide ((p.length : Int) < ((p ++ z :: r).length : Int)) = true := by
  simp; omega
theorem lt_end {α : Type} (p : List α) : decide ((p.length : Int) < ((p ++ ([] : List α)).length : Int)) = false := by simp

/-! ### Names -/
def letB (c : UInt8) : Bool := decide (97 ≤ c.toNat) && decide (c.toNat ≤ 122) || decide (65 ≤ c.toNat) && decide (c.toNat ≤ 90) || decide (c.toNat = 95)
def digB (c : UInt8) : Bool := decide (48 ≤ c.toNat) && decide (c.toNat ≤ 57)
theorem geI (c : UInt8) (k : Nat) : decide (b2i c ≥ (k : Int)) = decide (k ≤ c.toNat) := by
  congr 1; apply propext
  show (k : Int) ≤ ((c.toNat : Nat) : Int) ↔ _
  omega
theorem leI (c : UInt8) (k : Nat) : decide (b2i c ≤ (k : Int)) = decide (c.toNat ≤ k) := by
  congr 1; apply propext
  show ((c.toNat : Nat) : Int) ≤ (k : Int) ↔ _
  omega
theorem eqI (c : UInt8) (k : Nat) : (b2i c == (k : Int)) = decide (c.toNat = k) := by
  have : (b2i c == (k : Int)) = decide (b2i c = (k : Int)) := rfl
  rw [this]
  congr 1; apply propext
  show ((c.toNat : Nat) : Int) = (k : Int) ↔ _
  omega
theorem isLetter_is (N : Nat) (c : UInt8) : ref_IsLetter N c = some (letB c) := by
  have h1 := geI c 97
  have h2 := leI c 122
  have h3 := geI c 65
  have h4 := leI c 90
  have h5 := eqI c 95
  show (bif decide (b2i c ≥ ((97 : Nat) : Int)) then bif decide (b2i c ≤ ((122 : Nat) : Int)) then some true else bif decide (b2i c ≥ ((65 : Nat) : Int)) then bif decide (b2i c ≤ ((90 : Nat) : Int)) then some true else some (b2i c == ((95 : Nat) : Int)) else some (b2i c == ((95 : Nat) : Int)) else bif decide (b2i c ≥ ((65 : Nat) : Int)) then bif decide (b2i c ≤ ((90 : Nat) : Int)) then some true else some (b2i c == ((95 : Nat) : Int)) else some (b2i c == ((95 : Nat) : Int))) = _
  rw [h1, h2, h3, h4, h5]
  unfold letB
  cases decide (97 ≤ c.toNat) <;> cases decide (c.toNat ≤ 122) <;> cases decide (65 ≤ c.toNat) <;> cases decide (c.toNat ≤ 90) <;> rfl
theorem isNumeral_is (N : Nat) (c : UInt8) : ref_IsNumeral N c = some (digB c) := by
  have h1 := geI c 48
  have h2 := leI c 57
  show (bif decide (b2i c ≥ ((48 : Nat) : Int)) then some (decide (b2i c ≤ ((57 : Nat) : Int))) else some false) = _
  rw [h1, h2]
  unfold digB
  cases decide (48 ≤ c.toNat) <;> rfl
theorem nmC_is (i : Nat) (c : UInt8) : nmC i c.toNat = (letB c || (decide (i ≠ 0) && digB c)) := by
  unfold nmC letB digB; rfl
theorem isName_loop (N : Nat) : ∀ (r p : List UInt8) (n : Nat), r.length < n → (p ++ r).length < 140737488355328 → ref_IsName_L2 N n (p ++ r) (p.length : Int) = some (nmL p.length r && decide (0 < (p ++ r).length) && decide ((p ++ r).length ≤ 40))
  | [], p, 0, h, _ => by simp at h
  | c :: r, p, 0, h, _ => by simp at h
  | [], p, n + 1, h, hl => by
    unfold ref_IsName_L2
    rw [lt_end]
    simp only [List.append_nil, cond_false, nmL, Bool.true_and]
    by_cases h1 : 0 < p.length
    · have : decide ((p.length : Int) ≥ 1) = true := by simp; omega
      rw [this]
      simp [h1]; omega
    · have : decide ((p.length : Int) ≥ 1) = false := by simp; omega
      rw [this]
      simp [h1]
  | c :: r, p, n + 1, h, hl => by
    have ih := isName_loop N r (p ++ [c]) n (by simp only [List.length_cons] at h; omega) (by simpa using hl)
    have hp : p.length + 1 < 9223372036854775808 := by simp at hl; omega
    unfold ref_IsName_L2
    rw [lt_cat, cond_true, idxC_cat, Option.bind_some, isLetter_is, Option.bind_some]
    unfold ref_IsName_R3
    rw [← cat_next] at ih
    rw [w64_next p c hp, ih]
    simp only [nmL, nmC_is]
    have hpl : (p ++ [c]).length = p.length + 1 := by simp
    rw [hpl]
    cases hL : letB c with
    | true => simp
    | false =>
      by_cases h0 : p.length = 0
      · simp [h0]
      · have : ((p.length : Int) == 0) = false := beq_eq_false_iff_ne.2 (by omega)
        rw [Bool.not_false, cond_true, this, cond_false]
        rw [Option.bind_some, isNumeral_is, Option.bind_some]
        cases hD : digB c <;> simp [h0]
theorem refIsName_ev (s : List UInt8) (hs : s.length < 140737488355328) : Ev (fun N => ref_IsName N s) (isNameL s) :=
  ⟨s.length + 1, fun N hN => by
    have := isName_loop N s [] N (by omega) (by simpa using hs)
    simpa [ref_IsName, isNameL] using this⟩
theorem isName_ev (s : List UInt8) (hs : s.length < 140737488355328) (N : Nat) : labels_IsName N s = some (isNameL s) := by unfold labels_IsName; rw [if_pos hs]

/-! ### Each label -/
def WLab (l : List VLabel) : Prop := l.length < 140737488355328 ∧ ∀ z ∈ l, z.Name.length < 140737488355328 ∧ z.Value.length < 140737488355328
def eachF (e : Bool) : List VLabel → Option Int
  | [] => none
  | z :: r => if isNameL z.Name = false then some 1 else if z.Value = [] ∧ e = false then some 1 else if z.Value.length > 100 then some 2 else eachF e r
def dupP : List VLabel → List VLabel → Bool
  | _, [] => false
  | p, z :: r => p.any (fun y => decide (y.Name = z.Name)) || dupP (p ++ [z]) r
def eachB (e : Bool) (l : List VLabel) : Int := if l.length > 20 then 2 else (eachF e l).getD (if dupP [] l then 6 else 0)
theorem mget_mset {α : Type} (k k' : List UInt8) (u : α) : ∀ (m : List (List UInt8 × α)), mget (mset m k u) k' = if k' = k then some u else mget m k'
  | [] => by simp [mset, mget]
  | (a, b) :: m => by
    have ih := mget_mset k k' u m
    unfold mset
    by_cases h : k = a
    · subst h
      rw [if_pos rfl]
      unfold mget
      by_cases h2 : k' = k
      · simp [h2]
      · simp [h2]
    · rw [if_neg h]
      unfold mget
      by_cases h2 : k' = a
      · subst h2
        have : ¬ k' = k := fun e => h e.symm
        simp [this]
      · simp only [if_neg h2, ih]
theorem each14_is (N : Nat) : ∀ (r p : List VLabel) (n : Nat) (m : List (List UInt8 × Bool)), r.length < n → (p ++ r).length < 140737488355328 → (∀ k, (mget m k).getD false = p.any (fun y => decide (y.Name = k))) → labels_each_L14 N n (p ++ r) ((p ++ r).length : Int) (p.length : Int) m = some (if dupP p r then 6 else 0)
  | [], p, 0, _, h, _, _ => by simp at h
  | c :: r, p, 0, _, h, _, _ => by simp at h
  | [], p, n + 1, m, h, hl, hm => by
    unfold labels_each_L14
    rw [lt_end]; rfl
  | c :: r, p, n + 1, m, h, hl, hm => by
    have hp : p.length + 1 < 9223372036854775808 := by simp at hl; omega
    unfold labels_each_L14
    rw [lt_cat, cond_true, idxC_cat, Option.bind_some, hm, w64_next p c hp]
    simp only [dupP]
    by_cases hd : p.any (fun y => decide (y.Name = c.Name)) = true
    · simp only [hd, cond_true, Bool.true_or, if_true]
    · rw [Bool.not_eq_true] at hd
      simp only [hd, cond_false, Bool.false_or]
      have ih := each14_is N r (p ++ [c]) n (mset m c.Name true) (by simp at h; omega) (by simpa using hl) (fun k => by
        rw [mget_mset, List.any_append, List.any_cons, List.any_nil, Bool.or_false]
        by_cases hk : k = c.Name
        · subst hk; simp
        · rw [if_neg hk, hm]
          have : decide (c.Name = k) = false := by simp; exact fun e => hk e.symm
          rw [this, Bool.or_false])
      rw [← cat_next] at ih
      exact ih
theorem each4_is (N : Nat) (e : Bool) : ∀ (r p : List VLabel) (n : Nat), r.length + (p ++ r).length + 1 < n → WLab (p ++ r) → labels_each_L4 N n (p ++ r) e (p ++ r) ((p ++ r).length : Int) (p.length : Int) = some ((eachF e r).getD (if dupP [] (p ++ r) then 6 else 0))
  | r, p, 0, h, _ => by omega
  | [], p, n + 1, h, hw => by
    unfold labels_each_L4
    rw [lt_end, cond_false]
    have := each14_is N (p ++ []) [] n [] (by simp only [List.length_nil, List.append_nil] at h ⊢; omega) hw.1 (fun k => by simp [mget])
    simpa [eachF] using this
  | z :: r, p, n + 1, h, hw => by
    have hp : p.length + 1 < 9223372036854775808 := by have := hw.1; simp only [List.length_append, List.length_cons] at this; omega
    have hz := hw.2 z (by simp)
    have ih := each4_is N e r (p ++ [z]) n (by rw [← cat_next]; simp only [List.length_cons] at h; omega) (by rw [← cat_next]; exact hw)
    rw [← cat_next] at ih
    unfold labels_each_L4
    rw [lt_cat, cond_true, idxC_cat, Option.bind_some, isName_ev _ hz.1, Option.bind_some]
    unfold labels_each_R9
    rw [w64_next p z hp, ih]
    simp only [eachF]
    cases h1 : isNameL z.Name with
    | false => simp
    | true =>
      by_cases h5 : z.Value.length > 100
      · have h6 : decide ((z.Value.length : Int) > 100) = true := by simp; omega
        by_cases h3 : z.Value = []
        · rw [h3] at h5; simp at h5
        · simp [h3, h6, h5]
      · have h6 : decide ((z.Value.length : Int) > 100) = false := by simp; omega
        by_cases h3 : z.Value = []
        · cases e <;> simp [h3]
        · simp [h3, h6, h5]
theorem eachB_ev (e : Bool) (l : List VLabel) (hw : WLab l) : Ev (fun N => labels_each N l e) (eachB e l) := ⟨2 * l.length + 2, fun N hN => by
  show labels_each N l e = _
  unfold labels_each eachB
  by_cases h : l.length > 20
  · have : decide ((l.length : Int) > 20) = true := by simp; omega
    rw [this]; simp [h]
  · have : decide ((l.length : Int) > 20) = false := by simp; omega
    have h4 := each4_is N e l [] N (by simp only [List.nil_append]; omega) (by simpa using hw)
    rw [this, cond_false, if_neg h]
    simpa using h4⟩
/-! the reference -/
end Go.Proofs.Ytgmlkhfjhogdbaa
