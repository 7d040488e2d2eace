/- Plain: the fields of a text; what a label, a sample and a series are read from. -/
import Derived.Test.YtophpbihcfdkcaaPV
namespace Go.Proofs.Ytophpbihcfdkcaa
open P
set_option linter.unusedSimpArgs false
set_option linter.unusedVariables false

/-- A field: its number, its wire type, and what it has. -/
structure Fld where
  num : Nat
  kind : Nat
  n : Nat
  bs : List UInt8
/-- The first field of a text, and the rest. -/
def fldAt (s : List UInt8) : Option (Fld × List UInt8) :=
  if (rd s).2.2 ≠ 0 then none
  else if (rd s).1 / 8 = 0 ∨ 536870911 < (rd s).1 / 8 then none
  else if (rd s).1 % 8 = 0 then
    if (rd (s.drop (rd s).2.1)).2.2 ≠ 0 then none
    else some (⟨(rd s).1 / 8, 0, (rd (s.drop (rd s).2.1)).1, []⟩, (s.drop (rd s).2.1).drop (rd (s.drop (rd s).2.1)).2.1)
  else if (rd s).1 % 8 = 1 then
    if (s.drop (rd s).2.1).length < 8 then none
    else some (⟨(rd s).1 / 8, 1, 0, (s.drop (rd s).2.1).take 8⟩, (s.drop (rd s).2.1).drop 8)
  else if (rd s).1 % 8 = 2 then
    if (rd (s.drop (rd s).2.1)).2.2 ≠ 0 then none
    else if ((s.drop (rd s).2.1).drop (rd (s.drop (rd s).2.1)).2.1).length < (rd (s.drop (rd s).2.1)).1 then none
    else some (⟨(rd s).1 / 8, 2, 0, ((s.drop (rd s).2.1).drop (rd (s.drop (rd s).2.1)).2.1).take (rd (s.drop (rd s).2.1)).1⟩, ((s.drop (rd s).2.1).drop (rd (s.drop (rd s).2.1)).2.1).drop (rd (s.drop (rd s).2.1)).1)
  else if (rd s).1 % 8 = 5 then
    if (s.drop (rd s).2.1).length < 4 then none
    else some (⟨(rd s).1 / 8, 5, 0, (s.drop (rd s).2.1).take 4⟩, (s.drop (rd s).2.1).drop 4)
  else none
theorem fldAt_lt {s r : List UInt8} {f : Fld} (h : fldAt s = some (f, r)) : r.length < s.length ∧ f.bs.length < s.length ∧ s ≠ [] ∧ f.n < 18446744073709551616 ∧ f.num ≤ 536870911 ∧ f.kind ≤ 5 ∧ (f.kind = 1 → f.bs.length = 8) := by
  obtain ⟨m, k, e, hrd⟩ : ∃ m k e, rd s = (m, k, e) := ⟨_, _, _, rfl⟩
  unfold fldAt at h
  rw [hrd] at h
  simp only at h
  by_cases he : e = 0
  · subst he
    have hf := rd_fine hrd
    rw [if_neg (by simp)] at h
    obtain ⟨m2, k2, e2, hrd2⟩ : ∃ m2 k2 e2, rd (s.drop k) = (m2, k2, e2) := ⟨_, _, _, rfl⟩
    rw [hrd2] at h
    simp only at h
    have hs : s ≠ [] := by intro e; subst e; simp at hf; omega
    have hdl : (s.drop k).length = s.length - k := List.length_drop
    have hdl2 : ((s.drop k).drop k2).length = s.length - k - k2 := by rw [List.length_drop, hdl]
    have hf2 : e2 = 0 → 1 ≤ k2 ∧ k2 ≤ s.length - k ∧ m2 < 18446744073709551616 := fun e0 => by subst e0; have := rd_fine hrd2; omega
    split at h
    · cases h
    · rename_i hnum
      split at h
      · split at h
        · cases h
        · rename_i h2
          have := hf2 (by omega)
          cases h
          refine ⟨by show ((s.drop k).drop k2).length < _; omega, by show 0 < _; omega, hs, by show m2 < _; omega, by show m / 8 ≤ _; omega, by show 0 ≤ 5; omega, fun e => absurd e (by show ¬ (0 = 1); omega)⟩
      · split at h
        · split at h
          · cases h
          · rename_i h2
            cases h
            refine ⟨by show ((s.drop k).drop 8).length < _; rw [List.length_drop]; omega, by show ((s.drop k).take 8).length < _; rw [List.length_take]; omega, hs, by show 0 < _; omega, by show m / 8 ≤ _; omega, by show 1 ≤ 5; omega, fun _ => by show ((s.drop k).take 8).length = 8; rw [List.length_take]; omega⟩
        · split at h
          · split at h
            · cases h
            · rename_i h2
              have h3 := hf2 (by omega)
              split at h
              · cases h
              · rename_i h4
                cases h
                refine ⟨by show (((s.drop k).drop k2).drop m2).length < _; rw [List.length_drop]; omega, by show (((s.drop k).drop k2).take m2).length < _; rw [List.length_take]; omega, hs, by show 0 < _; omega, by show m / 8 ≤ _; omega, by show 2 ≤ 5; omega, fun e => absurd e (by show ¬ (2 = 1); omega)⟩
          · split at h
            · split at h
              · cases h
              · rename_i h2
                cases h
                refine ⟨by show ((s.drop k).drop 4).length < _; rw [List.length_drop]; omega, by show ((s.drop k).take 4).length < _; rw [List.length_take]; omega, hs, by show 0 < _; omega, by show m / 8 ≤ _; omega, by show 5 ≤ 5; omega, fun e => absurd e (by show ¬ (5 = 1); omega)⟩
            · cases h
  · rw [if_pos he] at h; cases h
/-- All fields of a text. -/
def flds (s : List UInt8) : Option (List Fld) :=
  if s = [] then some [] else match h : fldAt s with
    | none => none
    | some (f, r) => (flds r).map (f :: ·)
termination_by s.length
decreasing_by exact (fldAt_lt h).1
theorem flds_nil : flds [] = some [] := by rw [flds]; rfl
theorem flds_none {s : List UInt8} (hs : s ≠ []) (h : fldAt s = none) : flds s = none := by
  rw [flds, if_neg hs]
  split
  · rfl
  · rename_i f r h2; rw [h] at h2; cases h2
theorem flds_some {s r : List UInt8} {f : Fld} (h : fldAt s = some (f, r)) : flds s = (flds r).map (f :: ·) := by
  rw [flds, if_neg (fldAt_lt h).2.2.1]
  split
  · rename_i h2; rw [h] at h2; cases h2
  · rename_i f' r' h2; rw [h] at h2; cases h2; rfl
/-- Fields, each handed on. -/
def foldF {α : Type} (step : α → Fld → Option α) : List Fld → α → Option α
  | [], a => some a
  | f :: l, a => match step a f with
    | none => none
    | some a' => foldF step l a'
def runF {α : Type} (step : α → Fld → Option α) (s : List UInt8) (a : α) : Option α := match flds s with
  | none => none
  | some l => foldF step l a
theorem runF_nil {α : Type} {step : α → Fld → Option α} {a : α} : runF step [] a = some a := by simp [runF, flds_nil, foldF]
theorem runF_bad {α : Type} {step : α → Fld → Option α} {s : List UInt8} {a : α} (hs : s ≠ []) (h : fldAt s = none) : runF step s a = none := by simp [runF, flds_none hs h]
theorem runF_none {α : Type} {step : α → Fld → Option α} {s r : List UInt8} {f : Fld} {a : α} (h : fldAt s = some (f, r)) (hp : step a f = none) : runF step s a = none := by
  unfold runF
  rw [flds_some h]
  cases flds r <;> simp [foldF, hp]
theorem runF_some {α : Type} {step : α → Fld → Option α} {s r : List UInt8} {f : Fld} {a a' : α} (h : fldAt s = some (f, r)) (hp : step a f = some a') : runF step s a = runF step r a' := by
  unfold runF
  rw [flds_some h]
  cases flds r <;> simp [foldF, hp]
/-- What labels, samples and series are read from fields. -/
def labelStep (x : List UInt8 × List UInt8) (f : Fld) : Option (List UInt8 × List UInt8) :=
  some (if f.num = 1 ∧ f.kind = 2 then (f.bs, x.2) else if f.num = 2 ∧ f.kind = 2 then (x.1, f.bs) else x)
def labelB (s : List UInt8) : Option (List UInt8 × List UInt8) := runF labelStep s ([], [])
def sg (n : Nat) : Int := if n < 9223372036854775808 then n else n - 18446744073709551616
def sampleStep (x : Int × Nat) (f : Fld) : Option (Int × Nat) :=
  some (if f.num = 1 ∧ f.kind = 1 then (x.1, leN f.bs) else if f.num = 2 ∧ f.kind = 0 then (sg f.n, x.2) else x)
def sampleB (s : List UInt8) : Option (Int × Nat) := runF sampleStep s (0, 0)
abbrev Lbl := List UInt8 × List UInt8
abbrev Smp := Int × Nat
abbrev Srs := List Lbl × List Smp
def seriesStep (x : Srs) (f : Fld) : Option Srs :=
  if f.num = 1 ∧ f.kind = 2 then (labelB f.bs).map fun y => (x.1 ++ [y], x.2)
  else if f.num = 2 ∧ f.kind = 2 then (sampleB f.bs).map fun y => (x.1, x.2 ++ [y])
  else some x
def seriesB (s : List UInt8) : Option Srs := runF seriesStep s ([], [])
def readStep (x : List Srs) (f : Fld) : Option (List Srs) := if f.num = 1 ∧ f.kind = 2 then (seriesB f.bs).map fun y => x ++ [y] else some x
def readB (s : List UInt8) : Option (List Srs) := runF readStep s []
end Go.Proofs.Ytophpbihcfdkcaa
