-- slim: written by gen/slim.py from XEPD.r.lean.tpl
/- What the plain functions come to: records packed and unpacked by the reference. -/
import Derived.Test.YtgmbgbalcndohaaEPC
namespace Go.Proofs.Ytgmbgbalcndohaa
open Go.RowKit P
set_option linter.unusedVariables false
set_option linter.unusedSimpArgs false
/-! ### Unpacked by the reference -/
theorem bytes0_bad (N : Nat) (n : Int) (c : VCursor) (h : c.Bad = true) : ref_Cursor_bytes_i0 N n c = some ([], c) := by
  obtain ⟨s, b⟩ := c
  simp only at h
  subst h
  exact ctake_bad N n s
theorem number0_bad (N : Nat) (c : VCursor) (h : c.Bad = true) (hs : c.S.length ≤ 1048576) : ref_Cursor_number_i0 N c = some (0, c) := by
  obtain ⟨s, b⟩ := c
  simp only at h hs
  subst h
  exact cnumber_bad N s hs
/-- Two texts: a label. -/
theorem clabel_is (N : Nat) (s : List UInt8) (hs : s.length ≤ 1048576) (ls : List VLabel) (hl : ls.length ≤ 1048576) {β : Type} (K : List VLabel → VCursor → Option β) : ∃ l' c', ((ref_Cursor_number_i0 N ⟨s, false⟩).bind fun z12 => (ref_Cursor_bytes_i0 N z12.1 z12.2).bind fun z13 => (ref_Cursor_number_i0 N z13.2).bind fun z14 => (ref_Cursor_bytes_i0 N z14.1 z14.2).bind fun z15 => (appC 32 ls ([({ Name := z13.1, Value := z15.1 } : VLabel)] : List VLabel)).bind fun z16 => K z16 z15.2) = K l' c' ∧ l'.length = ls.length + 1 ∧ match labelR s with
    | some (x, t) => l' = ls ++ [x] ∧ c' = ⟨t, false⟩
    | none => c'.Bad = true ∧ c'.S.length ≤ s.length := by
  obtain ⟨n, c, h1, a, c1, h2, h3⟩ := ctext_is N s hs
  simp only [h1, h2, Option.bind_some]
  unfold labelR
  cases ht : textR s with
  | none =>
    rw [ht] at h3
    obtain ⟨k1, k2⟩ := h3
    rw [number0_bad N c1 k1 (by omega), Option.bind_some, bytes0_bad N 0 c1 k1, Option.bind_some, appC_is 32 ls _ (by simp; omega) (by omega), Option.bind_some]
    exact ⟨_, _, rfl, by simp, k1, k2⟩
  | some p =>
    obtain ⟨b, t⟩ := p
    rw [ht] at h3
    obtain ⟨rfl, rfl⟩ := h3
    have hlt := textR_len ht
    obtain ⟨n', c', g1, a', c1', g2, g3⟩ := ctext_is N t (by omega)
    simp only [g1, g2, Option.bind_some]
    rw [appC_is 32 ls _ (by simp; omega) (by omega), Option.bind_some]
    cases ht2 : textR t with
    | none =>
      rw [ht2] at g3
      exact ⟨_, _, rfl, by simp, g3.1, by omega⟩
    | some q =>
      obtain ⟨b', u⟩ := q
      rw [ht2] at g3
      obtain ⟨rfl, rfl⟩ := g3
      exact ⟨_, _, rfl, by simp, rfl, rfl⟩
section
variable (N : Nat) (k8 : Int → Int → Int → List VRef → List VPoint → Int → List VRef → List VPoint → VCursor → Option (VRecord × Int)) (x7 x8 a0 : Int) (a1 : List VRef) (a2 : List VPoint) (b0 : Int) (b1 : List VRef) (b2 : List VPoint) (rf : Int)
theorem clabels_bad (m : Nat) (x10 x11 : Int) (ls : List VLabel) (c : VCursor) (h : c.Bad = true) : ref_UnpackRecord_L14 N k8 (m + 1) x7 x8 x10 x11 a0 a1 a2 b0 b1 b2 rf ls c = ref_UnpackRecord_R19 N k8 m x7 x8 a0 a1 a2 b0 b1 b2 rf ls c := by
  unfold ref_UnpackRecord_L14
  rw [h]
  cases decide (x11 < x10) <;> rfl
theorem clabels_loop : ∀ (m : Nat) (s : List UInt8) (j k : Nat) (ls : List VLabel), s.length + 1 < m → s.length ≤ 1048576 → ls.length + s.length ≤ 1048576 → j + k ≤ 4611686018427387904 → ∃ n' ls' c', ls'.length ≤ ls.length + s.length + 1 ∧ ref_UnpackRecord_L14 N k8 m x7 x8 ((j + k : Nat) : Int) (j : Int) a0 a1 a2 b0 b1 b2 rf ls ⟨s, false⟩ = ref_UnpackRecord_R19 N k8 n' x7 x8 a0 a1 a2 b0 b1 b2 rf ls' c' ∧ match repR labelR k s with
    | some (xs, t) => ls' = ls ++ xs ∧ c' = ⟨t, false⟩
    | none => c'.Bad = true ∧ c'.S.length ≤ s.length
  | 0, s, j, k, ls, h, _, _, _ => by omega
  | m + 1, s, j, 0, ls, h, hs, hl, hj => by
    unfold ref_UnpackRecord_L14
    rw [nlt_nat (by omega), cond_false]
    exact ⟨m, ls, ⟨s, false⟩, by omega, rfl, by simp [repR], rfl⟩
  | m + 1, s, j, k + 1, ls, h, hs, hl, hj => by
    unfold ref_UnpackRecord_L14
    rw [lt_nat (by omega), cond_true]
    simp only [Bool.not_false, cond_true]
    obtain ⟨l', c', e1, e2, e3⟩ := clabel_is N s hs ls (by omega) (fun z c => ref_UnpackRecord_L14 N k8 m x7 x8 ((j + (k + 1) : Nat) : Int) (w64 ((j : Int) + 1)) a0 a1 a2 b0 b1 b2 rf z c)
    rw [e1]
    unfold repR
    cases hx : labelR s with
    | none =>
      rw [hx] at e3
      obtain ⟨m', rfl⟩ : ∃ m', m = m' + 1 := ⟨m - 1, by omega⟩
      refine ⟨m', l', c', by omega, clabels_bad N k8 x7 x8 a0 a1 a2 b0 b1 b2 rf m' _ _ l' c' e3.1, e3.1, e3.2⟩
    | some p =>
      obtain ⟨x, t⟩ := p
      rw [hx] at e3
      obtain ⟨rfl, rfl⟩ := e3
      have hlt := labelR_len hx
      simp only [Option.bind_some]
      obtain ⟨n', ls', c', g0, g1, g2⟩ := clabels_loop m t (j + 1) k (ls ++ [x]) (by omega) (by omega) (by simp; omega) (by omega)
      refine ⟨n', ls', c', by simp only [List.length_append, List.length_singleton] at g0; omega, ?_, ?_⟩
      · rw [w64_succ (by omega), show j + (k + 1) = (j + 1) + k by omega]
        exact g1
      · cases hq : repR labelR k t with
        | none =>
          rw [hq] at g2
          exact ⟨g2.1, by have := g2.2; omega⟩
        | some q =>
          obtain ⟨xs, u⟩ := q
          rw [hq] at g2
          simp only [Option.bind_some]
          exact ⟨by rw [g2.1]; simp, g2.2⟩
end
theorem manyR_eq {α : Type} {f : List UInt8 → Option (α × List UInt8)} (hf : ∀ {s x t}, f s = some (x, t) → t.length < s.length) (s : List UInt8) : manyR f s = (numR s).bind fun p => repR f p.1 p.2 := by
  unfold manyR
  congr 1
  funext p
  by_cases h : p.1 ≤ p.2.length
  · rw [if_pos h]
  · rw [if_neg h]
    cases hq : repR f p.1 p.2 with
    | none => rfl
    | some q =>
      have := (repR_len hf (t := q.2) (l := q.1) hq).1
      omega
end Go.Proofs.Ytgmbgbalcndohaa
