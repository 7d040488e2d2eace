-- slim: written by gen/slim.py from XEPD.r.lean.tpl
/- What the plain functions come to: records packed and unpacked by the reference. -/
import Derived.Test.YtgmbgbalcndohaaEPC
namespace Go.Proofs.Ytgmbgbalcndohaa
open Go.RowKit P
set_option linter.unusedVariables false
set_option linter.unusedSimpArgs false
theorem refLabels_pack (N : Nat) (k : List UInt8 → Int → VRecord → Option (List UInt8)) (b : VRecord) (x : VRef) (x4 : Int) : ∀ (r p : List VLabel) (m : Nat) (acc : List UInt8), x.Labels = p ++ r → (∀ z ∈ r, z.Name.length ≤ 40 ∧ z.Value.length ≤ 100) → acc.length + r.length * 1000 ≤ 1000000000 → (p ++ r).length ≤ 1000 → r.length < m → ref_PackOf_L10 N k m acc x4 (p.length : Int) b x = k (acc ++ r.flatMap labelP) (w64 (x4 + 1)) b
  | r, p, 0, acc, _, _, _, _, h => by omega
  | [], p, m + 1, acc, he, hz, hl, hp, h => by
    unfold ref_PackOf_L10
    rw [he, lt_end]
    simp only [cond_false, List.flatMap_nil, List.append_nil]
  | z :: r, p, m + 1, acc, he, hz, hl, hp, h => by
    have h1 := hz z (by simp)
    have n1 := num_len10 (n := z.Name.length) (by omega)
    have n2 := num_len10 (n := z.Value.length) (by omega)
    have hp' : p.length + 1 < 9223372036854775808 := by simp at hp; omega
    unfold ref_PackOf_L10
    simp only [List.length_cons] at hl h
    rw [he, lt_cat, cond_true, idxC_cat, Option.bind_some, refSmall_is N _ (by omega), Option.bind_some, Option.bind_some, catC_is (by omega), Option.bind_some, Option.bind_some, refSmall_is N _ (by omega), Option.bind_some, catC_is (by rw [List.length_append]; omega), Option.bind_some, Option.bind_some, catC_is (by rw [List.length_append, List.length_append]; omega), Option.bind_some, catC_is (by rw [List.length_append, List.length_append, List.length_append]; omega), Option.bind_some, w64_next p z hp']
    have ih := refLabels_pack N k b x x4 r (p ++ [z]) m (acc ++ (num z.Name.length ++ z.Name ++ num z.Value.length ++ z.Value)) (by rw [← cat_next]; exact he) (fun y hy => hz y (by simp [hy])) (by simp only [List.length_append]; omega) (by rw [← cat_next]; exact hp) (by omega)
    rw [ih, List.flatMap_cons]
    simp only [labelP, textP, List.append_assoc]
theorem refRefs_pack (N : Nat) (b : VRecord) : ∀ (r p : List VRef) (m : Nat) (acc : List UInt8), b.Refs = p ++ r → (∀ x ∈ r, GoodRef x) → acc.length + r.length * 100000 ≤ 100000000 → (p ++ r).length ≤ 1000 → r.length + 30 < m → ref_PackOf_L5 N m acc (p.length : Int) b = some (acc ++ r.flatMap refP)
  | r, p, 0, acc, _, _, _, _, h => by omega
  | [], p, m + 1, acc, he, hz, hl, hp, h => by
    unfold ref_PackOf_L5
    rw [he, lt_end]
    simp only [cond_false, List.flatMap_nil, List.append_nil]
  | x :: r, p, m + 1, acc, he, hz, hl, hp, h => by
    have hg := hz x (by simp)
    obtain ⟨h1, h2⟩ := right_labels hg.chk
    have hr := hg.ref
    have hx : x.Ref = ((x.Ref.toNat : Nat) : Int) := by omega
    have hlen := refP_len x hg
    have n1 := num_len10 (n := x.Ref.toNat) (by omega)
    have n2 := num_len10 (n := x.Labels.length) (by omega)
    have hp' : p.length + 1 < 9223372036854775808 := by simp at hp; omega
    unfold ref_PackOf_L5
    simp only [List.length_cons] at hl h
    have e1 : ref_small N x.Ref = some (num x.Ref.toNat) := by rw [hx]; exact refSmall_is N _ (by omega)
    rw [he, lt_cat, cond_true, idxC_cat, Option.bind_some, e1, Option.bind_some, refSmall_is N _ (by omega), Option.bind_some, catC_is (by omega), Option.bind_some, catC_is (by rw [List.length_append]; omega), Option.bind_some]
    have hlab := refLabels_pack N (ref_PackOf_L5 N m) b x (p.length : Int) x.Labels [] m (acc ++ (num x.Ref.toNat ++ num x.Labels.length)) rfl h2 (by simp only [List.length_append]; omega) (by rw [List.nil_append]; omega) (by omega)
    refine Eq.trans hlab ?_
    rw [w64_next p x hp']
    have ih := refRefs_pack N b r (p ++ [x]) m (acc ++ (num x.Ref.toNat ++ num x.Labels.length) ++ x.Labels.flatMap labelP) (by rw [← cat_next]; exact he) (fun y hy => hz y (by simp [hy])) (by
      have : (acc ++ (num x.Ref.toNat ++ num x.Labels.length) ++ x.Labels.flatMap labelP).length = acc.length + (refP x).length := by simp [refP]
      omega) (by rw [← cat_next]; exact hp) (by omega)
    rw [ih, List.flatMap_cons]
    simp only [refP, List.append_assoc]
theorem refPoints_pack (N : Nat) (hN : 10 < N) (b : VRecord) : ∀ (r p : List VPoint) (m : Nat) (acc : List UInt8), b.Points = p ++ r → (∀ x ∈ r, ((1 ≤ x.Ref ∧ x.Ref ≤ 1000000) ∧ isTimeB x.Time = true) ∧ 0 ≤ x.Bits ∧ x.Bits < 18446744073709551616) → acc.length + r.length * 1000 ≤ 1000000 → (p ++ r).length ≤ 1000 → r.length < m → ref_PackOf_L16 N m acc (p.length : Int) b = some (acc ++ r.flatMap pointP)
  | r, p, 0, acc, _, _, _, _, h => by omega
  | [], p, m + 1, acc, he, hz, hl, hp, h => by
    unfold ref_PackOf_L16
    rw [he, lt_end]
    simp only [cond_false, List.flatMap_nil, List.append_nil]
  | x :: r, p, m + 1, acc, he, hz, hl, hp, h => by
    obtain ⟨hg, hb1, hb2⟩ := hz x (by simp)
    have hr := hg.1
    have hx : x.Ref = ((x.Ref.toNat : Nat) : Int) := by omega
    have hb : x.Bits = ((x.Bits.toNat : Nat) : Int) := by omega
    have hlen := pointP_len x hg
    have hzl := zig_lt hg.2
    have n1 := num_len10 (n := x.Ref.toNat) (by omega)
    have n2 := num_len10 (n := zig x.Time) (by omega)
    have hp' : p.length + 1 < 9223372036854775808 := by simp at hp; omega
    have w8 := wordF_len 8 x.Bits.toNat
    unfold ref_PackOf_L16
    simp only [List.length_cons] at hl h
    have e1 : ref_small N x.Ref = some (num x.Ref.toNat) := by rw [hx]; exact refSmall_is N _ (by omega)
    have e2 : ref_Word N x.Bits = some (wordF 8 x.Bits.toNat) := by rw [hb]; exact refWord_is N _ (by omega) hN
    have go : ref_PackOf_R22 N (ref_PackOf_L16 N m) m acc (p.length : Int) ((zig x.Time : Nat) : Int) b x = some (acc ++ (x :: r).flatMap pointP) := by
      unfold ref_PackOf_R22
      rw [e1, Option.bind_some, refSmall_is N _ (by omega), Option.bind_some, catC_is (by omega), Option.bind_some, e2, Option.bind_some, catC_is (by rw [List.length_append]; omega), Option.bind_some, catC_is (by simp only [List.length_append]; omega), Option.bind_some, w64_next p x hp']
      have ih := refPoints_pack N hN b r (p ++ [x]) m (acc ++ (num x.Ref.toNat ++ num (zig x.Time) ++ wordF 8 x.Bits.toNat)) (by rw [← cat_next]; exact he) (fun y hy => hz y (by simp [hy])) (by
        have : (acc ++ (num x.Ref.toNat ++ num (zig x.Time) ++ wordF 8 x.Bits.toNat)).length = acc.length + (pointP x).length := by simp [pointP]
        omega) (by rw [← cat_next]; exact hp) (by omega)
      rw [ih, List.flatMap_cons]
      simp only [pointP, List.append_assoc]
    have ht := hg.2
    unfold isTimeB at ht
    simp only [Bool.and_eq_true, decide_eq_true_eq] at ht
    rw [he, lt_cat, cond_true, idxC_cat, Option.bind_some]
    by_cases h0 : x.Time < 0
    · have e3 : w64 ((-2) * x.Time) = -2 * x.Time := w64_id (by omega) (by omega)
      have e4 : w64 ((-2 * x.Time) - 1) = ((zig x.Time : Nat) : Int) := by
        unfold zig
        rw [if_pos h0, w64_id (by omega) (by omega)]; omega
      rw [show decide (x.Time < 0) = true from decide_eq_true h0, cond_true, e3, e4]
      exact go
    · have e4 : w64 (2 * x.Time) = ((zig x.Time : Nat) : Int) := by
        unfold zig
        rw [if_neg h0, w64_id (by omega) (by omega)]; omega
      rw [show decide (x.Time < 0) = false from decide_eq_false h0, cond_false, e4]
      exact go
theorem refPack_ev (r : VRecord) (hg : GoodRec r) (hb : WBits r) : Ev (fun N => ref_PackOf N r) (packP r) := by
  refine ⟨1000, fun N hN => ?_⟩
  have h1 := hg.refs
  have h2 := hg.points
  show ref_PackOf N r = _
  unfold ref_PackOf packP
  rw [kind_byte hg]
  rcases hg.kind with ⟨k1, k2⟩ | ⟨k1, k2⟩
  · have e : (r.Kind == 1) = true := by rw [k1]; rfl
    have n2 := num_len10 (n := r.Refs.length) (by omega)
    rw [e, cond_true, if_pos k1, refSmall_is N _ (by omega), Option.bind_some, catC_is (by rw [List.length_singleton]; omega), Option.bind_some]
    have := refRefs_pack N r r.Refs [] N ([bt r.Kind.toNat] ++ num r.Refs.length) rfl hg.ref (by rw [List.length_append, List.length_singleton]; omega) (by rw [List.nil_append]; omega) (by omega)
    rw [List.append_assoc] at this
    exact this
  · have e : (r.Kind == 1) = false := by rw [k1]; rfl
    have n2 := num_len10 (n := r.Points.length) (by omega)
    rw [e, cond_false, if_neg (by omega), refSmall_is N _ (by omega), Option.bind_some, catC_is (by rw [List.length_singleton]; omega), Option.bind_some]
    have := refPoints_pack N (by omega) r r.Points [] N ([bt r.Kind.toNat] ++ num r.Points.length) rfl (fun x hx => ⟨hg.pt x hx, hb x hx⟩) (by rw [List.length_append, List.length_singleton]; omega) (by rw [List.nil_append]; omega) (by omega)
    rw [List.append_assoc] at this
    exact this
/-! ### Unpacked by the reference -/
section
variable (N : Nat) (k8 : Int → Int → Int → List VRef → List VPoint → Int → List VRef → List VPoint → VCursor → Option (VRecord × Int)) (x7 x8 a0 : Int) (a1 : List VRef) (a2 : List VPoint) (b0 : Int) (b1 : List VRef) (b2 : List VPoint) (rf : Int)
end
theorem manyR_eq {α : Type} {f : List UInt8 → Option (α × List UInt8)} (hf : ∀ {s x t}, f s = some (x, t) → t.length < s.length) (s : List UInt8) : manyR f s = (numR s).bind fun p => repR f p.1 p.2 := by
  unfold manyR
  congr 1
  funext p
  by_cases h : p.1 ≤ p.2.length
  · rw [if_pos h]
  · rw [if_neg h]
    cases hq : repR f p.1 p.2 with
    | none => rfl
    | some q =>
      have := (repR_len hf (t := q.2) (l := q.1) hq).1
      omega
end Go.Proofs.Ytgmbgbalcndohaa
