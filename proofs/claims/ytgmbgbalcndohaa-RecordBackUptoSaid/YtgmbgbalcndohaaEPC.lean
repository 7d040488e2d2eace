-- slim: written by gen/slim.py from XEPC.r.lean.tpl
/- What the plain functions come to: records packed, by the program and by the reference. -/
import Derived.Test.YtgmbgbalcndohaaEPB
namespace Go.Proofs.Ytgmbgbalcndohaa
open Go.RowKit P
set_option linter.unusedVariables false
set_option linter.unusedSimpArgs false
theorem wu64 {n : Int} (h1 : 0 ≤ n) (h2 : n < 18446744073709551616) : IntKind.wrap .u64 n = n := by
  simp [IntKind.wrap, IntKind.signed, IntKind.bits]
  omega
theorem toB_u8 (n : Nat) : toB (IntKind.wrap .u8 (n : Int)) = bt (n % 256) := by
  have : IntKind.wrap .u8 (n : Int) = ((n % 256 : Nat) : Int) := by
    simp [IntKind.wrap, IntKind.signed, IntKind.bits]
  rw [this]; rfl
theorem catC_is {a b : List UInt8} (h : a.length + b.length ≤ 9223372036854775807) : catC a b = some (a ++ b) := by unfold catC; rw [if_pos h]
def wordF : Nat → Nat → List UInt8
  | 0, _ => []
  | k + 1, n => bt (n % 256) :: wordF k (n / 256)
theorem wordF_len : ∀ k n, (wordF k n).length = k
  | 0, _ => rfl
  | k + 1, n => by simp [wordF, wordF_len k]
theorem wordF_snoc : ∀ k n, wordF (k + 1) n = wordF k n ++ [bt (n / 256 ^ k % 256)]
  | 0, n => by simp [wordF]
  | k + 1, n => by
    have h := wordF_snoc k (n / 256)
    rw [show wordF (k + 1 + 1) n = bt (n % 256) :: wordF (k + 1) (n / 256) from rfl, h]
    simp only [wordF, List.cons_append]
    rw [Nat.div_div_eq_div_mul, Nat.pow_succ, Nat.mul_comm 256]
theorem shr8 (n i : Nat) (hi : i < 8) : shrC .u64 (n : Int) (w64 (8 * (i : Int))) = some ((n / 256 ^ i : Nat) : Int) := by
  rw [w64_id (by omega) (by omega)]
  unfold shrC
  rw [if_pos (by omega)]
  have : min (8 * (i : Int)).toNat IntKind.u64.bits = 8 * i := by
    have : IntKind.u64.bits = 64 := rfl
    omega
  rw [this]
  congr 1
  have hp : ((2 : Int) ^ (8 * i)) = ((256 ^ i : Nat) : Int) := by
    rw [Int.pow_mul]; simp
  rw [hp, Int.fdiv_eq_ediv_of_nonneg _ (Int.natCast_nonneg _), ← Int.natCast_ediv]
theorem each_small {l : List VLabel} (h : chkL l = 0) : l.length ≤ 20 := by
  unfold chkL at h
  split at h
  · rename_i he
    unfold eachB at he
    split at he
    · omega
    · omega
  · rename_i he; exact absurd h he
theorem eachF_none {e : Bool} : ∀ {l : List VLabel}, eachF e l = none → ∀ z ∈ l, isNameL z.Name = true ∧ z.Value.length ≤ 100
  | [], _, z, hz => by cases hz
  | y :: r, h, z, hz => by
    unfold eachF at h
    split at h
    · cases h
    · rename_i h1
      split at h
      · cases h
      · split at h
        · cases h
        · rename_i h3
          rcases List.mem_cons.1 hz with rfl | hz
          · exact ⟨by simpa using h1, by omega⟩
          · exact eachF_none h z hz
theorem right_labels {l : List VLabel} (h : chkL l = 0) : l.length ≤ 20 ∧ ∀ z ∈ l, z.Name.length ≤ 40 ∧ z.Value.length ≤ 100 := by
  refine ⟨each_small h, fun z hz => ?_⟩
  have h1 : eachB false l = 0 := by
    unfold chkL at h
    split at h
    · assumption
    · exact h
  unfold eachB at h1
  split at h1
  · omega
  · cases hf : eachF false l with
    | some e =>
      rw [hf] at h1
      simp only [Option.getD_some] at h1
      exfalso
      have : ∀ {l : List VLabel} {e : Int}, eachF false l = some e → e ≠ 0 := by
        intro l
        induction l with
        | nil => intro e h; cases h
        | cons y r ih =>
          intro e h
          unfold eachF at h
          split at h
          · cases h; decide
          · split at h
            · cases h; decide
            · split at h
              · cases h; decide
              · exact ih h
      exact this hf h1
    | none =>
      obtain ⟨q1, q2⟩ := eachF_none hf z hz
      unfold isNameL at q1
      simp only [Bool.and_eq_true, decide_eq_true_eq] at q1
      exact ⟨q1.2, q2⟩

theorem recNumber_is (N n : Nat) (h : n < 18446744073709551616) : record_number N (n : Int) = some (num n) := by
  unfold record_number wire_Number
  rw [wu64 (by omega) (by omega), if_pos ⟨by omega, by omega⟩]
  simp
theorem word_loop (N n : Nat) (h : n < 18446744073709551616) : ∀ (j i m : Nat), i + j = 8 → j < m → record_word_L3 N m (n : Int) (i : Int) (wordF i n ++ List.replicate j 0) = some (wordF 8 n)
  | j, i, 0, _, h => by omega
  | 0, i, m + 1, hij, h => by
    have hi : i = 8 := by omega
    subst hi
    unfold record_word_L3
    have : decide (((8 : Nat) : Int) < 8) = false := by decide
    rw [this, cond_false]
    have e1 : subN 8 0 (8 : Int) = some (0, 8) := rfl
    rw [e1, Option.bind_some, List.replicate_zero, List.append_nil]
    simp only [offN, fullC]
    rw [if_pos ⟨by decide, by rw [wordF_len]⟩]; rfl
  | j + 1, i, m + 1, hij, hm => by
    unfold record_word_L3
    have : decide ((i : Int) < 8) = true := by simp; omega
    have e1 : idxN 8 (i : Int) = some i := by
      unfold idxN
      rw [if_pos ⟨by omega, by omega⟩]; simp
    have hl : (wordF i n).length = i := wordF_len i n
    have e2 : setA (wordF i n ++ List.replicate (j + 1) 0) (0 + i) (bt (n / 256 ^ i % 256)) = some (wordF (i + 1) n ++ List.replicate j 0) := by
      unfold setA
      rw [if_pos (by simp [hl])]
      congr 1
      rw [Nat.zero_add, List.set_append_right _ _ (by omega), hl, Nat.sub_self, List.replicate_succ, List.set_cons_zero, wordF_snoc]
      simp
    rw [this, cond_true, shr8 n i (by omega), Option.bind_some, e1, Option.bind_some, toB_u8, e2, Option.bind_some, w64_succ (by omega)]
    exact word_loop N n h j (i + 1) m (by omega) (by omega)
theorem word_is (N n : Nat) (h : n < 18446744073709551616) (hN : 10 < N) : record_word N (n : Int) = some (wordF 8 n) := by
  unfold record_word
  exact word_loop N n h 8 0 N rfl (by omega)
/-- A time as a number from 0 on. -/
def zig (t : Int) : Nat := if t < 0 then (-2 * t - 1).toNat else (2 * t).toNat
theorem signed_is (N : Nat) (t : Int) (h : isTimeB t = true) : record_signed N t = some (num (zig t)) := by
  unfold isTimeB at h
  simp only [Bool.and_eq_true, decide_eq_true_eq] at h
  unfold record_signed zig
  by_cases ht : t < 0
  · have e1 : w64 ((-2) * t) = -2 * t := w64_id (by omega) (by omega)
    have e2 : w64 ((-2 * t) - 1) = (((-2 * t - 1).toNat : Nat) : Int) := by rw [w64_id (by omega) (by omega)]; omega
    rw [if_pos ht, show decide (t < 0) = true by simpa using ht, cond_true, e1, e2, recNumber_is N _ (by omega)]; rfl
  · have e1 : w64 (2 * t) = (((2 * t).toNat : Nat) : Int) := by rw [w64_id (by omega) (by omega)]; omega
    rw [if_neg ht, show decide (t < 0) = false by simpa using ht, cond_false, e1, recNumber_is N _ (by omega)]; rfl
def textP (s : List UInt8) : List UInt8 := num s.length ++ s
def labelP (z : VLabel) : List UInt8 := textP z.Name ++ textP z.Value
def refP (x : VRef) : List UInt8 := num x.Ref.toNat ++ num x.Labels.length ++ x.Labels.flatMap labelP
def pointP (p : VPoint) : List UInt8 := num p.Ref.toNat ++ num (zig p.Time) ++ wordF 8 p.Bits.toNat
def packP (r : VRecord) : List UInt8 := [bt r.Kind.toNat] ++ (if r.Kind = 1 then num r.Refs.length ++ r.Refs.flatMap refP else num r.Points.length ++ r.Points.flatMap pointP)
/-- What a record that is right is like. -/
structure GoodRef (x : VRef) : Prop where
  ref : 1 ≤ x.Ref ∧ x.Ref ≤ 1000000
  ne : x.Labels ≠ []
  chk : chkL x.Labels = 0
theorem good_ref {x : VRef} (h : chkRef x = 0) : GoodRef x := by
  unfold chkRef at h
  split at h
  · rename_i h1
    split at h
    · cases h
    · rename_i h2
      unfold isRefB at h1
      simp only [Bool.and_eq_true, decide_eq_true_eq] at h1
      exact ⟨h1, h2, h⟩
  · cases h
theorem good_refs : ∀ {l : List VRef}, refsC l = 0 → ∀ x ∈ l, GoodRef x
  | [], _, x, hx => by cases hx
  | y :: l, h, x, hx => by
    unfold refsC at h
    split at h
    · rename_i h1
      rcases List.mem_cons.1 hx with rfl | hx
      · exact good_ref h1
      · exact good_refs h x hx
    · rename_i h1; exact absurd h h1
theorem good_pts : ∀ {l : List VPoint}, ptsC l = 0 → ∀ x ∈ l, (1 ≤ x.Ref ∧ x.Ref ≤ 1000000) ∧ isTimeB x.Time = true
  | [], _, x, hx => by cases hx
  | y :: l, h, x, hx => by
    unfold ptsC at h
    split at h
    · rename_i h1
      rcases List.mem_cons.1 hx with rfl | hx
      · obtain ⟨a, b⟩ := h1
        unfold isRefB at a
        simp only [Bool.and_eq_true, decide_eq_true_eq] at a
        exact ⟨a, b⟩
      · exact good_pts h x hx
    · cases h
structure GoodRec (r : VRecord) : Prop where
  kind : (r.Kind = 1 ∧ r.Points = []) ∨ (r.Kind = 2 ∧ r.Refs = [])
  refs : r.Refs.length ≤ 200
  points : r.Points.length ≤ 200
  ref : ∀ x ∈ r.Refs, GoodRef x
  pt : ∀ x ∈ r.Points, (1 ≤ x.Ref ∧ x.Ref ≤ 1000000) ∧ isTimeB x.Time = true
theorem good_rec {r : VRecord} (h : chkRec r = 0) : GoodRec r := by
  unfold chkRec at h
  split at h
  · cases h
  · rename_i h1
    split at h
    · cases h
    · rename_i h2
      split at h
      · cases h
      · rename_i h3
        split at h
        · rename_i h4
          refine ⟨?_, by omega, by omega, good_refs h4, good_pts h⟩
          by_cases k1 : r.Kind = 1
          · exact .inl ⟨k1, by
              apply Classical.byContradiction
              intro hc
              exact h2 (.inl ⟨k1, hc⟩)⟩
          · by_cases k2 : r.Kind = 2
            · exact .inr ⟨k2, by
                apply Classical.byContradiction
                intro hc
                exact h2 (.inr ⟨k2, hc⟩)⟩
            · exact absurd ⟨k1, k2⟩ h1
        · rename_i h4; exact absurd h h4
theorem textP_len (s : List UInt8) (h : s.length ≤ 100) : (textP s).length ≤ 110 := by
  have := num_len10 (n := s.length) (by omega)
  unfold textP
  rw [List.length_append]; omega
theorem labelP_len (z : VLabel) (h : z.Name.length ≤ 40 ∧ z.Value.length ≤ 100) : (labelP z).length ≤ 220 := by
  have := textP_len z.Name (by omega)
  have := textP_len z.Value h.2
  unfold labelP
  rw [List.length_append]; omega
theorem recText_is (N : Nat) (s : List UInt8) (h : s.length ≤ 100) : record_text N s = some (textP s) := by
  have := num_len10 (n := s.length) (by omega)
  unfold record_text textP
  rw [recNumber_is N _ (by omega), Option.bind_some, catC_is (by omega)]; rfl
theorem flat_len {α : Type} (f : α → List UInt8) (b : Nat) : ∀ (l : List α), (∀ x ∈ l, (f x).length ≤ b) → (l.flatMap f).length ≤ l.length * b
  | [], _ => by simp
  | x :: l, h => by
    have := flat_len f b l fun y hy => h y (by simp [hy])
    have := h x (by simp)
    rw [List.flatMap_cons, List.length_append, List.length_cons, Nat.succ_mul]; omega
theorem refP_len (x : VRef) (h : GoodRef x) : (refP x).length ≤ 4420 := by
  obtain ⟨h1, h2⟩ := right_labels h.chk
  have h3 := flat_len labelP 220 x.Labels fun z hz => labelP_len z (h2 z hz)
  have := num_len10 (n := x.Ref.toNat) (by have := h.ref; omega)
  have := num_len10 (n := x.Labels.length) (by omega)
  have : x.Labels.length * 220 ≤ 20 * 220 := Nat.mul_le_mul_right _ h1
  unfold refP
  simp only [List.length_append]; omega
theorem zig_lt {t : Int} (h : isTimeB t = true) : zig t ≤ 18014398509481982 := by
  unfold isTimeB at h
  simp only [Bool.and_eq_true, decide_eq_true_eq] at h
  unfold zig
  split <;> omega
theorem pointP_len (x : VPoint) (h : (1 ≤ x.Ref ∧ x.Ref ≤ 1000000) ∧ isTimeB x.Time = true) : (pointP x).length ≤ 30 := by
  have := num_len10 (n := x.Ref.toNat) (by omega)
  have := num_len10 (n := zig x.Time) (by have := zig_lt h.2; omega)
  unfold pointP
  simp only [List.length_append, wordF_len]; omega
theorem packLabels (N : Nat) (k : List UInt8 → List VRef → Int → Int → Option (List UInt8 × Int)) (rs : List VRef) (a b : Int) : ∀ (r p : List VLabel) (m : Nat) (acc : List UInt8), (∀ z ∈ r, z.Name.length ≤ 40 ∧ z.Value.length ≤ 100) → acc.length + r.length * 1000 ≤ 1000000000 → (p ++ r).length ≤ 1000 → r.length < m → record_Pack_L12 N k m acc rs a b (p ++ r) ((p ++ r).length : Int) (p.length : Int) = k (acc ++ r.flatMap labelP) rs a (w64 (b + 1))
  | r, p, 0, acc, _, _, _, h => by omega
  | [], p, m + 1, acc, hz, hl, hp, h => by
    unfold record_Pack_L12
    rw [lt_end]
    simp only [cond_false, List.flatMap_nil, List.append_nil]
  | z :: r, p, m + 1, acc, hz, hl, hp, h => by
    have h1 := hz z (by simp)
    have hn := textP_len z.Name (by omega)
    have hv := textP_len z.Value h1.2
    have hp' : p.length + 1 < 9223372036854775808 := by simp at hp; omega
    unfold record_Pack_L12
    simp only [List.length_cons] at hl h
    rw [lt_cat, cond_true, idxC_cat, Option.bind_some, recText_is N _ (by omega), Option.bind_some, recText_is N _ h1.2, Option.bind_some, catC_is (by omega), Option.bind_some, catC_is (by rw [List.length_append]; omega), Option.bind_some, w64_next p z hp']
    have ih := packLabels N k rs a b r (p ++ [z]) m (acc ++ (textP z.Name ++ textP z.Value)) (fun y hy => hz y (by simp [hy])) (by simp only [List.length_append]; omega) (by rw [← cat_next]; exact hp) (by omega)
    rw [← cat_next] at ih
    rw [ih, List.flatMap_cons]
    simp only [labelP, List.append_assoc]
theorem packRefs (N : Nat) : ∀ (r p : List VRef) (m : Nat) (acc : List UInt8), (∀ x ∈ r, GoodRef x) → acc.length + r.length * 100000 ≤ 100000000 → (p ++ r).length ≤ 1000 → r.length + 30 < m → record_Pack_L8 N m acc (p ++ r) ((p ++ r).length : Int) (p.length : Int) = some (acc ++ r.flatMap refP, 0)
  | r, p, 0, acc, _, _, _, h => by omega
  | [], p, m + 1, acc, hz, hl, hp, h => by
    unfold record_Pack_L8
    rw [lt_end]
    simp only [cond_false, List.flatMap_nil, List.append_nil]
  | x :: r, p, m + 1, acc, hz, hl, hp, h => by
    have hg := hz x (by simp)
    obtain ⟨h1, h2⟩ := right_labels hg.chk
    have hr := hg.ref
    have hx : x.Ref = ((x.Ref.toNat : Nat) : Int) := by omega
    have hlen := refP_len x hg
    have n1 := num_len10 (n := x.Ref.toNat) (by omega)
    have n2 := num_len10 (n := x.Labels.length) (by omega)
    have hp' : p.length + 1 < 9223372036854775808 := by simp at hp; omega
    unfold record_Pack_L8
    simp only [List.length_cons] at hl h
    rw [lt_cat, cond_true, idxC_cat, Option.bind_some]
    have e1 : record_number N x.Ref = some (num x.Ref.toNat) := by rw [hx]; exact recNumber_is N _ (by omega)
    rw [e1, Option.bind_some, recNumber_is N _ (by omega), Option.bind_some, catC_is (by omega), Option.bind_some, catC_is (by rw [List.length_append]; omega), Option.bind_some]
    have hlab := packLabels N (record_Pack_L8 N m) (p ++ x :: r) ((p ++ x :: r).length : Int) (p.length : Int) x.Labels [] m (acc ++ (num x.Ref.toNat ++ num x.Labels.length)) h2 (by simp only [List.length_append]; omega) (by simp; omega) (by omega)
    simp only [List.nil_append, List.length_nil] at hlab
    refine Eq.trans hlab ?_
    rw [w64_next p x hp']
    have ih := packRefs N r (p ++ [x]) m (acc ++ (num x.Ref.toNat ++ num x.Labels.length) ++ x.Labels.flatMap labelP) (fun y hy => hz y (by simp [hy])) (by
      have : (acc ++ (num x.Ref.toNat ++ num x.Labels.length) ++ x.Labels.flatMap labelP).length = acc.length + (refP x).length := by simp [refP]
      omega) (by rw [← cat_next]; exact hp) (by omega)
    rw [← cat_next] at ih
    rw [ih, List.flatMap_cons]
    simp [refP]
theorem packPoints (N : Nat) (hN : 10 < N) : ∀ (r p : List VPoint) (m : Nat) (acc : List UInt8), (∀ x ∈ r, ((1 ≤ x.Ref ∧ x.Ref ≤ 1000000) ∧ isTimeB x.Time = true) ∧ 0 ≤ x.Bits ∧ x.Bits < 18446744073709551616) → acc.length + r.length * 1000 ≤ 1000000 → (p ++ r).length ≤ 1000 → r.length < m → record_Pack_L20 N m acc (p ++ r) ((p ++ r).length : Int) (p.length : Int) = some (acc ++ r.flatMap pointP, 0)
  | r, p, 0, acc, _, _, _, h => by omega
  | [], p, m + 1, acc, hz, hl, hp, h => by
    unfold record_Pack_L20
    rw [lt_end]
    simp only [cond_false, List.flatMap_nil, List.append_nil]
  | x :: r, p, m + 1, acc, hz, hl, hp, h => by
    obtain ⟨hg, hb1, hb2⟩ := hz x (by simp)
    have hr := hg.1
    have hx : x.Ref = ((x.Ref.toNat : Nat) : Int) := by omega
    have hb : x.Bits = ((x.Bits.toNat : Nat) : Int) := by omega
    have hlen := pointP_len x hg
    have n1 := num_len10 (n := x.Ref.toNat) (by omega)
    have n2 := num_len10 (n := zig x.Time) (by have := zig_lt hg.2; omega)
    have hp' : p.length + 1 < 9223372036854775808 := by simp at hp; omega
    have w8 := wordF_len 8 x.Bits.toNat
    unfold record_Pack_L20
    simp only [List.length_cons] at hl h
    have e1 : record_number N x.Ref = some (num x.Ref.toNat) := by rw [hx]; exact recNumber_is N _ (by omega)
    have e2 : record_word N x.Bits = some (wordF 8 x.Bits.toNat) := by rw [hb]; exact word_is N _ (by omega) hN
    rw [lt_cat, cond_true, idxC_cat, Option.bind_some, e1, Option.bind_some, signed_is N _ hg.2, Option.bind_some, catC_is (by omega), Option.bind_some, e2, Option.bind_some, catC_is (by rw [List.length_append]; omega), Option.bind_some, catC_is (by simp only [List.length_append]; omega), Option.bind_some, w64_next p x hp']
    have ih := packPoints N hN r (p ++ [x]) m (acc ++ (num x.Ref.toNat ++ num (zig x.Time) ++ wordF 8 x.Bits.toNat)) (fun y hy => hz y (by simp [hy])) (by
      have : (acc ++ (num x.Ref.toNat ++ num (zig x.Time) ++ wordF 8 x.Bits.toNat)).length = acc.length + (pointP x).length := by simp [pointP]
      omega) (by rw [← cat_next]; exact hp) (by omega)
    rw [← cat_next] at ih
    rw [ih, List.flatMap_cons]
    simp only [pointP, List.append_assoc]
theorem kind_byte {r : VRecord} (hg : GoodRec r) : toB (IntKind.wrap .u8 r.Kind) = bt r.Kind.toNat := by
  rcases hg.kind with ⟨k, _⟩ | ⟨k, _⟩ <;> rw [k] <;> rfl
theorem pack_one (N : Nat) (hN : 1000 ≤ N) (r : VRecord) (hg : GoodRec r) (k1 : r.Kind = 1) : ((record_number N (r.Refs.length : Int)).bind fun z2 => (catC ([toB (IntKind.wrap .u8 r.Kind)] : List UInt8) z2).bind fun z3 => record_Pack_L8 N N z3 r.Refs (r.Refs.length : Int) 0) = some (packP r, 0) := by
  have h2 := hg.refs
  have n2 := num_len10 (n := r.Refs.length) (by omega)
  rw [kind_byte hg, recNumber_is N _ (by omega), Option.bind_some, catC_is (by rw [List.length_singleton]; omega), Option.bind_some]
  have := packRefs N r.Refs [] N ([bt r.Kind.toNat] ++ num r.Refs.length) hg.ref (by rw [List.length_append, List.length_singleton]; omega) (by rw [List.nil_append]; omega) (by omega)
  rw [List.nil_append, List.append_assoc] at this
  unfold packP
  rw [if_pos k1]
  exact this
theorem pack_two (N : Nat) (hN : 1000 ≤ N) (r : VRecord) (hg : GoodRec r) (hb : ∀ x ∈ r.Points, 0 ≤ x.Bits ∧ x.Bits < 18446744073709551616) (k1 : r.Kind = 2) : ((record_number N (r.Points.length : Int)).bind fun z2 => (catC ([toB (IntKind.wrap .u8 r.Kind)] : List UInt8) z2).bind fun z3 => record_Pack_L20 N N z3 r.Points (r.Points.length : Int) 0) = some (packP r, 0) := by
  have h2 := hg.points
  have n2 := num_len10 (n := r.Points.length) (by omega)
  rw [kind_byte hg, recNumber_is N _ (by omega), Option.bind_some, catC_is (by rw [List.length_singleton]; omega), Option.bind_some]
  have := packPoints N (by omega) r.Points [] N ([bt r.Kind.toNat] ++ num r.Points.length) (fun x hx => ⟨hg.pt x hx, hb x hx⟩) (by rw [List.length_append, List.length_singleton]; omega) (by rw [List.nil_append]; omega) (by omega)
  rw [List.nil_append, List.append_assoc] at this
  unfold packP
  rw [if_neg (by omega)]
  exact this
/-- Bits that there may be. -/
def WBits (r : VRecord) : Prop := ∀ x ∈ r.Points, 0 ≤ x.Bits ∧ x.Bits < 18446744073709551616
theorem pack_ev (r : VRecord) (hw : WRec r) (hb : WBits r) : Ev (fun N => record_Pack N r) (if chkRec r = 0 then (packP r, 0) else ([], chkRec r)) := by
  obtain ⟨N0, h0⟩ := checkRec_ev r hw
  refine ⟨max N0 1000, fun N hN => ?_⟩
  have h0 := h0 N (by omega)
  simp only at h0
  show record_Pack N r = _
  unfold record_Pack
  rw [h0, Option.bind_some]
  by_cases hc : chkRec r = 0
  · rw [if_pos hc, hc]
    have hg := good_rec hc
    rw [show ((0 : Int) != 0) = false from rfl, cond_false]
    rcases hg.kind with ⟨k1, k2⟩ | ⟨k1, k2⟩
    · have e : (r.Kind == 1) = true := by rw [k1]; rfl
      rw [e, cond_true]
      exact pack_one N (by omega) r hg k1
    · have e : (r.Kind == 1) = false := by rw [k1]; rfl
      rw [e, cond_false]
      exact pack_two N (by omega) r hg hb k1
  · have e : (chkRec r != 0) = true := bne_iff_ne.2 hc
    rw [if_neg hc, e, cond_true]
end Go.Proofs.Ytgmbgbalcndohaa
