/- Plain: what is written is read as it was; texts one behind the other. -/
import Derived.Test.YtophpbihcfdkcaaRI
import Derived.Test.YtophpbihcfdkcaaRG
import Derived.Test.YtophpbihcfdkcaaO2
import Derived.Test.YtophpbihcfdkcaaW3
namespace Go.Proofs.Ytophpbihcfdkcaa
open Go.RowKit P
set_option linter.unusedSimpArgs false
set_option linter.unusedVariables false

theorem fldAt_of {s : List UInt8} {key k n2 k2 e2 : Nat} (hrd : rd s = (key, k, 0)) (hrd2 : rd (s.drop k) = (n2, k2, e2)) (c0 : ¬ key / 8 = 0) (c1 : ¬ 536870911 < key / 8) :
    (key % 8 = 0 → e2 = 0 → fldAt s = some (⟨key / 8, 0, n2, []⟩, (s.drop k).drop k2)) ∧ (key % 8 = 1 → 8 ≤ (s.drop k).length → fldAt s = some (⟨key / 8, 1, 0, (s.drop k).take 8⟩, (s.drop k).drop 8)) ∧
    (key % 8 = 2 → e2 = 0 → n2 ≤ ((s.drop k).drop k2).length → fldAt s = some (⟨key / 8, 2, 0, ((s.drop k).drop k2).take n2⟩, ((s.drop k).drop k2).drop n2)) := by
  have hc := fld_cases s key k n2 k2 e2 hrd hrd2
  refine ⟨fun d he => ?_, fun d hl => ?_, fun d he hl => ?_⟩
  · rcases hc with ⟨_, h⟩ | ⟨_, _, ⟨_, _, h⟩ | ⟨d1, _, h⟩ | ⟨d1, _, _, h⟩ | ⟨d1, _, h⟩⟩
    · omega
    · exact h
    · omega
    · omega
    · omega
  · rcases hc with ⟨_, h⟩ | ⟨_, _, ⟨d1, _, h⟩ | ⟨d1, _, h⟩ | ⟨d1, _, _, h⟩ | ⟨d1, _, h⟩⟩
    · omega
    · omega
    · exact h
    · omega
    · omega
  · rcases hc with ⟨_, h⟩ | ⟨_, _, ⟨d1, _, h⟩ | ⟨d1, _, h⟩ | ⟨d1, _, _, h⟩ | ⟨d1, _, h⟩⟩
    · omega
    · omega
    · omega
    · exact h
    · omega
theorem drop_app {a b : List UInt8} {n : Nat} (h : n = a.length) : (a ++ b).drop n = b := by subst h; simp
theorem take_app {a b : List UInt8} {n : Nat} (h : n = a.length) : (a ++ b).take n = a := by subst h; simp
/-- A field of bytes. -/
theorem fldAt_field (k : Nat) (hk : 1 ≤ k) (hk2 : k ≤ 536870911) (s r : List UInt8) (hs : s.length < 18446744073709551616) : fldAt (fieldB k s ++ r) = some (⟨k, 2, 0, s⟩, r) := by
  have h1 : rd (fieldB k s ++ r) = (8 * k + 2, (num (8 * k + 2)).length, 0) := by
    unfold fieldB; rw [List.append_assoc, List.append_assoc]; exact rd_num (by omega) _
  have e1 : (fieldB k s ++ r).drop (num (8 * k + 2)).length = num s.length ++ (s ++ r) := by
    unfold fieldB; rw [List.append_assoc, List.append_assoc]; exact drop_app rfl
  have h2 : rd ((fieldB k s ++ r).drop (num (8 * k + 2)).length) = (s.length, (num s.length).length, 0) := by rw [e1]; exact rd_num hs _
  have h3 := (fldAt_of h1 h2 (by omega) (by omega)).2.2 (by omega) rfl (by rw [e1, drop_app rfl]; simp)
  rw [h3, e1, drop_app rfl, take_app rfl, drop_app rfl, show (8 * k + 2) / 8 = k by omega]
theorem fldAt_fixed (w r : List UInt8) (hw : w.length = 8) : fldAt (9 :: (w ++ r)) = some (⟨1, 1, 0, w⟩, r) := by
  have hn : num 9 = [9] := by rw [num_small (by omega)]; rfl
  have h1 : rd (9 :: (w ++ r)) = (9, 1, 0) := by
    have := rd_num (m := 9) (by omega) (w ++ r)
    rw [hn] at this; exact this
  obtain ⟨n2, k2, e2, h2⟩ : ∃ n2 k2 e2, rd ((9 :: (w ++ r)).drop 1) = (n2, k2, e2) := ⟨_, _, _, rfl⟩
  have h3 := (fldAt_of h1 h2 (by omega) (by omega)).2.1 (by omega) (by simp; omega)
  rw [h3]
  simp only [List.drop_succ_cons, List.drop_zero]
  rw [take_app hw.symm, drop_app hw.symm]
theorem fldAt_var (t : Nat) (ht : t < 18446744073709551616) (r : List UInt8) : fldAt (num 16 ++ (num t ++ r)) = some (⟨2, 0, t, []⟩, r) := by
  have h1 : rd (num 16 ++ (num t ++ r)) = (16, (num 16).length, 0) := rd_num (by omega) _
  have e1 : (num 16 ++ (num t ++ r)).drop (num 16).length = num t ++ r := drop_app rfl
  have h2 : rd ((num 16 ++ (num t ++ r)).drop (num 16).length) = (t, (num t).length, 0) := by rw [e1]; exact rd_num ht _
  have h3 := (fldAt_of h1 h2 (by omega) (by omega)).1 (by omega) rfl
  rw [h3, e1, drop_app rfl]
theorem runF_field {α : Type} {step : α → Fld → Option α} {a : α} (k : Nat) (hk : 1 ≤ k) (hk2 : k ≤ 536870911) (s r : List UInt8) (hs : s.length < 18446744073709551616) : runF step (fieldB k s ++ r) a = match step a ⟨k, 2, 0, s⟩ with
    | none => none
    | some a' => runF step r a' := by
  have h := fldAt_field k hk hk2 s r hs
  cases hst : step a ⟨k, 2, 0, s⟩ with
  | none => exact runF_none h hst
  | some a' => exact runF_some h hst
theorem leN_wordF : ∀ (k n : Nat), n < 256 ^ k → leN (wordF k n) = n
  | 0, n, h => by simp at h; subst h; rfl
  | k + 1, n, h => by
    have h1 : n / 256 < 256 ^ k := by rw [Nat.pow_succ] at h; omega
    simp only [wordF, leN, leN_wordF k _ h1]
    rw [bt_toNat (by omega)]; omega
theorem sg_uns {t : Int} (h : I64 t) : sg (uns t) = t := by
  obtain ⟨h1, h2⟩ := h
  unfold sg uns
  split <;> omega
theorem sample_back (x : Smp) (h1 : I64 x.1) (h2 : x.2 < 18446744073709551616) : sampleB (P.sampleB (x.1, (x.2 : Int))) = some x := by
  obtain ⟨t, b⟩ := x
  have hu : uns t < 18446744073709551616 := by unfold uns; omega
  have e : P.sampleB (t, (b : Int)) = 9 :: (wordF 8 b ++ (num 16 ++ (num (uns t) ++ []))) := by
    simp only [P.sampleB, wordB, Int.toNat_natCast, List.append_assoc, List.append_nil, List.cons_append, List.nil_append]
  show runF sampleStep _ (0, 0) = _
  rw [e, runF_some (fldAt_fixed _ _ (wordF_len 8 b)) (a' := (0, b)) (by
    simp only [sampleStep, and_self, if_true]
    rw [leN_wordF 8 b (by simpa using h2)]), runF_some (fldAt_var _ hu []) (a' := (t, b)) (by
    simp only [sampleStep]
    rw [if_neg (by simp), if_pos (by simp), sg_uns h1]), runF_nil]
theorem label_back (x : Lbl) (h1 : x.1.length ≤ 20000) (h2 : x.2.length ≤ 20000) : labelB (fieldB 1 x.1 ++ fieldB 2 x.2) = some x := by
  obtain ⟨a, b⟩ := x
  show runF labelStep _ ([], []) = _
  rw [runF_field 1 (by omega) (by omega) a _ (by dsimp only at h1; omega)]
  have e := runF_field (step := labelStep) (a := (a, ([] : List UInt8))) 2 (by omega) (by omega) b [] (by dsimp only at h2; omega)
  rw [List.append_nil] at e
  simp only [labelStep, and_self, if_true]
  rw [e]
  simp [labelStep, runF_nil]
theorem labels_back : ∀ (l : List Lbl) (a : Srs) (r : List UInt8), (∀ x ∈ l, x.1.length ≤ 20000 ∧ x.2.length ≤ 20000) → runF seriesStep (lbsB l ++ r) a = runF seriesStep r (a.1 ++ l, a.2)
  | [], a, r, _ => by simp [lbsB]
  | x :: l, a, r, h => by
    have hx := h x List.mem_cons_self
    have hl : (fieldB 1 x.1 ++ fieldB 2 x.2).length < 18446744073709551616 := by
      have h1 := fieldB_len 1 (by omega) x.1 (by omega)
      have h2 := fieldB_len 2 (by omega) x.2 (by omega)
      rw [List.length_append]; omega
    have e : lbsB (x :: l) ++ r = fieldB 1 (fieldB 1 x.1 ++ fieldB 2 x.2) ++ (lbsB l ++ r) := by simp [lbsB, lbB]
    rw [e, runF_field 1 (by omega) (by omega) _ _ hl]
    simp only [seriesStep, and_self, if_true, label_back x hx.1 hx.2, Option.map_some]
    rw [labels_back l _ r (fun y hy => h y (List.mem_cons_of_mem _ hy))]
    simp
theorem samples_back : ∀ (l : List Smp) (a : Srs) (r : List UInt8), (∀ x ∈ l, I64 x.1 ∧ x.2 < 18446744073709551616) → runF seriesStep (smsB (l.map fun p => (p.1, (p.2 : Int))) ++ r) a = runF seriesStep r (a.1, a.2 ++ l)
  | [], a, r, _ => by simp [smsB]
  | x :: l, a, r, h => by
    have hx := h x List.mem_cons_self
    have hl := sampleB_len (x.1, (x.2 : Int))
    have e : smsB ((x :: l).map fun p => (p.1, (p.2 : Int))) ++ r = fieldB 2 (P.sampleB (x.1, (x.2 : Int))) ++ (smsB (l.map fun p => (p.1, (p.2 : Int))) ++ r) := by simp [smsB, smB]
    rw [e, runF_field 2 (by omega) (by omega) _ _ (by omega)]
    simp only [seriesStep]
    rw [if_neg (by simp), if_pos (by simp), sample_back x hx.1 hx.2]
    simp only [Option.map_some]
    rw [samples_back l _ r (fun y hy => h y (List.mem_cons_of_mem _ hy))]
    simp
def OkSrs (y : Srs) : Prop := (∀ x ∈ y.1, x.1.length ≤ 20000 ∧ x.2.length ≤ 20000) ∧ (∀ x ∈ y.2, I64 x.1 ∧ x.2 < 18446744073709551616)
theorem series_back (y : Srs) (h : OkSrs y) : seriesB (inB (toSr y)) = some y := by
  obtain ⟨a, b⟩ := y
  show runF seriesStep _ ([], []) = _
  have h1 := labels_back a ([], []) (smsB (b.map fun p => (p.1, (p.2 : Int)))) h.1
  have h2 := samples_back b (a, []) [] h.2
  rw [List.append_nil] at h2
  simp only [inB, toSr]
  rw [h1]
  simp only [List.nil_append]
  rw [h2, runF_nil]
  simp
theorem read_back : ∀ (L : List Srs) (A : List Srs) (r : List UInt8), (∀ y ∈ L, OkSrs y ∧ (inB (toSr y)).length < 18446744073709551616) → runF readStep (outB (L.map toSr) ++ r) A = runF readStep r (A ++ L)
  | [], A, r, _ => by simp [outB]
  | y :: L, A, r, h => by
    have hy := h y List.mem_cons_self
    have e : outB ((y :: L).map toSr) ++ r = fieldB 1 (inB (toSr y)) ++ (outB (L.map toSr) ++ r) := by simp [outB]
    rw [e, runF_field 1 (by omega) (by omega) _ _ hy.2]
    simp only [readStep, and_self, if_true, series_back y hy.1, Option.map_some]
    rw [read_back L _ r (fun z hz => h z (List.mem_cons_of_mem _ hz))]
    simp

/-! ### Texts one behind the other -/
theorem fldAt_more {s r : List UInt8} {f : Fld} (t : List UInt8) (h : fldAt s = some (f, r)) : fldAt (s ++ t) = some (f, r ++ t) := by
  obtain ⟨key, k, e, hrd⟩ : ∃ key k e, rd s = (key, k, e) := ⟨_, _, _, rfl⟩
  by_cases he : e = 0
  · subst he
    have hf := rd_fine hrd
    obtain ⟨n2, k2, e2, hrd2⟩ : ∃ n2 k2 e2, rd (s.drop k) = (n2, k2, e2) := ⟨_, _, _, rfl⟩
    have hm := rd_more hrd t
    have hd : (s ++ t).drop k = s.drop k ++ t := List.drop_append_of_le_length (by omega)
    rcases fld_cases s key k n2 k2 e2 hrd hrd2 with ⟨hb, _⟩ | ⟨c0, c1, ⟨d, he2, hx⟩ | ⟨d, hl, hx⟩ | ⟨d, he2, hl, hx⟩ | ⟨d, hl, hx⟩⟩
    · rw [h] at hb; cases hb
    · rw [h] at hx; cases hx
      subst he2
      have hf2 := rd_fine hrd2
      have hm2 : rd ((s ++ t).drop k) = (n2, k2, 0) := by rw [hd]; exact rd_more hrd2 t
      rw [(fldAt_of hm hm2 c0 c1).1 d rfl, hd, List.drop_append_of_le_length (by omega)]
    · rw [h] at hx; cases hx
      obtain ⟨n3, k3, e3, hm2⟩ : ∃ n3 k3 e3, rd ((s ++ t).drop k) = (n3, k3, e3) := ⟨_, _, _, rfl⟩
      rw [(fldAt_of hm hm2 c0 c1).2.1 d (by rw [hd, List.length_append]; omega), hd, List.drop_append_of_le_length (by omega), List.take_append_of_le_length (by omega)]
    · rw [h] at hx; cases hx
      subst he2
      have hf2 := rd_fine hrd2
      have hm2 : rd ((s ++ t).drop k) = (n2, k2, 0) := by rw [hd]; exact rd_more hrd2 t
      have hd2 : (s.drop k ++ t).drop k2 = (s.drop k).drop k2 ++ t := List.drop_append_of_le_length (by omega)
      rw [(fldAt_of hm hm2 c0 c1).2.2 d rfl (by rw [hd, hd2, List.length_append]; omega), hd, hd2, List.drop_append_of_le_length (by omega), List.take_append_of_le_length (by omega)]
    · rw [h] at hx; cases hx
      have hl8 : 4 ≤ ((s ++ t).drop k).length := by rw [hd, List.length_append]; omega
      obtain ⟨n3, k3, e3, hm2⟩ : ∃ n3 k3 e3, rd ((s ++ t).drop k) = (n3, k3, e3) := ⟨_, _, _, rfl⟩
      rcases fld_cases (s ++ t) key k n3 k3 e3 hm hm2 with ⟨_, h⟩ | ⟨_, _, ⟨d1, _, h⟩ | ⟨d1, _, h⟩ | ⟨d1, _, _, h⟩ | ⟨d1, _, h⟩⟩
      · omega
      · omega
      · omega
      · omega
      · rw [h, hd, List.drop_append_of_le_length (by omega), List.take_append_of_le_length (by omega)]
  · unfold fldAt at h; rw [hrd, if_pos he] at h; cases h
theorem runF_app {α : Type} {step : α → Fld → Option α} : ∀ (n : Nat) (a b : List UInt8) (x y : α), a.length ≤ n → runF step a x = some y → runF step (a ++ b) x = runF step b y
  | n, a, b, x, y, hn, h => by
    by_cases ha : a = []
    · subst ha; rw [runF_nil] at h; cases h; rfl
    · cases hf : fldAt a with
      | none => rw [runF_bad ha hf] at h; cases h
      | some p =>
        obtain ⟨f, r⟩ := p
        cases hs : step x f with
        | none => rw [runF_none hf hs] at h; cases h
        | some x' =>
          rw [runF_some hf hs] at h
          rw [runF_some (fldAt_more b hf) hs]
          have := (fldAt_lt hf).1
          cases n with
          | zero => omega
          | succ n => exact runF_app n r b x' y (by omega) h
theorem foldF_app {α : Type} {step : α → Fld → Option α} : ∀ (l1 l2 : List Fld) (a : α), foldF step (l1 ++ l2) a = (foldF step l1 a).bind (foldF step l2)
  | [], l2, a => rfl
  | f :: l1, l2, a => by
    simp only [List.cons_append, foldF]
    cases step a f with
    | none => rfl
    | some b => exact foldF_app l1 l2 b
theorem readStep_add' (A L : List Srs) (f : Fld) : readStep (A ++ L) f = (readStep L f).map (A ++ ·) := by
  unfold readStep
  split
  · cases seriesB f.bs <;> simp
  · rfl
theorem foldF_readStep : ∀ (l : List Fld) (A L : List Srs), foldF readStep l (A ++ L) = (foldF readStep l L).map (A ++ ·)
  | [], A, L => rfl
  | f :: l, A, L => by
    simp only [foldF]
    rw [readStep_add']
    cases readStep L f with
    | none => rfl
    | some L' => exact foldF_readStep l A L'
theorem runF_readStep (s : List UInt8) (A : List Srs) : runF readStep s A = (readB s).map (A ++ ·) := by
  unfold readB runF
  cases flds s with
  | none => rfl
  | some l =>
    have := foldF_readStep l A []
    rw [List.append_nil] at this
    exact this
theorem readB_app {a b : List UInt8} {L : List Srs} (h : readB a = some L) : readB (a ++ b) = (readB b).map (L ++ ·) := by
  rw [← runF_readStep b L]
  exact runF_app a.length a b [] L (Nat.le_refl _) h
/-- A field that is passed over, ahead of a text. -/
theorem readB_pass (k : Nat) (hk : 2 ≤ k) (hk2 : k ≤ 536870911) (b s : List UInt8) (hb : b.length < 18446744073709551616) : readB (fieldB k b ++ s) = readB s := by
  show runF readStep _ [] = runF readStep s []
  rw [runF_field k (by omega) hk2 b s hb]
  have : readStep [] ⟨k, 2, 0, b⟩ = some [] := by unfold readStep; rw [if_neg (by simp; omega)]
  rw [this]
theorem readB_pass' (k : Nat) (hk : 2 ≤ k) (hk2 : k ≤ 536870911) (b s : List UInt8) (hb : b.length < 18446744073709551616) {L : List Srs} (h : readB s = some L) : readB (s ++ fieldB k b) = some L := by
  rw [readB_app h]
  have := readB_pass k hk hk2 b [] hb
  rw [List.append_nil] at this
  rw [this]
  show (runF readStep [] []).map _ = _
  rw [runF_nil]; simp
/-! ### What Read answers -/
theorem readR_ok {s : List UInt8} {L : List Srs} (h : readR s = (L, 0)) : s.length ≤ 20000 ∧ readB s = some L ∧ checkB (L.map toSr) = 0 ∧ GoodL L := by
  unfold readR at h
  split at h
  · cases h
  · rename_i h20
    cases hb : readB s with
    | none => rw [hb] at h; cases h
    | some L' =>
      rw [hb] at h
      simp only at h
      split at h
      · rename_i hc; cases h; exact ⟨by omega, rfl, hc, read_good (by omega) hb⟩
      · rename_i hc; exact absurd (Prod.mk.inj h).2 hc
theorem checkB_le (l : List Sr) : checkB l ≤ 3 := by unfold checkB; split <;> (try split) <;> omega
theorem readR_bad {s : List UInt8} {L : List Srs} {e : Nat} (h : readR s = (L, e)) (he : ¬ e = 0) : L = [] ∧ e ≤ 3 := by
  unfold readR at h
  split at h
  · cases h; exact ⟨rfl, by omega⟩
  · cases hb : readB s with
    | none => rw [hb] at h; cases h; exact ⟨rfl, by omega⟩
    | some L' =>
      rw [hb] at h
      simp only at h
      split at h
      · cases h; exact absurd rfl he
      · cases h; exact ⟨rfl, checkB_le _⟩
theorem readR_of {s : List UInt8} {L : List Srs} (h20 : s.length ≤ 20000) (hb : readB s = some L) (hc : checkB (L.map toSr) = 0) : readR s = (L, 0) := by
  unfold readR; rw [if_neg (by omega), hb]; simp only [if_pos hc]
theorem readR_chk {s : List UInt8} {L : List Srs} (h20 : s.length ≤ 20000) (hb : readB s = some L) (hc : ¬ checkB (L.map toSr) = 0) : readR s = ([], checkB (L.map toSr)) := by
  unfold readR; rw [if_neg (by omega), hb]; simp only [if_neg hc]
theorem readR_big {s : List UInt8} (h : 20000 < s.length) : readR s = ([], 2) := by unfold readR; rw [if_pos h]
theorem readR_form {s : List UInt8} (h20 : s.length ≤ 20000) (hb : readB s = none) : readR s = ([], 1) := by unfold readR; rw [if_neg (by omega), hb]
theorem checkB_small {L : List Srs} (h : checkB (L.map toSr) = 0) : manyB (L.map toSr) = false ∧ timesB (L.map toSr) = true := by
  unfold checkB at h
  cases hm : manyB (L.map toSr)
  · rw [hm] at h
    cases ht : timesB (L.map toSr)
    · rw [ht] at h; simp at h
    · exact ⟨rfl, rfl⟩
  · rw [hm] at h; simp at h
theorem small_of_check {L : List Srs} (h : checkB (L.map toSr) = 0) : L.length ≤ 200 ∧ ∀ y ∈ L, y.1.length ≤ 20 ∧ y.2.length ≤ 200 ∧ ∀ x ∈ y.1, x.1.length ≤ 20000 ∧ x.2.length ≤ 20000 := by
  obtain ⟨hm, _⟩ := checkB_small h
  simp only [manyB, Bool.or_eq_false_iff, decide_eq_false_iff_not, List.length_map] at hm
  refine ⟨by omega, fun y hy => ?_⟩
  have h2 : manyL (toSr y) = false := by
    rw [Bool.eq_false_iff]
    intro hc
    have := List.any_eq_true.2 ⟨toSr y, List.mem_map_of_mem hy, hc⟩
    rw [hm.2] at this; cases this
  simp only [manyL, Bool.or_eq_false_iff, decide_eq_false_iff_not, toSr, List.length_map] at h2
  refine ⟨Nat.not_lt.1 (of_decide_eq_false h2.1.1), by omega, fun x hx => ?_⟩
  have h3 : longLb x = false := by
    rw [Bool.eq_false_iff]
    intro hc
    have := List.any_eq_true.2 ⟨x, hx, hc⟩
    rw [h2.2] at this; cases this
  simp only [longLb, Bool.or_eq_false_iff, decide_eq_false_iff_not] at h3
  omega
theorem checkB_app {L M : List Srs} (h1 : checkB (L.map toSr) = 0) (h2 : checkB (M.map toSr) = 0) : checkB ((L ++ M).map toSr) = if 200 < L.length + M.length then 2 else 0 := by
  obtain ⟨a1, a2⟩ := checkB_small h1
  obtain ⟨b1, b2⟩ := checkB_small h2
  simp only [manyB, Bool.or_eq_false_iff, decide_eq_false_iff_not, List.length_map] at a1 b1
  have ht : timesB ((L ++ M).map toSr) = true := by
    simp only [timesB, List.map_append, List.all_append, Bool.and_eq_true]
    exact ⟨a2, b2⟩
  have hm : manyB ((L ++ M).map toSr) = decide (200 < L.length + M.length) := by
    simp only [manyB, List.map_append, List.length_append, List.length_map, List.any_append, a1.2, b1.2, Bool.or_false]
  unfold checkB
  rw [hm, ht]
  by_cases h : 200 < L.length + M.length
  · simp [h]
  · simp [h]
/-! ### Written and read -/
theorem writeB_ok {l : List Sr} {t : List UInt8} (h : writeB l = (t, 0)) : checkB l = 0 ∧ t = outB l ∧ t.length ≤ 20000 := by
  unfold writeB at h
  split at h
  · rename_i hc; have := (Prod.mk.inj h).2; omega
  · rename_i hc
    split at h
    · cases h
    · rename_i h2; cases h; exact ⟨by omega, rfl, by omega⟩
theorem writeB_bad {l : List Sr} {t : List UInt8} {e : Nat} (h : writeB l = (t, e)) (he : ¬ e = 0) : t = [] ∧ e ≤ 3 := by
  unfold writeB at h
  split at h
  · cases h; exact ⟨rfl, checkB_le _⟩
  · split at h
    · cases h; exact ⟨rfl, by omega⟩
    · cases h; exact absurd rfl he
theorem write_read {L : List Srs} {t : List UInt8} (hL : OkL L) (h : writeB (L.map toSr) = (t, 0)) : readR t = (L, 0) := by
  obtain ⟨hc, rfl, hl⟩ := writeB_ok h
  obtain ⟨s1, s2⟩ := small_of_check hc
  refine readR_of hl ?_ hc
  have := read_back L [] [] (fun y hy => ⟨⟨(s2 y hy).2.2, (hL.2 y hy).2.2.2⟩, ?_⟩)
  · rw [List.append_nil, List.nil_append, runF_nil] at this
    exact this
  · have hm := (checkB_small hc).1
    obtain ⟨i, hi, rfl⟩ := List.getElem_of_mem hy
    have h2 := manyB_at hm i (by simpa using hi)
    simp only [List.getElem_map] at h2
    have := inB_len _ h2
    omega
end Go.Proofs.Ytophpbihcfdkcaa
