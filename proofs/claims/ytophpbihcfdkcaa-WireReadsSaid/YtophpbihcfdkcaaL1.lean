/- The walks of the laws WireNumbers, WireReadNumbers, WireWrites, and of textIs and wireBegun. -/
import Derived.Test.YtophpbihcfdkcaaW4
namespace Go.Proofs.Ytophpbihcfdkcaa
open Go.RowKit P

theorem textIs_ok (s : ByteArray) (w : World) :
    Calls Try.prog 22 #[.string s, .int .i64 0, .int .i64 0, .string s] w fun e w' => e = .returned (.bool true) ∧ w = w' := by
  go_enter Try.func22, Try.ntmps22
  go_wp2
  go_ret
  exact ⟨rfl, rfl⟩
theorem textIs_err (n : Int) (t : ByteArray) (w : World) (hn : n ≠ 0) :
    Calls Try.prog 22 #[.string (mkB []), .int .i64 n, .int .i64 n, .string t] w fun e w' => e = .returned (.bool true) ∧ w = w' := by
  have h : (n != 0) = true := by simpa using hn
  have he : mkB [] = ⟨#[]⟩ := rfl
  clear hn
  go_enter Try.func22, Try.ntmps22
  go_wp2
  go_ret
  exact ⟨rfl, rfl⟩

theorem begun_series (w : World) : SeriesAt ((w.alloc (.cells #[.string ⟨#[97]⟩, .string ⟨#[98]⟩] 48)).alloc (.cells #[.slice (some ⟨w.heap.size, 0, none⟩) 1 1, .slice none 0 0] 52))
    (.slice (some ⟨w.heap.size + 1, 0, none⟩) 1 1) [⟨[([97], [98])], []⟩] := by
  refine ⟨_, 1, [(.slice (some ⟨w.heap.size, 0, none⟩) 1 1, .slice none 0 0)], rfl, by unfold Small; decide, rfl, ?_, ?_⟩
  · intro i x hx
    match i, hx with
    | 0, hx => simp at hx; subst hx; exact ⟨_, _, rfl, by simp [go_sem], by simp [go_sem]⟩
  · intro i x s hx hs
    match i, hx, hs with
    | 0, hx, hs =>
      simp at hx hs; subst hx hs
      refine ⟨⟨_, 1, rfl, by unfold Small; decide, ?_, by simp [Small]⟩, ⟨none, 0, rfl, by unfold Small; decide, fun i x hx => by simp at hx, by simp⟩⟩
      intro i x hx
      match i, hx with
      | 0, hx => simp at hx; subst hx; exact ⟨_, _, rfl, by simp [go_sem, lbV, mkB], by simp [go_sem, lbV, mkB]⟩

theorem begun_write : (writeB [⟨[([97], [98])], []⟩]).2 = 0 ∧ (writeB [⟨[([97], [98])], []⟩]).1.length = 10 := by decide +kernel
/-- ReadNumber, by what is read. -/
theorem readNumber_is (s : ByteArray) (m k e : Nat) (w : World) (hs : s.size ≤ maxLen) (h : rd s.data.toList = (m, k, e)) :
    Calls Try.prog 16 #[.string s] w fun x w' => x = .returned (.tuple #[.int .u64 m, .int .i64 k, .int .i64 e]) ∧ w = w' :=
  (readNumber_any s w hs).mono fun x w' ⟨he, hw⟩ => ⟨by unfold rdEnd at he; rw [he, h], hw⟩
theorem numberAt_is (s : ByteArray) (m k e : Nat) (w : World) (hs : s.size ≤ maxLen) (h : rd s.data.toList = (m, k, e)) :
    Calls Try.prog 19 #[.string s] w fun x w' => x = .returned (.tuple #[.int .u64 m, .int .i64 k, .int .i64 e]) ∧ w = w' :=
  (numberAt_any s w hs).mono fun x w' ⟨he, hw⟩ => ⟨by unfold rdEnd at he; rw [he, h], hw⟩

theorem num300 : (num 300).length = 2 := by decide +kernel
set_option maxRecDepth 100000 in
set_option maxHeartbeats 1000000 in
theorem wireBegun_any (w : World) :
    Calls Try.prog 17 #[] w fun e w' => e = .returned (.bool true) ∧ Below w.heap.size w w' := by
  have hsz : (mkB (num 300)).size ≤ 2 := by rw [size_mkB, num300]; exact Nat.le_refl _
  have hrd : rd (mkB (num 300) ++ ⟨#[120]⟩).data.toList = (300, 2, 0) := by
    rw [bs_append, mkB_data, rd_num (by omega), num300]
  have HRD := Lib.hid hrd
  clear hrd
  have hml : (mkB (num 300) ++ ⟨#[120]⟩).size ≤ maxLen := by
    rw [ByteArray.size_append]; unfold maxLen; have : (ByteArray.mk #[120]).size = 1 := rfl; omega
  have HML := Lib.hid hml
  clear hml
  obtain ⟨g1, g2⟩ := begun_write
  go_enter Try.func17, Try.ntmps17
  go_wp2_with fail
  refine (number_any 300 ⟨by omega, by omega⟩ _).mono ?_
  rintro e w1 ⟨rfl, hb1⟩
  go_wp2_with fail
  refine (readNumber_is _ 300 2 0 _ HML.out HRD.out).mono ?_
  rintro e w' ⟨rfl, rfl⟩
  go_wp2_with fail
  refine (write_any _ _ _ (begun_series w1)).mono ?_
  rintro e w2 ⟨rfl, hb2⟩
  rw [g1]
  have hsz2 : (mkB (writeB [⟨[([97], [98])], []⟩]).1).size = 10 := by rw [size_mkB, g2]
  generalize mkB (writeB [⟨[([97], [98])], []⟩]).1 = s2 at *
  go_wp2_with fail
  go_ret
  exact ⟨rfl, by ((repeat' (first | exact Below.refl _ _ | refine Below.drew ?_ | refine Below.alloc ?_ ?_ _ | refine Below.trans ?_ (hb1.mono ?_) | refine Below.trans ?_ (hb2.mono ?_))) <;> (first | omega | (simp; omega) | (have q0 := hb1.size; have q1 := hb2.size; first | omega | (simp at q0 q1 ⊢; omega) | (simp at q0 q1; omega) | (simp; omega))))⟩

set_option maxRecDepth 100000 in
set_option maxHeartbeats 1000000 in
theorem wireReadNumbers_walk (s : ByteArray) (w : World) (hs : s.size ≤ maxLen) :
    Calls Try.prog 4 #[.string s] w fun e w' => e = .returned (.bool true) ∧ Below w.heap.size w w' := by
  obtain ⟨m, k, e0, h⟩ : ∃ m k e, rd s.data.toList = (m, k, e) := ⟨_, _, _, rfl⟩
  have H := Lib.hid h
  clear h
  go_enter Try.func4, Try.ntmps4
  go_wp2_with fail
  refine (readNumber_is _ m k e0 _ hs H.out).mono ?_
  rintro e w' ⟨rfl, rfl⟩
  go_wp2_with fail
  refine (numberAt_is _ m k e0 _ hs H.out).mono ?_
  rintro e w' ⟨rfl, rfl⟩
  go_wp2_with fail
  refine (wireBegun_any _).mono ?_
  rintro e w1 ⟨rfl, hb1⟩
  go_wp2_with fail
  go_ret
  exact ⟨rfl, by ((repeat' (first | exact Below.refl _ _ | refine Below.drew ?_ | refine Below.alloc ?_ ?_ _ | refine Below.trans ?_ (hb1.mono ?_))) <;> (first | omega | (simp; omega) | (have q0 := hb1.size; first | omega | (simp at q0 ⊢; omega) | (simp at q0; omega) | (simp; omega))))⟩

set_option maxRecDepth 100000 in
set_option maxHeartbeats 1000000 in
theorem wireNumbers_walk (n : Int) (hn : U64 n) (t : ByteArray) (w : World) (ht : Small t.size) :
    Calls Try.prog 3 #[.int .u64 n, .string t] w fun e w' => e = .returned (.bool true) ∧ Below w.heap.size w w' := by
  obtain ⟨m, rfl⟩ := Int.eq_ofNat_of_zero_le hn.1
  have hm : m < 18446744073709551616 := by have := hn.2; omega
  have hrd : rd (mkB (num m) ++ t).data.toList = (m, (num m).length, 0) := by
    rw [bs_append, mkB_data, rd_num hm]
  have hsz : (mkB (num m)).size ≤ 10 := by rw [size_mkB]; exact num_len10 hm
  have ht' := ht.le
  have hml : (mkB (num m) ++ t).size ≤ maxLen := by
    rw [ByteArray.size_append]; unfold maxLen; omega
  have HML := Lib.hid hml
  have HRD := Lib.hid hrd
  have HN := Lib.hid hn
  have hl : (mkB (num m)).size = (num m).length := size_mkB _
  clear hrd hml hn hm
  go_enter Try.func3, Try.ntmps3
  go_wp2_with fail
  refine (number_any m HN.out _).mono ?_
  rintro e w1 ⟨rfl, hb1⟩
  go_wp2_with fail
  refine (readNumber_is _ m (num m).length 0 _ HML.out HRD.out).mono ?_
  rintro e w' ⟨rfl, rfl⟩
  go_wp2_with fail
  refine (wireBegun_any _).mono ?_
  rintro e w2 ⟨rfl, hb2⟩
  go_wp2_with fail
  refine (numberOf_any m HN.out _).mono ?_
  rintro e w3 ⟨rfl, hb3⟩
  go_wp2_with fail
  go_ret
  exact ⟨rfl, by ((repeat' (first | exact Below.refl _ _ | refine Below.drew ?_ | refine Below.alloc ?_ ?_ _ | refine Below.trans ?_ (hb1.mono ?_) | refine Below.trans ?_ (hb2.mono ?_) | refine Below.trans ?_ (hb3.mono ?_))) <;> (first | omega | (simp; omega) | (have q0 := hb1.size; have q1 := hb2.size; have q2 := hb3.size; first | omega | (simp at q0 q1 q2 ⊢; omega) | (simp at q0 q1 q2; omega) | (simp; omega))))⟩

set_option maxRecDepth 100000 in
set_option maxHeartbeats 1000000 in
theorem wireWrites_walk (v : Value) (l : List Sr) (w : World) (hv : SeriesAt w v l) :
    Calls Try.prog 5 #[v] w fun e w' => e = .returned (.bool true) ∧ Below w.heap.size w w' := by
  have HV := Lib.hid hv
  clear hv
  by_cases h0 : (writeB l).2 = 0
  · obtain ⟨s, hs⟩ : ∃ s, mkB (writeB l).1 = s := ⟨_, rfl⟩
    have H1 := write_any v l
    have H2 := writeOf_any v l
    rw [h0, hs] at H1 H2
    have G1 := Lib.hid H1
    have G2 := Lib.hid H2
    clear H1 H2 h0 hs
    go_enter Try.func5, Try.ntmps5
    go_wp2_with fail
    refine (G1.out _ HV.out).mono ?_
    rintro e w1 ⟨rfl, hb1⟩
    go_wp2_with fail
    refine (G2.out _ (HV.out.keeps (Keeps.of_below hb1 (Nat.le_refl _)))).mono ?_
    rintro e w2 ⟨rfl, hb2⟩
    go_wp2_with fail
    refine (wireBegun_any _).mono ?_
    rintro e w3 ⟨rfl, hb3⟩
    go_wp2_with fail
    refine (textIs_ok s _).mono ?_
    rintro e w' ⟨rfl, rfl⟩
    go_wp2_with fail
    go_ret
    exact ⟨rfl, by ((repeat' (first | exact Below.refl _ _ | refine Below.drew ?_ | refine Below.alloc ?_ ?_ _ | refine Below.trans ?_ (hb1.mono ?_) | refine Below.trans ?_ (hb2.mono ?_) | refine Below.trans ?_ (hb3.mono ?_))) <;> (first | omega | (simp; omega) | (have q0 := hb1.size; have q1 := hb2.size; have q2 := hb3.size; first | omega | (simp at q0 q1 q2 ⊢; omega) | (simp at q0 q1 q2; omega) | (simp; omega))))⟩
  · have hs : (writeB l).1 = [] := by
      unfold writeB at h0 ⊢
      split
      · rfl
      · rename_i h1
        rw [if_neg h1] at h0
        split at h0
        · rename_i h2; rw [if_pos h2]
        · exact absurd rfl h0
    obtain ⟨n, hn⟩ : ∃ n, (writeB l).2 = n := ⟨_, rfl⟩
    have H1 := write_any v l
    have H2 := writeOf_any v l
    rw [hs, hn] at H1 H2
    have G1 := Lib.hid H1
    have G2 := Lib.hid H2
    have hn0 : (n : Int) ≠ 0 := by omega
    have HN := Lib.hid hn0
    clear H1 H2 h0 hs hn hn0
    go_enter Try.func5, Try.ntmps5
    go_wp2_with fail
    refine (G1.out _ HV.out).mono ?_
    rintro e w1 ⟨rfl, hb1⟩
    go_wp2_with fail
    refine (G2.out _ (HV.out.keeps (Keeps.of_below hb1 (Nat.le_refl _)))).mono ?_
    rintro e w2 ⟨rfl, hb2⟩
    go_wp2_with fail
    refine (wireBegun_any _).mono ?_
    rintro e w3 ⟨rfl, hb3⟩
    go_wp2_with fail
    refine (textIs_err n _ _ HN.out).mono ?_
    rintro e w' ⟨rfl, rfl⟩
    go_wp2_with fail
    go_ret
    exact ⟨rfl, by ((repeat' (first | exact Below.refl _ _ | refine Below.drew ?_ | refine Below.alloc ?_ ?_ _ | refine Below.trans ?_ (hb1.mono ?_) | refine Below.trans ?_ (hb2.mono ?_) | refine Below.trans ?_ (hb3.mono ?_))) <;> (first | omega | (simp; omega) | (have q0 := hb1.size; have q1 := hb2.size; have q2 := hb3.size; first | omega | (simp at q0 q1 q2 ⊢; omega) | (simp at q0 q1 q2; omega) | (simp; omega))))⟩
end Go.Proofs.Ytophpbihcfdkcaa
