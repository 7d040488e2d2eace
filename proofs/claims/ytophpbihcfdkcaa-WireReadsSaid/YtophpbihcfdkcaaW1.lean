/- The walks of the wire's parts: field, sample, and the reference's fieldOf, Word, Unsigned. -/
import Derived.Test.YtophpbihcfdkcaaC2
import Derived.Deep.RegionHeld3
import Derived.Deep.RegionWith
namespace Go.Proofs.Ytophpbihcfdkcaa
open Go.RowKit P
namespace P
def fieldB (k : Nat) (s : List UInt8) : List UInt8 := num (8 * k + 2) ++ num s.length ++ s
def wordF : Nat → Nat → List UInt8
  | 0, _ => []
  | k + 1, n => bt (n % 256) :: wordF k (n / 256)
def wordB (n : Nat) : List UInt8 := wordF 8 n
def uns (t : Int) : Nat := (t % 18446744073709551616).toNat
def sampleB (x : Sm) : List UInt8 := [9] ++ wordB x.2.toNat ++ num 16 ++ num (uns x.1)
theorem wordF_len : ∀ k n, (wordF k n).length = k
  | 0, _ => rfl
  | k + 1, n => by simp [wordF, wordF_len k]
theorem wordF_snoc : ∀ k n, wordF (k + 1) n = wordF k n ++ [bt (n / 256 ^ k % 256)]
  | 0, n => by simp [wordF]
  | k + 1, n => by
    have h := wordF_snoc k (n / 256)
    rw [show wordF (k + 1 + 1) n = bt (n % 256) :: wordF (k + 1) (n / 256) from rfl, h]
    simp only [wordF, List.cons_append]
    rw [Nat.div_div_eq_div_mul, Nat.pow_succ, Nat.mul_comm 256]
theorem fieldB_len (k : Nat) (hk : k ≤ 15) (s : List UInt8) (hs : s.length < 18446744073709551616) : (fieldB k s).length ≤ s.length + 12 := by
  have h1 := num_len 2 (8 * k + 2) (by omega) (by omega) (by simp; omega) (by omega)
  have h2 := num_len10 hs
  simp only [fieldB, List.length_append]; omega
theorem sampleB_len (x : Sm) : (sampleB x).length ≤ 20 := by
  have h2 := num_len10 (n := uns x.1) (by unfold uns; omega)
  simp only [sampleB, List.length_append, wordB, wordF_len]
  rw [num_small (n := 16) (by omega)]; simp; omega
end P

set_option maxRecDepth 100000 in
set_option maxHeartbeats 1000000 in
theorem field_any (k : Int) (s : List UInt8) (w : World) (hk : k = 1 ∨ k = 2) (hs : Small s.length) :
    Calls Try.prog 32 #[.int .i64 k, .string (mkB s)] w fun e w' => e = .returned (.string (mkB (fieldB k.toNat s))) ∧ Below w.heap.size w w' := by
  have hs' := hs.le
  have hz : (mkB s).size ≤ 140737488351232 := by rw [size_mkB]; exact hs'
  have hN : ∀ n, n < 18446744073709551616 → (mkB (num n)).size ≤ 10 := fun n h => by rw [size_mkB]; exact num_len10 h
  have h10 := hN 10 (by omega)
  have h18 := hN 18 (by omega)
  have hl := hN (mkB s).size (by omega)
  have hF : mkB (fieldB k.toNat s) = mkB (num (8 * k.toNat + 2)) ++ mkB (num (mkB s).size) ++ mkB s := by
    rw [size_mkB, fieldB, mkB_append, mkB_append]
  have HF := Lib.hid hF
  clear hN hF
  have b8 : bits BinOp.or IntKind.u64 8 2 = 10 := by decide
  have b16 : bits BinOp.or IntKind.u64 16 2 = 18 := by decide
  rcases hk with rfl | rfl
  all_goals
    go_enter Try.func32, Try.ntmps32
    go_wp2_with fail
    refine (number_any _ ⟨by omega, by omega⟩ _).mono ?_
    rintro e w1 ⟨rfl, hb1⟩
    go_wp2_with fail
    refine (number_any _ ⟨by omega, by omega⟩ _).mono ?_
    rintro e w2 ⟨rfl, hb2⟩
    go_wp2_with fail
    go_ret
    exact ⟨by rw [HF.out]; rfl, hb1.trans (hb2.mono hb1.size)⟩

theorem unsigned_any (t : Int) (w : World) (ht : I64 t) :
    Calls Try.prog 37 #[.int .i64 t] w fun e w' => e = .returned (.int .u64 (uns t)) ∧ w = w' := by
  obtain ⟨h1, h2⟩ := ht
  have hu : (uns t : Int) = t % 18446744073709551616 := by unfold uns; omega
  have HU := Lib.hid hu
  clear hu
  by_cases h0 : 0 ≤ t
  · go_enter Try.func37, Try.ntmps37
    go_wp2
    go_ret
    exact ⟨ret_int' (by rw [HU.out]; omega), rfl⟩
  · go_enter Try.func37, Try.ntmps37
    go_wp2
    go_ret
    exact ⟨ret_int' (by rw [HU.out]; omega), rfl⟩

set_option maxRecDepth 100000 in
set_option maxHeartbeats 1000000 in
theorem word_any (n : Int) (hn : U64 n) (w : World) :
    Calls Try.prog 36 #[.int .u64 n] w fun e w' => e = .returned (.string (mkB (wordB n.toNat))) ∧ Below w.heap.size w w' := by
  have HU := Lib.hid hn
  obtain ⟨i0, hi, hz0, hz1, hz2⟩ := info_parts Try.infoB
  obtain ⟨B, hB⟩ : ∃ B, B = w.heap.size := ⟨_, rfl⟩
  have hBw : B ≤ w.heap.size := by omega
  rw [← hB]; clear hB hn
  go_enter Try.func36, Try.ntmps36
  go_wp2
  go_loopw [0, 3, 4] (fun m b i wr => ∃ (q : Int) (k : Nat), k ≤ 8 ∧ i = .int .i64 k ∧ m = .int .u64 q ∧ Hid (U64 q) ∧ Hid (q.toNat = n.toNat / 256 ^ k) ∧ wr.ownsRow B 5 1 b (wordF k n.toNat).length (Lib.byteCells (wordF k n.toNat)) ∧ Below B w wr) (fun _ _ i _ => 8 - (intOf i).toNat)
  case atStart => exact ⟨n, 0, by omega, rfl, rfl, HU, by simp [Hid], World.ownsRow_nil _ _ _ _, Below.refl _ _⟩
  case round =>
    obtain ⟨q, k, hk, rfl, rfl, hq, hqn, hown, hbel⟩ := hrel
    have hl : (wordF k n.toNat).length ≤ k := by rw [wordF_len]; exact Nat.le_refl _
    have h0 : 0 ≤ q := hq.out.1
    have hBr : B ≤ wr.heap.size := by have := hbel.size; omega
    by_cases hlt : k < 8
    · go_wp2_with (at_builtin; refine wpList_append_own _ rfl _ _ 39 rfl B 5 i0 (.int .u8 0) 1 1 Try.underlying39 hi hz0 hz1 hz2 rfl (by decide) _ _ _ rfl (hown.alloc _) ⟨wr.heap.size, 0, none⟩ 1 1 [.int .u8 (q % 256)] rfl rfl (cell_one_new _ _ _) (one_cell _) (by unfold maxLen; omega) (by omega) (by simp; omega) ?_)
      intro v' w1 hown' hgrow _
      have hown2 := own_snoc (c := bt (n.toNat / 256 ^ k % 256)) hown' (by rw [bt_toNat (by omega), ← hqn.out]; omega)
      rw [← wordF_snoc] at hown2
      have hbel2 : Below B w w1 := (hbel.alloc hBr _).grown hgrow (by simp; omega) (fun j hj => (hown.lt j hj).1)
      clear hown' hgrow hown
      go_wp2
      go_roundw
      case rel =>
        have hU := hq.out
        refine ⟨q / 256, k + 1, by omega, by go_num, ?_, ?_, ?_, hown2, hbel2⟩
        · rw [u64_quo q 256 h0 hU.2 (by omega)]
        · exact ⟨by have := hU.1; omega, by have := hU.2; omega⟩
        · show _ = _
          rw [Nat.pow_succ, ← Nat.div_div_eq_div_mul, ← hqn.out]; omega
      case measure => simp [intOf]; omega
    · have hk8 : k = 8 := by omega
      subst hk8
      have kc := conv_own (Pr := Try.prog) (dst := 9) hown Try.underlying39 Try.underlying5 Try.underlying9
      go_wp2
      go_ret
      exact ⟨rfl, hbel⟩

set_option maxRecDepth 100000 in
set_option maxHeartbeats 1000000 in
theorem fieldOf_any (k : Int) (s : List UInt8) (w : World) (hk : k = 1 ∨ k = 2) (hs : Small s.length) :
    Calls Try.prog 35 #[.int .i64 k, .string (mkB s)] w fun e w' => e = .returned (.string (mkB (fieldB k.toNat s))) ∧ Below w.heap.size w w' := by
  have hs' := hs.le
  have hz : (mkB s).size ≤ 140737488351232 := by rw [size_mkB]; exact hs'
  have hN : ∀ n, n < 18446744073709551616 → (mkB (num n)).size ≤ 10 := fun n h => by rw [size_mkB]; exact num_len10 h
  have h10 := hN 10 (by omega)
  have h18 := hN 18 (by omega)
  have hl := hN (mkB s).size (by omega)
  have hF : mkB (fieldB k.toNat s) = mkB (num (8 * k.toNat + 2)) ++ mkB (num (mkB s).size) ++ mkB s := by
    rw [size_mkB, fieldB, mkB_append, mkB_append]
  have HF := Lib.hid hF
  clear hN hF
  obtain ⟨B, hB⟩ : ∃ B, B = w.heap.size := ⟨_, rfl⟩
  rw [← hB]
  have hBw : B ≤ w.heap.size := by omega
  clear hB
  rcases hk with rfl | rfl
  · have kc : ∀ (W : World) (b : Nat), W.cell? ⟨b, 0, none⟩ = some (.int .u8 10) → (convert 39 9 (.slice (some ⟨b, 0, none⟩) 1 1)).run Try.prog W = .ok (.string (mkB (num 10))) W := by
      intro W b h
      rw [num_small (by omega)]
      exact conv_one (c := 10) (by omega) h Try.underlying39 Try.underlying5 Try.underlying9
    have e1 : IntKind.i64.wrap 8 = 8 := by decide
    have e2 : IntKind.i64.wrap 10 = 10 := by decide
    have e3 : IntKind.u8.wrap 10 = 10 := by decide
    have hw := wraps_u64 (↑(mkB s).size) (by omega) (by omega)
    go_enter Try.func35, Try.ntmps35
    go_wp2_with fail
    go_region_with (go_at_call 18; refine (numberOf_any _ ⟨by omega, by omega⟩ _).mono ?_; rintro e w1 ⟨rfl, hb1⟩; obtain ⟨hc1, hf1⟩ := bcell hb1; have hz1 := hb1.size; simp at hz1)
    all_goals
      go_wp2_with fail
      go_ret
      refine ⟨by rw [HF.out]; rfl, ?_⟩
      ((repeat' (first | exact Below.refl _ _ | refine Below.drew ?_ | refine Below.alloc ?_ ?_ _ | refine Below.trans ?_ (hb1.mono ?_))) <;> (first | omega | (simp; omega) | (have q0 := hb1.size; first | omega | (simp at q0 ⊢; omega) | (simp at q0; omega) | (simp; omega))))
  · have kc : ∀ (W : World) (b : Nat), W.cell? ⟨b, 0, none⟩ = some (.int .u8 18) → (convert 39 9 (.slice (some ⟨b, 0, none⟩) 1 1)).run Try.prog W = .ok (.string (mkB (num 18))) W := by
      intro W b h
      rw [num_small (by omega)]
      exact conv_one (c := 18) (by omega) h Try.underlying39 Try.underlying5 Try.underlying9
    have e1 : IntKind.i64.wrap 16 = 16 := by decide
    have e2 : IntKind.i64.wrap 18 = 18 := by decide
    have e3 : IntKind.u8.wrap 18 = 18 := by decide
    have hw := wraps_u64 (↑(mkB s).size) (by omega) (by omega)
    go_enter Try.func35, Try.ntmps35
    go_wp2_with fail
    go_region_with (go_at_call 18; refine (numberOf_any _ ⟨by omega, by omega⟩ _).mono ?_; rintro e w1 ⟨rfl, hb1⟩; obtain ⟨hc1, hf1⟩ := bcell hb1; have hz1 := hb1.size; simp at hz1)
    all_goals
      go_wp2_with fail
      go_ret
      refine ⟨by rw [HF.out]; rfl, ?_⟩
      ((repeat' (first | exact Below.refl _ _ | refine Below.drew ?_ | refine Below.alloc ?_ ?_ _ | refine Below.trans ?_ (hb1.mono ?_))) <;> (first | omega | (simp; omega) | (have q0 := hb1.size; first | omega | (simp at q0 ⊢; omega) | (simp at q0; omega) | (simp; omega))))

end Go.Proofs.Ytophpbihcfdkcaa
