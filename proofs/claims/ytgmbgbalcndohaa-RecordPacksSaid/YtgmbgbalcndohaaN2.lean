-- slim: written by gen/slim.py from XN2.lean.tpl
/- The walks of the reference's NumberOf, NumberAt. -/
import Derived.Test.YtgmbgbalcndohaaN
import Derived.BigQuiet
import Derived.Deep.QuietTactic
namespace Go.Proofs.Ytgmbgbalcndohaa
open Go.RowKit P

theorem u64_quo (k d : Int) (h0 : 0 ≤ k) (h1 : k < 18446744073709551616) (hd : 1 ≤ d) : IntKind.u64.wrap (k.tdiv d) = k / d := by
  rw [Int.tdiv_eq_ediv_of_nonneg h0]
  have : k / d ≤ k := Int.ediv_le_self _ h0
  have : 0 ≤ k / d := Int.ediv_nonneg h0 (by omega)
  exact wraps_u64 _ (by omega) (by omega)
theorem mkB_add (a b : List UInt8) : mkB a ++ mkB b = mkB (a ++ b) := (mkB_append a b).symm

set_option maxRecDepth 100000 in
set_option maxHeartbeats 400000 in
theorem numberOf_any (n : Int) (hn : U64 n) (w : World) :
    Calls Try.prog 34 #[.int .u64 n] w fun e w' => e = .returned (.string (mkB (num n.toNat))) ∧ Below w.heap.size w w' := by
  have HU := Lib.hid hn
  obtain ⟨B, hB⟩ : ∃ B, B = w.heap.size := ⟨_, rfl⟩
  have hBw : B ≤ w.heap.size := by omega
  rw [← hB]; clear hB hn
  go_enter Try.func34, Try.ntmps34
  go_wp2
  go_loopw [0, 3] (fun m b wr => ∃ (k : Int) (pre : List UInt8), m = .int .u64 k ∧ Hid (U64 k) ∧ b = .string (mkB pre) ∧ Hid (num n.toNat = pre ++ num k.toNat) ∧ Below B w wr) (fun m _ _ => (intOf m).toNat)
  case atStart => exact ⟨n, [], rfl, HU, rfl, rfl, Below.refl _ _⟩
  case round =>
    obtain ⟨k, pre, rfl, hk, rfl, hnum, hbel⟩ := hrel
    have h0 : 0 ≤ k := hk.out.1
    have hpl : pre.length ≤ 9 := by
      have h1 := congrArg List.length hnum.out
      have h2 := num_len10 (n := n.toNat) (by have := HU.out.2; have := HU.out.1; omega)
      have h3 : 0 < (num k.toNat).length := List.length_pos_iff.2 (num_ne _)
      rw [List.length_append] at h1; omega
    have hsz : (mkB pre).size ≤ 9 := by rw [size_mkB]; exact hpl
    have hBr : B ≤ wr.heap.size := by have := hbel.size; omega
    by_cases hbig : 128 ≤ k
    · have kc := conv_one (Pr := Try.prog) (w := wr.alloc (.cells #[.int .u8 (k % 128 + 128)] 5)) (src := 39) (dst := 9) (b := wr.heap.size) (cap := 1) (c := k.toNat % 128 + 128) (by omega) (by simp [go_sem]; omega) Try.underlying39 Try.underlying5 Try.underlying9
      have hs1 : (mkB [bt (k.toNat % 128 + 128)]).size ≤ 1 := by rw [size_mkB]; simp
      go_wp2
      go_roundw
      case rel =>
        have hU := hk.out
        refine ⟨k / 128, pre ++ [bt (k.toNat % 128 + 128)], ?_, ?_, ?_, ?_, hbel.alloc hBr _⟩
        · rw [u64_quo k 128 h0 hU.2 (by omega)]
        · exact ⟨by have := hU.1; omega, by have := hU.2; omega⟩
        · rw [mkB_add]
        · show _ = _
          rw [hnum.out, num_big (by omega) (by have := hU.2; omega), List.append_assoc]
          rw [show (k / 128).toNat = k.toNat / 128 by omega]; rfl
      case measure =>
        have hU := hk.out
        rw [u64_quo k 128 h0 hU.2 (by omega)]
        simp [intOf]; omega
    · have hle : k ≤ 127 := by omega
      have kc := conv_one (Pr := Try.prog) (w := wr.alloc (.cells #[.int .u8 k] 5)) (src := 39) (dst := 9) (b := wr.heap.size) (cap := 1) (c := k.toNat) (by omega) (by simp [go_sem]; omega) Try.underlying39 Try.underlying5 Try.underlying9
      have hs1 : (mkB [bt k.toNat]).size ≤ 1 := by rw [size_mkB]; simp
      go_wp2
      go_ret
      refine ⟨ret_str ?_, hbel.alloc hBr _⟩
      rw [hnum.out, num_small (by omega), mkB_add]

end Go.Proofs.Ytgmbgbalcndohaa
