/- The walks of the reference's NumberOf, NumberAt. -/
import Derived.Test.YtgmbgbalcndohaaN
import Derived.BigQuiet
import Derived.Deep.QuietTactic
namespace Go.Proofs.Ytgmbgbalcndohaa
open Go.RowKit P

theorem u64_quo (k d : Int) (h0 : 0 ≤ k) (h1 : k < 18446744073709551616) (hd : 1 ≤ d) : IntKind.u64.wrap (k.tdiv d) = k / d := by
  rw [Int.tdiv_eq_ediv_of_nonneg h0]
  have : k / d ≤ k := Int.ediv_le_self _ h0
  have : 0 ≤ k / d := Int.ediv_nonneg h0 (by omega)
  exact wraps_u64 _ (by omega) (by omega)
theorem mkB_add (a b : List UInt8) : mkB a ++ mkB b = mkB (a ++ b) := (mkB_append a b).symm

set_option maxRecDepth 100000 in
set_option maxHeartbeats 400000 in
theorem numberOf_any (n : Int) (hn : U64 n) (w : World) :
    Calls Try.prog 34 #[.int .u64 n] w fun e w' => e = .returned (.string (mkB (num n.toNat))) ∧ Below w.heap.size w w' := by
  have HU := Lib.hid hn
  obtain ⟨B, hB⟩ : ∃ B, B = w.heap.size := ⟨_, rfl⟩
  have hBw : B ≤ w.heap.size := by omega
  rw [← hB]; clear hB hn
  go_enter Try.func34, Try.ntmps34
  go_wp2
  go_loopw [0, 3] (fun m b wr => ∃ (k : Int) (pre : List UInt8), m = .int .u64 k ∧ Hid (U64 k) ∧ b = .string (mkB pre) ∧ Hid (num n.toNat = pre ++ num k.toNat) ∧ Below B w wr) (fun m _ _ => (intOf m).toNat)
  case atStart => exact ⟨n, [], rfl, HU, rfl, rfl, Below.refl _ _⟩
  case round =>
    obtain ⟨k, pre, rfl, hk, rfl, hnum, hbel⟩ := hrel
    have h0 : 0 ≤ k := hk.out.1
    have hpl : pre.length ≤ 9 := by
      have h1 := congrArg List.length hnum.out
      have h2 := num_len10 (n := n.toNat) (by have := HU.out.2; have := HU.out.1; omega)
      have h3 : 0 < (num k.toNat).length := List.length_pos_iff.2 (num_ne _)
      rw [List.length_append] at h1; omega
    have hsz : (mkB pre).size ≤ 9 := by rw [size_mkB]; exact hpl
    have hBr : B ≤ wr.heap.size := by have := hbel.size; omega
    by_cases hbig : 128 ≤ k
    · have kc := conv_one (Pr := Try.prog) (w := wr.alloc (.cells #[.int .u8 (k % 128 + 128)] 5)) (src := 39) (dst := 9) (b := wr.heap.size) (cap := 1) (c := k.toNat % 128 + 128) (by omega) (by simp [go_sem]; omega) Try.underlying39 Try.underlying5 Try.underlying9
      have hs1 : (mkB [bt (k.toNat % 128 + 128)]).size ≤ 1 := by rw [size_mkB]; simp
      go_wp2
      go_roundw
      case rel =>
        have hU := hk.out
        refine ⟨k / 128, pre ++ [bt (k.toNat % 128 + 128)], ?_, ?_, ?_, ?_, hbel.alloc hBr _⟩
        · rw [u64_quo k 128 h0 hU.2 (by omega)]
        · exact ⟨by have := hU.1; omega, by have := hU.2; omega⟩
        · rw [mkB_add]
        · show _ = _
          rw [hnum.out, num_big (by omega) (by have := hU.2; omega), List.append_assoc]
          rw [show (k / 128).toNat = k.toNat / 128 by omega]; rfl
      case measure =>
        have hU := hk.out
        rw [u64_quo k 128 h0 hU.2 (by omega)]
        simp [intOf]; omega
    · have hle : k ≤ 127 := by omega
      have kc := conv_one (Pr := Try.prog) (w := wr.alloc (.cells #[.int .u8 k] 5)) (src := 39) (dst := 9) (b := wr.heap.size) (cap := 1) (c := k.toNat) (by omega) (by simp [go_sem]; omega) Try.underlying39 Try.underlying5 Try.underlying9
      have hs1 : (mkB [bt k.toNat]).size ≤ 1 := by rw [size_mkB]; simp
      go_wp2
      go_ret
      refine ⟨ret_str ?_, hbel.alloc hBr _⟩
      rw [hnum.out, num_small (by omega), mkB_add]

set_option maxRecDepth 100000 in
set_option maxHeartbeats 400000 in
theorem numberAt_any (s : ByteArray) (w : World) (hs : s.size ≤ maxLen) :
    Calls Try.prog 42 #[.string s] w fun e w' => rdEnd s.data.toList e ∧ w = w' := by
  unfold maxLen at hs
  go_enter Try.func42, Try.ntmps42
  go_wp2
  go_loop [5] (fun i => ∃ k : Nat, k ≤ s.size ∧ i = .int .i64 k ∧ k ≤ 9 ∧ Hid (∀ j (h : j < s.data.toList.length), j < k → 128 ≤ s.data.toList[j].toNat)) (fun i => s.size - (intOf i).toNat)
  case atStart => exact ⟨0, by omega, rfl, by omega, fun j _ h => by omega⟩
  case round =>
    obtain ⟨k, hk, rfl, hk9, hall⟩ := hrel
    by_cases hlt : k < s.size
    · have hl : k < s.data.toList.length := by rw [size_bs]; exact hlt
      have hc := s[k].toNat_lt
      have HG : Hid (s.data.toList[k] = s[k]) := getB s k hlt
      by_cases hm : 128 ≤ s[k].toNat
      · have hm2 : (128 : Int) ≤ (s[k].toNat : Int) := by omega
        by_cases h9 : k < 9
        · go_wp2
          go_round
          case rel =>
            refine ⟨k + 1, by omega, by go_num, by omega, ?_⟩
            intro j hj hjk
            by_cases e : j = k
            · subst e; rw [HG.out]; omega
            · exact hall.out j hj (by omega)
          case measure => simp [intOf]; omega
        · have h9' : k = 9 := by omega
          subst h9'
          have hov2 : (1 : Int) < (s[9].toNat : Int) := by omega
          have hne : ((9 : Int) == (s.size : Int)) = false := by simp; omega
          go_wp2
          go_ret3
          exact ⟨rdEnd_mk (rd_over _ hl hall.out (by rw [HG.out]; omega)) rfl rfl rfl, rfl⟩
      · have hm2 : (s[k].toNat : Int) < 128 := by omega
        by_cases hov : k = 9 ∧ 1 < s[k].toNat
        · obtain ⟨rfl, hov⟩ := hov
          have hov2 : (1 : Int) < (s[9].toNat : Int) := by omega
          have hne : ((9 : Int) == (s.size : Int)) = false := by simp; omega
          go_wp2
          go_ret3
          exact ⟨rdEnd_mk (rd_over _ hl hall.out (by rw [HG.out]; omega)) rfl rfl rfl, rfl⟩
        · have hne : ((k : Int) == (s.size : Int)) = false := by simp; omega
          have h9g : k = 9 → s.data.toList[k].toNat ≤ 1 := fun e => by rw [HG.out]; omega
          have HT : Hid _ := Lib.hid (hv_top _ k hk9 hl (by rw [HG.out]; omega) h9g)
          have HR : Hid _ := Lib.hid (rd_ok _ k hk9 hl hall.out (by rw [HG.out]; omega) h9g)
          clear h9g
          by_cases h9 : k = 9
          · subst h9
            have h1 : (s[9].toNat : Int) ≤ 1 := by omega
            go_wp2
            go_loop [6, 7] (fun n i => ∃ (j : Int) (x : Nat), -1 ≤ j ∧ j ≤ 9 ∧ i = .int .i64 j ∧ n = .int .u64 x ∧ Hid (x = hv ((s.data.toList.take (9 + 1)).drop (j + 1).toNat))) (fun _ i => (intOf i + 1).toNat)
            case atStart => exact ⟨9, 0, by omega, by omega, rfl, rfl, by show _ = _; rw [List.drop_of_length_le (by rw [List.length_take]; omega)]; rfl⟩
            case round =>
              obtain ⟨j, x, hj1, hj2, rfl, rfl, hx⟩ := hrel
              by_cases hj : 0 ≤ j
              · obtain ⟨q, rfl⟩ := Int.eq_ofNat_of_zero_le hj
                have hq : q ≤ 9 := by omega
                have hqs : q < s.size := by omega
                have hql : q < s.data.toList.length := by rw [size_bs]; exact hqs
                have hc2 := s[q].toNat_lt
                have HG2 : Hid (s.data.toList[q] = s[q]) := getB s q hqs
                have HN : Hid (hv ((s.data.toList.take (9 + 1)).drop q) = s[q].toNat % 128 + 128 * x) := by
                  have hl2 : q < (s.data.toList.take (9 + 1)).length := by rw [List.length_take]; omega
                  show _ = _
                  rw [List.drop_eq_getElem_cons hl2]
                  simp only [hv, List.getElem_take]
                  rw [HG2.out, hx.out]; try rfl
                have hb := hv_suffix (s.data.toList.take (9 + 1)) q
                rw [HN.out] at hb
                have HB : s[q].toNat % 128 + 128 * x < 18446744073709551616 := by have := HT.out; omega
                clear hb
                go_wp2
                go_round
                case rel =>
                  refine ⟨(q : Int) - 1, x * 128 + s[q].toNat % 128, by omega, by omega, rfl, by go_num, ?_⟩
                  show _ = _
                  rw [show ((q : Int) - 1 + 1).toNat = q by omega, HN.out]; omega
                case measure => simp [intOf]
              · have hjm : j = -1 := by omega
                subst hjm
                go_wp2
                go_ret3
                refine ⟨rdEnd_mk HR.out ?_ (by simp) rfl, rfl⟩
                rw [hx.out]; simp
          · have h9b : ((k : Int) == 9) = false := by simp; omega
            go_wp2
            go_loop [6, 7] (fun n i => ∃ (j : Int) (x : Nat), -1 ≤ j ∧ j ≤ k ∧ i = .int .i64 j ∧ n = .int .u64 x ∧ Hid (x = hv ((s.data.toList.take (k + 1)).drop (j + 1).toNat))) (fun _ i => (intOf i + 1).toNat)
            case atStart => exact ⟨k, 0, by omega, by omega, rfl, rfl, by show _ = _; rw [List.drop_of_length_le (by rw [List.length_take]; omega)]; rfl⟩
            case round =>
              obtain ⟨j, x, hj1, hj2, rfl, rfl, hx⟩ := hrel
              by_cases hj : 0 ≤ j
              · obtain ⟨q, rfl⟩ := Int.eq_ofNat_of_zero_le hj
                have hq : q ≤ k := by omega
                have hqs : q < s.size := by omega
                have hql : q < s.data.toList.length := by rw [size_bs]; exact hqs
                have hc2 := s[q].toNat_lt
                have HG2 : Hid (s.data.toList[q] = s[q]) := getB s q hqs
                have HN : Hid (hv ((s.data.toList.take (k + 1)).drop q) = s[q].toNat % 128 + 128 * x) := by
                  have hl2 : q < (s.data.toList.take (k + 1)).length := by rw [List.length_take]; omega
                  show _ = _
                  rw [List.drop_eq_getElem_cons hl2]
                  simp only [hv, List.getElem_take]
                  rw [HG2.out, hx.out]; try rfl
                have hb := hv_suffix (s.data.toList.take (k + 1)) q
                rw [HN.out] at hb
                have HB : s[q].toNat % 128 + 128 * x < 18446744073709551616 := by have := HT.out; omega
                clear hb
                go_wp2
                go_round
                case rel =>
                  refine ⟨(q : Int) - 1, x * 128 + s[q].toNat % 128, by omega, by omega, rfl, by go_num, ?_⟩
                  show _ = _
                  rw [show ((q : Int) - 1 + 1).toNat = q by omega, HN.out]; omega
                case measure => simp [intOf]
              · have hjm : j = -1 := by omega
                subst hjm
                go_wp2
                go_ret3
                refine ⟨rdEnd_mk HR.out ?_ (by simp) rfl, rfl⟩
                rw [hx.out]; simp
    · have hkn : k = s.size := by omega
      subst hkn
      go_wp2
      go_ret3
      exact ⟨rdEnd_mk (rd_end _ _ hk9 (by rw [size_bs]) hall.out) rfl rfl rfl, rfl⟩

end Go.Proofs.Ytgmbgbalcndohaa
