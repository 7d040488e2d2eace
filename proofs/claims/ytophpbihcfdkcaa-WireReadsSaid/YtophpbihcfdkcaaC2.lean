/- The walks of the reference's checks: IsTime, TooMany, CheckSeries. -/
import Derived.Test.YtophpbihcfdkcaaC
namespace Go.Proofs.Ytophpbihcfdkcaa
open Go.RowKit P

theorem refIsTime_any (t : Int) (w : World) :
    Calls Try.prog 53 #[.int .i64 t] w fun e w' => e = .returned (.bool (isT t)) ∧ w = w' := by
  by_cases h1 : -9007199254740991 ≤ t <;> by_cases h2 : t ≤ 9007199254740991
  all_goals
    go_enter Try.func53, Try.ntmps53
    go_wp2
    go_ret
    exact ⟨ret_bool (by simp [isT]; omega), rfl⟩

set_option maxRecDepth 100000 in
set_option maxHeartbeats 1000000 in
theorem tooMany_any (v : Value) (l : List Sr) (w : World) (hv : SeriesAt w v l) :
    Calls Try.prog 52 #[v] w fun e w' => e = .returned (.bool (manyB l)) ∧ w = w' := by
  obtain ⟨ao, cap, rfl, hn, hat⟩ := hv.at
  have HAT := Lib.hid hat
  clear hat
  have hn' := hn.le
  go_enter Try.func52, Try.ntmps52
  go_wp2
  go_loop [3] (fun i => ∃ k : Nat, k ≤ l.length ∧ i = .int .i64 k ∧ Hid ((l.take k).any manyL = false)) (fun i => l.length - (intOf i).toNat)
  case atStart => exact ⟨0, by omega, rfl, rfl⟩
  case round =>
    obtain ⟨k, hk, rfl, hany⟩ := hrel
    by_cases hlt : k < l.length
    · obtain ⟨b, off, v1, v2, rfl, c1, c2, hl, hs⟩ := HAT.out k hlt
      obtain ⟨ao1, cap1, rfl, hn1, hat1⟩ := hl.at
      obtain ⟨ao2, cap2, rfl, hn2, hat2⟩ := hs.at
      have HAT1 := Lib.hid hat1
      clear hat1 hat2
      have hn1' := hn1.le
      have hn2' := hn2.le
      by_cases h20 : 20 < l[k].labels.length
      · go_wp2
        go_ret
        exact ⟨ret_bool (by rw [show manyB l = true by simp [manyB, any_at manyL l k hlt (by simp [manyL, h20])]]), rfl⟩
      · by_cases h2 : 200 < l[k].samples.length
        · go_wp2
          go_ret
          exact ⟨ret_bool (by rw [show manyB l = true by simp [manyB, any_at manyL l k hlt (by simp [manyL, h2])]]), rfl⟩
        · go_wp2
          go_loop [4] (fun i => ∃ j : Nat, j ≤ l[k].labels.length ∧ i = .int .i64 j ∧ Hid ((l[k].labels.take j).any longLb = false)) (fun i => l[k].labels.length - (intOf i).toNat)
          case atStart => exact ⟨0, by omega, rfl, rfl⟩
          case round =>
            obtain ⟨j, hj, rfl, hany2⟩ := hrel
            by_cases hlt2 : j < l[k].labels.length
            · obtain ⟨b1, off1, rfl, d1, d2, -, -⟩ := HAT1.out j hlt2
              by_cases hx : 20000 < (mkB l[k].labels[j].1).size
              · go_wp2
                go_ret
                have hx' : 20000 < l[k].labels[j].1.length := by rwa [size_mkB] at hx
                have hf : longLb l[k].labels[j] = true := by simp [longLb, hx']
                have hf2 : manyL l[k] = true := by simp only [manyL, any_at longLb _ j hlt2 hf, Bool.or_true]
                exact ⟨ret_bool (by rw [show manyB l = true by simp [manyB, any_at manyL l k hlt hf2]]), rfl⟩
              · by_cases hy : 20000 < (mkB l[k].labels[j].2).size
                · go_wp2
                  go_ret
                  have hy' : 20000 < l[k].labels[j].2.length := by rwa [size_mkB] at hy
                  have hf : longLb l[k].labels[j] = true := by simp [longLb, hy']
                  have hf2 : manyL l[k] = true := by simp only [manyL, any_at longLb _ j hlt2 hf, Bool.or_true]
                  exact ⟨ret_bool (by rw [show manyB l = true by simp [manyB, any_at manyL l k hlt hf2]]), rfl⟩
                · go_wp2
                  go_round
                  case rel =>
                    rw [size_mkB] at hx hy
                    exact ⟨j + 1, by omega, by go_num, any_succ longLb _ j hlt2 hany2.out (by simp [longLb]; omega)⟩
                  case measure => simp [intOf]; omega
            · go_wp2
              go_round
              case rel =>
                refine ⟨k + 1, by omega, by go_num, any_succ manyL l k hlt hany.out ?_⟩
                simp only [manyL, any_end longLb _ j hlt2 hany2.out]; simp; omega
              case measure => simp [intOf]; omega
    · by_cases h200 : 200 < l.length
      all_goals
        go_wp2
        go_ret
        exact ⟨ret_bool (by simp [manyB, any_end manyL l k hlt hany.out, h200]; omega), rfl⟩

set_option maxRecDepth 100000 in
set_option maxHeartbeats 1000000 in
theorem checkSeries_any (v : Value) (l : List Sr) (w : World) (hv : SeriesAt w v l) :
    Calls Try.prog 34 #[v] w fun e w' => e = .returned (.int .i64 (checkB l)) ∧ w = w' := by
  have HV := Lib.hid hv
  obtain ⟨ao, cap, rfl, hn, hat⟩ := hv.at
  clear hv
  have HAT := Lib.hid hat
  clear hat
  have hn' := hn.le
  cases hm : manyB l
  · go_enter Try.func34, Try.ntmps34
    go_wp2_with (go_at_call 52; refine (tooMany_any _ l _ HV.out).mono ?_; rintro e w' ⟨rfl, rfl⟩)
    go_loop [3] (fun i => ∃ k : Nat, k ≤ l.length ∧ i = .int .i64 k ∧ Hid ((l.take k).all timesL = true)) (fun i => l.length - (intOf i).toNat)
    case atStart => exact ⟨0, by omega, rfl, rfl⟩
    case round =>
      obtain ⟨k, hk, rfl, hany⟩ := hrel
      by_cases hlt : k < l.length
      · obtain ⟨b, off, v1, v2, rfl, c1, c2, hl, hs⟩ := HAT.out k hlt
        obtain ⟨ao1, cap1, rfl, hn1, hat1⟩ := hl.at
        obtain ⟨ao2, cap2, rfl, hn2, hat2⟩ := hs.at
        have HAT2 := Lib.hid hat2
        clear hat1 hat2
        have hn1' := hn1.le
        have hn2' := hn2.le
        go_wp2
        go_loop [4] (fun i => ∃ j : Nat, j ≤ l[k].samples.length ∧ i = .int .i64 j ∧ Hid ((l[k].samples.take j).all (fun x => isT x.1) = true)) (fun i => l[k].samples.length - (intOf i).toNat)
        case atStart => exact ⟨0, by omega, rfl, rfl⟩
        case round =>
          obtain ⟨j, hj, rfl, hany2⟩ := hrel
          by_cases hlt2 : j < l[k].samples.length
          · obtain ⟨b1, off1, rfl, d1, d2, -, -⟩ := HAT2.out j hlt2
            cases hx : isT l[k].samples[j].1
            · go_wp2_with (go_at_call 53; refine (refIsTime_any _ _).mono ?_; rintro e w' ⟨rfl, rfl⟩)
              go_ret
              have hf2 : timesL l[k] = false := all_at _ _ j hlt2 hx
              exact ⟨ret_int' (by simp [checkB, hm, show timesB l = false from all_at timesL l k hlt hf2]), rfl⟩
            · go_wp2_with (go_at_call 53; refine (refIsTime_any _ _).mono ?_; rintro e w' ⟨rfl, rfl⟩)
              go_round
              case rel => exact ⟨j + 1, by omega, by go_num, all_succ _ _ j hlt2 hany2.out hx⟩
              case measure => simp [intOf]; omega
          · go_wp2
            go_round
            case rel => exact ⟨k + 1, by omega, by go_num, all_succ timesL l k hlt hany.out (all_end _ _ j hlt2 hany2.out)⟩
            case measure => simp [intOf]; omega
      · go_wp2
        go_ret
        exact ⟨ret_int' (by simp [checkB, hm, show timesB l = true from all_end timesL l k hlt hany.out]), rfl⟩
  · go_enter Try.func34, Try.ntmps34
    go_wp2_with (go_at_call 52; refine (tooMany_any _ l _ HV.out).mono ?_; rintro e w' ⟨rfl, rfl⟩)
    go_ret
    exact ⟨ret_int' (by simp [checkB, hm]), rfl⟩

end Go.Proofs.Ytophpbihcfdkcaa
