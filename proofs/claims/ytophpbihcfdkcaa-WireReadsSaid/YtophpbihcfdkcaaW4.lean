/- The walk of the reference's WriteOf. -/
import Derived.Test.YtophpbihcfdkcaaW3
import Derived.Test.YtophpbihcfdkcaaR
namespace Go.Proofs.Ytophpbihcfdkcaa
open Go.RowKit P
set_option maxHeartbeats 2000000
set_option linter.unusedSimpArgs false
set_option maxRecDepth 100000 in
theorem writeOf_any (v : Value) (l : List Sr) (w : World) (hv : SeriesAt w v l) :
    Calls Try.prog 21 #[v] w fun e w' => e = .returned (.tuple #[.string (mkB (writeB l).1), .int .i64 (writeB l).2]) ∧ Below w.heap.size w w' := by
  obtain ⟨B, hB⟩ : ∃ B, B = w.heap.size := ⟨_, rfl⟩
  have hBw : B ≤ w.heap.size := by omega
  have hK : ∀ wr, Below B w wr → Keeps w wr := fun wr h => Keeps.of_below h (by omega)
  have HK := Lib.hid hK
  rw [← hB]
  have HBe := Lib.hid hB
  clear hK hB
  have HV := Lib.hid hv
  obtain ⟨ao, cap, rfl, hn, hat⟩ := hv.at
  clear hv
  have HAT := Lib.hid hat
  clear hat
  have hn' := hn.le
  by_cases hc : checkB l = 0
  · have hm : manyB l = false := by
      cases h : manyB l
      · rfl
      · simp [checkB, h] at hc
    have HM := Lib.hid hm
    have HC := Lib.hid hc
    clear hm
    have hc0 : ((checkB l : Int) != 0) = false := by rw [hc]; rfl
    clear hc
    have hadd := @mkB_add
    have hsize := @size_mkB
    go_enter Try.func21, Try.ntmps21
    go_wp2_with fail
    refine (checkSeries_any _ l _ HV.out).mono ?_
    rintro e w1 ⟨rfl, rfl⟩
    go_wp2
    go_loopw [5, 6] (fun o i wr => ∃ k : Nat, k ≤ l.length ∧ i = .int .i64 k ∧ o = .string (mkB (outB (l.take k))) ∧ (outB (l.take k)).length ≤ 20000 ∧ Below B w wr) (fun _ i _ => l.length - (intOf i).toNat)
    case atStart => exact ⟨0, by omega, rfl, rfl, by simp [outB], Below.refl _ _⟩
    case round =>
      obtain ⟨k, hk, rfl, rfl, hol, hbel⟩ := hrel
      have hBr : B ≤ wr.heap.size := by have := hbel.size; omega
      by_cases hlt : k < l.length
      · obtain ⟨b, off, v1, v2, rfl, c1, c2, hl, hs⟩ := HAT.out k hlt
        have C1 := Lib.hid c1
        have C2 := Lib.hid c2
        obtain ⟨ao1, cap1, rfl, hn1, hat1⟩ := hl.at
        obtain ⟨ao2, cap2, rfl, hn2, hat2⟩ := hs.at
        clear c1 c2
        have HAT1 := Lib.hid hat1
        have HAT2 := Lib.hid hat2
        clear hat1 hat2
        have hn1' := hn1.le
        have hn2' := hn2.le
        have hml := manyB_at HM.out k hlt
        have HML := Lib.hid (show manyL l[k] = false ∧ l[k].labels.any longLb = false from ⟨hml, by simp only [manyL, Bool.or_eq_false_iff] at hml; exact hml.2⟩)
        have hsm : l[k].samples.length ≤ 200 ∧ l[k].labels.length ≤ 20 := by
          simp only [manyL, Bool.or_eq_false_iff, decide_eq_false_iff_not] at hml; omega
        clear hml
        obtain ⟨hsm, hlm⟩ := hsm
        go_wp2
        obtain ⟨wo, rfl⟩ : ∃ wo : World, wo = wr := ⟨_, rfl⟩
        go_loopw [7, 8] (fun o i wr2 => ∃ j : Nat, j ≤ l[k].labels.length ∧ i = .int .i64 j ∧ o = .string (mkB (lbsB (l[k].labels.take j))) ∧ (lbsB (l[k].labels.take j)).length ≤ 800720 ∧ Below B w wr2) (fun _ i _ => l[k].labels.length - (intOf i).toNat)
        case atStart => exact ⟨0, by omega, rfl, rfl, by simp [lbsB], hbel⟩
        case round =>
          obtain ⟨j, hj, rfl, rfl, hil, hbel2⟩ := hrel
          have hBr2 : B ≤ wr.heap.size := by have := hbel2.size; omega
          have c1 := HK.out wr hbel2 _ _ C1.out
          have c2 := HK.out wr hbel2 _ _ C2.out
          by_cases hlt2 : j < l[k].labels.length
          · obtain ⟨b1, off1, rfl, d1, d2, hs1, hs2⟩ := HAT1.out j hlt2
            replace d1 := HK.out wr hbel2 _ _ d1
            replace d2 := HK.out wr hbel2 _ _ d2
            have hlf := any_false_at longLb _ HML.out.2 j hlt2
            have h4 : (fieldB 1 (fieldB 1 l[k].labels[j].1 ++ fieldB 2 l[k].labels[j].2)).length ≤ 40036 := lbB_len _ hlf
            have h1 : (fieldB 1 l[k].labels[j].1).length ≤ 40036 ∧ (fieldB 2 l[k].labels[j].2).length ≤ 40036 := by
              simp only [fieldB, List.length_append] at h4 ⊢; omega
            obtain ⟨h1, h2⟩ := h1
            have h3 : Small (fieldB 1 l[k].labels[j].1 ++ fieldB 2 l[k].labels[j].2).length := by unfold Small; rw [List.length_append]; omega
            have hsn := congrArg List.length (lbsB_snoc l[k].labels j hlt2)
            rw [List.length_append] at hsn
            have HLB := Lib.hid (lbsB_snoc l[k].labels j hlt2)
            have hsl := lbsB_len (l[k].labels.take (j + 1)) (any_take _ _ _ HML.out.2)
            rw [List.length_take] at hsl
            have hsl2 : (lbsB (l[k].labels.take (j + 1))).length ≤ 800720 := by omega
            clear hsn hsl hlf
            have e1 := later_cell (X := wr.alloc (.cells #[.string (mkB l[k].labels[j].1), .string (mkB l[k].labels[j].2)] 48)) (a := ⟨wr.heap.size, 0, none⟩) (v := .string (mkB l[k].labels[j].1)) (by simp [go_sem])
            have e2 := later_cell (X := wr.alloc (.cells #[.string (mkB l[k].labels[j].1), .string (mkB l[k].labels[j].2)] 48)) (a := ⟨wr.heap.size, 1, none⟩) (v := .string (mkB l[k].labels[j].2)) (by simp [go_sem])
            go_wp2
            refine wp_region_later (by kernel_rfl) (by kernel_rfl) ?_
            repeat (first | go_big_quiet_step ((go_at_call 35; exact Calls.later (fieldOf_any _ _ _ (by simp) (by first | exact hs1 | exact hs2 | exact h3)))) | quiet_step ((go_at_call 35; exact Calls.later (fieldOf_any _ _ _ (by simp) (by first | exact hs1 | exact hs2 | exact h3)))))
            refine wpQuiet_nil ?_
            rintro _ ⟨c, rfl⟩
            have hc := c.below
            go_wp2
            go_roundw
            case rel => exact ⟨j + 1, by omega, by go_num, by rw [HLB.out]; rfl, hsl2, by ((repeat' (first | exact Below.refl _ _ | exact hbel2 | refine Below.drew ?_ | refine Below.alloc ?_ ?_ _ | refine Below.trans ?_ (hc.mono ?_))) <;> (first | omega | (simp; omega) | (have q0 := hbel2.size; have q1 := hc.size; first | omega | (simp at q0 q1 ⊢; omega) | (simp at q0 q1; omega) | (simp; omega))))⟩
            case measure => simp [intOf]; omega
          · have hj2 : j = l[k].labels.length := by omega
            subst hj2
            have hil3 : (lbsB l[k].labels).length ≤ 800720 := by rw [List.take_length] at hil; exact hil
            go_wp2
            obtain ⟨wo2, rfl⟩ : ∃ wo2 : World, wo2 = wr := ⟨_, rfl⟩
            clear c1 c2
            go_loopw [7, 10] (fun o i wr3 => ∃ j : Nat, j ≤ l[k].samples.length ∧ i = .int .i64 j ∧ o = .string (mkB (lbsB l[k].labels ++ smsB (l[k].samples.take j))) ∧ Below B w wr3) (fun _ i _ => l[k].samples.length - (intOf i).toNat)
            case atStart => exact ⟨0, by omega, rfl, by rw [List.take_length]; simp [smsB], hbel2⟩
            case round =>
              obtain ⟨j, hj3, rfl, rfl, hbel3⟩ := hrel
              have hBr3 : B ≤ wr.heap.size := by have := hbel3.size; omega
              have c1 := HK.out wr hbel3 _ _ C1.out
              have c2 := HK.out wr hbel3 _ _ C2.out
              have hsl := smsB_len (l[k].samples.take j)
              rw [List.length_take] at hsl
              have hsl2 : (smsB (l[k].samples.take j)).length ≤ 6400 := by omega
              clear hsl
              by_cases hlt3 : j < l[k].samples.length
              · obtain ⟨b1, off1, rfl, d1, d2, hs1, hs2⟩ := HAT2.out j hlt3
                replace d1 := HK.out wr hbel3 _ _ d1
                replace d2 := HK.out wr hbel3 _ _ d2
                have HSB := Lib.hid (smsB_snoc l[k].samples j hlt3)
                have hs4 : (fieldB 2 (sampleB l[k].samples[j])).length ≤ 32 := smB_len l[k].samples[j]
                have hs5 : Small (sampleB l[k].samples[j]).length := by have := sampleB_len l[k].samples[j]; unfold Small; omega
                obtain ⟨x, hx⟩ : ∃ x, x = l[k].samples[j] := ⟨_, rfl⟩
                rw [← hx] at d1 d2 hs1 hs2 hs4 hs5 HSB
                clear hx
                obtain ⟨t, n⟩ := x
                dsimp only at d1 d2 hs1 hs2
                obtain ⟨m, hm⟩ := Int.eq_ofNat_of_zero_le hs2.1
                subst hm
                have HS2 := Lib.hid hs2
                clear hs2
                have kc9 : ∀ (W : World) (b : Nat), W.cell? ⟨b, 0, none⟩ = some (.int .u8 9) → (convert 39 9 (.slice (some ⟨b, 0, none⟩) 1 1)).run Try.prog W = .ok (.string (mkB [9])) W := by
                  intro W b h
                  exact conv_one (c := 9) (by omega) h Try.underlying39 Try.underlying5 Try.underlying9
                have kc16 : ∀ (W : World) (b : Nat), W.cell? ⟨b, 0, none⟩ = some (.int .u8 16) → (convert 39 9 (.slice (some ⟨b, 0, none⟩) 1 1)).run Try.prog W = .ok (.string (mkB (num 16))) W := by
                  intro W b h
                  rw [num_small (by omega)]
                  exact conv_one (c := 16) (by omega) h Try.underlying39 Try.underlying5 Try.underlying9
                have hN : ∀ n, n < 18446744073709551616 → (num n).length ≤ 10 := fun n h => num_len10 h
                have h16 := hN 16 (by omega)
                have hu := hN (uns t) (by unfold uns; omega)
                have hU : uns t < 18446744073709551616 := by unfold uns; omega
                have hsb : 9 :: (wordB m ++ (num 16 ++ num (uns t))) = sampleB (t, (m : Int)) := by simp [sampleB]
                have hU64 : U64 (uns t : Int) := ⟨by omega, by omega⟩
                have hW8 : (wordB m).length = 8 := wordF_len _ _
                have e0 := after_cell (X := wr.alloc (.cells #[.int .i64 t, .int .u64 m] 56)) (a := ⟨wr.heap.size, 0, none⟩) (v := .int .i64 t) (by simp [go_sem])
                have e1 := after_cell (X := wr.alloc (.cells #[.int .i64 t, .int .u64 m] 56)) (a := ⟨wr.heap.size, 1, none⟩) (v := .int .u64 m) (by simp [go_sem])
                clear hN
                go_wp2
                refine wp_region_softF (by kernel_rfl) (by kernel_rfl) (by kernel_rfl) (by decide) ?_
                apply Exists.intro
                refine ⟨fun us => ?_, ?_⟩
                · go_simp
                  rfl
                repeat (first
                  | (refine softF_const [] rfl lateV_nil ?_; apply Exists.intro; refine ⟨fun us W hb hd ho => ?_, ?_⟩; · (simp [depsOfR, HL, OL, Region.binds, List.filter_cons] at hd ho; go_simp; first
                   | exact ⟨Below.refl _ _, rfl⟩
                   | (rw [if_neg (by first | omega | (simp only [List.length_append, List.length_cons, List.length_nil]; omega))]; exact ⟨Below.refl _ _, rfl⟩)
                   | (first
                    | (go_at_call 36; with_reducible exact word_any _ HS2.out _)
                    | (go_at_call 37; with_reducible exact Calls.soft_same (unsigned_any _ _ hs1))
                    | (go_at_call 18; with_reducible exact numberOf_any _ hU64 _)
                    | (go_at_call 35; with_reducible exact fieldOf_any _ _ _ (by simp) hs5))))
                  | (refine softF_const [(17, .string (mkB (lbsB l[k].labels ++ smsB (l[k].samples.take j))))] rfl (lateV_one rfl) ?_; apply Exists.intro; refine ⟨fun us W hb hd ho => ?_, ?_⟩; · (simp [depsOfR, HL, OL, Region.binds, List.filter_cons] at hd ho; go_simp; first
                   | exact ⟨Below.refl _ _, rfl⟩
                   | (rw [if_neg (by first | omega | (simp only [List.length_append, List.length_cons, List.length_nil]; omega))]; exact ⟨Below.refl _ _, rfl⟩)
                   | (first
                    | (go_at_call 36; with_reducible exact word_any _ HS2.out _)
                    | (go_at_call 37; with_reducible exact Calls.soft_same (unsigned_any _ _ hs1))
                    | (go_at_call 18; with_reducible exact numberOf_any _ hU64 _)
                    | (go_at_call 35; with_reducible exact fieldOf_any _ _ _ (by simp) hs5))))
                  | (refine softF_const [] rfl lateV_nil ?_; apply Exists.intro; refine ⟨fun us W hb hd ho => ?_, ?_⟩; · (simp [depsOfR, HL, OL, Region.binds, List.filter_cons] at hd ho; obtain ⟨bx, hd1, hd2⟩ := hd; go_simp; first
                   | exact ⟨Below.refl _ _, rfl⟩
                   | (rw [if_neg (by first | omega | (simp only [List.length_append, List.length_cons, List.length_nil]; omega))]; exact ⟨Below.refl _ _, rfl⟩)
                   | (first
                    | (go_at_call 36; with_reducible exact word_any _ HS2.out _)
                    | (go_at_call 37; with_reducible exact Calls.soft_same (unsigned_any _ _ hs1))
                    | (go_at_call 18; with_reducible exact numberOf_any _ hU64 _)
                    | (go_at_call 35; with_reducible exact fieldOf_any _ _ _ (by simp) hs5))))
                  | (refine softF_box [] rfl lateV_nil ?_; apply Exists.intro; refine ⟨fun us W hb hd ho => ?_, ?_⟩; · (simp [depsOfR, HL, OL, Region.binds, List.filter_cons] at hd ho; go_simp; first | exact ⟨(Below.refl _ _).alloc (Nat.le_refl _) _, rfl⟩ | exact box1_new _ _ _)))
                refine softF_nil (fun us c hc hd => ?_)
                simp [HL, List.range, List.range.loop] at hd
                simp only [hd]
                clear hd
                replace hc := hc.below
                go_wp2
                go_roundw
                case rel => exact ⟨j + 1, by omega, by go_num, by rw [HSB.out]; simp [smB], by ((repeat' (first | exact Below.refl _ _ | exact hbel3 | refine Below.drew ?_ | refine Below.alloc ?_ ?_ _ | refine Below.trans ?_ (hc.mono ?_))) <;> (first | omega | (simp; omega) | (have q0 := hbel3.size; have q1 := hc.size; first | omega | (simp at q0 q1 ⊢; omega) | (simp at q0 q1; omega) | (simp; omega))))⟩
                case measure => simp [intOf]; omega
              · have hj4 : j = l[k].samples.length := by omega
                subst hj4
                have hs6 : Small (inB l[k]).length := by have := inB_len l[k] HML.out.1; unfold Small; omega
                have hs7 : (fieldB 1 (inB l[k])).length ≤ 807132 := by
                  have h1 := inB_len l[k] HML.out.1
                  have := fieldB_len 1 (by omega) (inB l[k]) (by omega)
                  omega
                have hin : lbsB l[k].labels ++ smsB (l[k].samples.take l[k].samples.length) = inB l[k] := by rw [List.take_length]; rfl
                rw [hin]
                have HSO := Lib.hid (outB_snoc l k hlt)
                clear hin
                by_cases hbig : 20000 < (outB (l.take k)).length + (fieldB 1 (inB l[k])).length
                · go_wp2_with (go_at_call 35; refine (fieldOf_any 1 (inB l[k]) _ (by simp) hs6).mono ?_; rintro e w2 ⟨rfl, hb2⟩)
                  go_ret2
                  refine ⟨?_, by ((repeat' (first | exact Below.refl _ _ | exact hbel3 | refine Below.drew ?_ | refine Below.alloc ?_ ?_ _ | refine Below.trans ?_ (hb2.mono ?_))) <;> (first | omega | (simp; omega) | (have q0 := hbel3.size; have q1 := hb2.size; first | omega | (simp at q0 q1 ⊢; omega) | (simp at q0 q1; omega) | (simp; omega))))⟩
                  have h1 := outB_le l (k + 1)
                  rw [HSO.out, List.length_append] at h1
                  have h2 : writeB l = ([], 2) := by unfold writeB; rw [if_neg (by simp [HC.out]), if_pos (by omega)]
                  rw [h2]; rfl
                · go_wp2_with (go_at_call 35; refine (fieldOf_any 1 (inB l[k]) _ (by simp) hs6).mono ?_; rintro e w2 ⟨rfl, hb2⟩)
                  go_roundw
                  case rel => exact ⟨k + 1, by omega, by go_num, by rw [HSO.out]; try simp, by rw [HSO.out, List.length_append]; omega, by ((repeat' (first | exact Below.refl _ _ | exact hbel3 | refine Below.drew ?_ | refine Below.alloc ?_ ?_ _ | refine Below.trans ?_ (hb2.mono ?_))) <;> (first | omega | (simp; omega) | (have q0 := hbel3.size; have q1 := hb2.size; first | omega | (simp at q0 q1 ⊢; omega) | (simp at q0 q1; omega) | (simp; omega))))⟩
                  case measure => simp [intOf]; omega
      · have hk2 : k = l.length := by omega
        subst hk2
        rw [List.take_length] at hol ⊢
        go_wp2
        go_ret2
        refine ⟨?_, hbel⟩
        have h2 : writeB l = (outB l, 0) := by unfold writeB; rw [if_neg (by simp [HC.out]), if_neg (by omega)]
        rw [h2]; rfl
  · have hc0 : ((checkB l : Int) != 0) = true := by rw [bne_iff_ne]; omega
    go_enter Try.func21, Try.ntmps21
    go_wp2_with fail
    refine (checkSeries_any _ l _ HV.out).mono ?_
    rintro e w1 ⟨rfl, rfl⟩
    go_wp2
    go_ret2
    refine ⟨?_, Below.refl _ _⟩
    have h2 : writeB l = ([], checkB l) := by unfold writeB; rw [if_pos hc]
    rw [h2]; rfl

end Go.Proofs.Ytophpbihcfdkcaa
