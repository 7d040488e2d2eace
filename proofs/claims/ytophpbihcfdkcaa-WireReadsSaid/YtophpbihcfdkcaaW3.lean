/- The walk of the wire's Write. -/
import Derived.Test.YtophpbihcfdkcaaW2
namespace Go.Proofs.Ytophpbihcfdkcaa
open Go.RowKit P
namespace P
def lbB (x : Lb) : List UInt8 := fieldB 1 (fieldB 1 x.1 ++ fieldB 2 x.2)
def smB (x : Sm) : List UInt8 := fieldB 2 (sampleB x)
def lbsB (l : List Lb) : List UInt8 := l.flatMap lbB
def smsB (l : List Sm) : List UInt8 := l.flatMap smB
def inB (s : Sr) : List UInt8 := lbsB s.labels ++ smsB s.samples
def outB (l : List Sr) : List UInt8 := l.flatMap (fun s => fieldB 1 (inB s))
def writeB (l : List Sr) : List UInt8 × Nat := if checkB l ≠ 0 then ([], checkB l) else if 20000 < (outB l).length then ([], 2) else (outB l, 0)

theorem lbB_len (x : Lb) (h : longLb x = false) : (lbB x).length ≤ 40036 := by
  simp only [longLb, Bool.or_eq_false_iff, decide_eq_false_iff_not] at h
  have h1 := fieldB_len 1 (by omega) x.1 (by omega)
  have h2 := fieldB_len 2 (by omega) x.2 (by omega)
  have h3 := fieldB_len 1 (by omega) (fieldB 1 x.1 ++ fieldB 2 x.2) (by rw [List.length_append]; omega)
  rw [List.length_append] at h3
  unfold lbB; omega
theorem smB_len (x : Sm) : (smB x).length ≤ 32 := by
  have h1 := sampleB_len x
  have h2 := fieldB_len 2 (by omega) (sampleB x) (by omega)
  unfold smB; omega
theorem lbsB_len : ∀ (l : List Lb), l.any longLb = false → (lbsB l).length ≤ 40036 * l.length
  | [], _ => by simp [lbsB]
  | x :: l, h => by
    simp only [List.any_cons, Bool.or_eq_false_iff] at h
    have h1 := lbB_len x h.1
    have h2 := lbsB_len l h.2
    simp only [lbsB, List.flatMap_cons, List.length_append, List.length_cons] at h2 ⊢
    omega
theorem smsB_len : ∀ (l : List Sm), (smsB l).length ≤ 32 * l.length
  | [] => by simp [smsB]
  | x :: l => by
    have h1 := smB_len x
    have h2 := smsB_len l
    simp only [smsB, List.flatMap_cons, List.length_append, List.length_cons] at h2 ⊢
    omega
theorem lbsB_snoc (l : List Lb) (k : Nat) (h : k < l.length) : lbsB (l.take (k + 1)) = lbsB (l.take k) ++ lbB l[k] := by
  rw [List.take_succ_eq_append_getElem h]; unfold lbsB; rw [List.flatMap_append, List.flatMap_singleton]
theorem smsB_snoc (l : List Sm) (k : Nat) (h : k < l.length) : smsB (l.take (k + 1)) = smsB (l.take k) ++ smB l[k] := by
  rw [List.take_succ_eq_append_getElem h]; unfold smsB; rw [List.flatMap_append, List.flatMap_singleton]
theorem outB_snoc (l : List Sr) (k : Nat) (h : k < l.length) : outB (l.take (k + 1)) = outB (l.take k) ++ fieldB 1 (inB l[k]) := by
  rw [List.take_succ_eq_append_getElem h]; unfold outB; rw [List.flatMap_append, List.flatMap_singleton]
theorem outB_le (l : List Sr) (k : Nat) : (outB (l.take k)).length ≤ (outB l).length := by
  conv => rhs; rw [← List.take_append_drop k l]
  simp only [outB, List.flatMap_append, List.length_append]; omega
theorem any_take {α : Type} (f : α → Bool) (l : List α) (k : Nat) (h : l.any f = false) : (l.take k).any f = false := by
  rw [Bool.eq_false_iff] at h ⊢
  intro h2
  obtain ⟨x, hx, hf⟩ := List.any_eq_true.1 h2
  exact h (List.any_eq_true.2 ⟨x, List.mem_of_mem_take hx, hf⟩)
theorem any_false_at {α : Type} (f : α → Bool) (l : List α) (h : l.any f = false) (k : Nat) (hk : k < l.length) : f l[k] = false := by
  rw [Bool.eq_false_iff] at h ⊢
  exact fun h2 => h (any_at f l k hk h2)
theorem inB_len (s : Sr) (h : manyL s = false) : (inB s).length ≤ 807120 := by
  simp only [manyL, Bool.or_eq_false_iff, decide_eq_false_iff_not] at h
  have h1 := lbsB_len s.labels h.2
  have h2 := smsB_len s.samples
  simp only [inB, List.length_append]; omega
theorem manyB_at {l : List Sr} (h : manyB l = false) (k : Nat) (hk : k < l.length) : manyL l[k] = false := by
  rw [Bool.eq_false_iff]
  intro h2
  rw [Bool.eq_false_iff] at h
  exact h (by rw [manyB, any_at manyL l k hk h2, Bool.or_true])
end P

theorem ret_se {s t : ByteArray} {a b : Int} (h : s = t) (h2 : a = b) : Ending.returned (.tuple #[.string s, .int .i64 a]) = .returned (.tuple #[.string t, .int .i64 b]) := by rw [h, h2]

set_option maxRecDepth 100000 in
set_option maxHeartbeats 4000000 in
theorem write_any (v : Value) (l : List Sr) (w : World) (hv : SeriesAt w v l) :
    Calls Try.prog 20 #[v] w fun e w' => e = .returned (.tuple #[.string (mkB (writeB l).1), .int .i64 (writeB l).2]) ∧ Below w.heap.size w w' := by
  obtain ⟨B, hB⟩ : ∃ B, B = w.heap.size := ⟨_, rfl⟩
  have hBw : B ≤ w.heap.size := by omega
  have hK : ∀ wr, Below B w wr → Keeps w wr := fun wr h => Keeps.of_below h (by omega)
  have HK := Lib.hid hK
  rw [← hB]
  have HBe := Lib.hid hB
  clear hK hB
  have HV := Lib.hid hv
  obtain ⟨ao, cap, rfl, hn, hat⟩ := hv.at
  clear hv
  have HAT := Lib.hid hat
  clear hat
  have hn' := hn.le
  by_cases hc : checkB l = 0
  · have hm : manyB l = false := by
      cases h : manyB l
      · rfl
      · simp [checkB, h] at hc
    have HM := Lib.hid hm
    have HC := Lib.hid hc
    clear hm
    have hc0 : ((checkB l : Int) != 0) = false := by rw [hc]; rfl
    clear hc
    have hadd := @mkB_add
    have hsize := @size_mkB
    go_enter Try.func20, Try.ntmps20
    go_wp2_with fail
    refine (check_any _ l _ HV.out).mono ?_
    rintro e w1 ⟨rfl, hb1⟩
    rw [← HBe.out] at hb1
    go_wp2
    go_loopw [5, 20] (fun o i wr => ∃ k : Nat, k ≤ l.length ∧ i = .int .i64 k ∧ o = .string (mkB (outB (l.take k))) ∧ (outB (l.take k)).length ≤ 20000 ∧ Below B w wr) (fun _ i _ => l.length - (intOf i).toNat)
    case atStart => exact ⟨0, by omega, rfl, rfl, by simp [outB], hb1⟩
    case round =>
      obtain ⟨k, hk, rfl, rfl, hol, hbel⟩ := hrel
      have hBr : B ≤ wr.heap.size := by have := hbel.size; omega
      by_cases hlt : k < l.length
      · obtain ⟨b, off, v1, v2, rfl, c1, c2, hl, hs⟩ := HAT.out k hlt
        replace c1 := HK.out wr hbel _ _ c1
        replace c2 := HK.out wr hbel _ _ c2
        obtain ⟨ao1, cap1, rfl, hn1, hat1⟩ := hl.at
        obtain ⟨ao2, cap2, rfl, hn2, hat2⟩ := hs.at
        have HAT1 := Lib.hid hat1
        have HAT2 := Lib.hid hat2
        clear hat1 hat2
        have hn1' := hn1.le
        have hn2' := hn2.le
        have hml := manyB_at HM.out k hlt
        have HML := Lib.hid (show manyL l[k] = false ∧ l[k].labels.any longLb = false from ⟨hml, by simp only [manyL, Bool.or_eq_false_iff] at hml; exact hml.2⟩)
        have hsm : l[k].samples.length ≤ 200 ∧ l[k].labels.length ≤ 20 := by
          simp only [manyL, Bool.or_eq_false_iff, decide_eq_false_iff_not] at hml; omega
        clear hml
        obtain ⟨hsm, hlm⟩ := hsm
        go_wp2
        obtain ⟨wo, rfl⟩ : ∃ wo : World, wo = wr := ⟨_, rfl⟩
        go_loopw [8, 27] (fun o i wr2 => ∃ j : Nat, j ≤ l[k].labels.length ∧ i = .int .i64 j ∧ o = .string (mkB (lbsB (l[k].labels.take j))) ∧ (lbsB (l[k].labels.take j)).length ≤ 800720 ∧ wr2.cell? ⟨wo.heap.size, 1, none⟩ = some (.slice ao2 l[k].samples.length cap2) ∧ Below B w wr2) (fun _ i _ => l[k].labels.length - (intOf i).toNat)
        case atStart => exact ⟨0, by omega, rfl, rfl, by simp [lbsB], by simp [go_sem], hbel.alloc hBr _⟩
        case round =>
          obtain ⟨j, hj, rfl, rfl, hil, cs, hbel2⟩ := hrel
          have hBr2 : B ≤ wr.heap.size := by have := hbel2.size; omega
          by_cases hlt2 : j < l[k].labels.length
          · obtain ⟨b1, off1, rfl, d1, d2, hs1, hs2⟩ := HAT1.out j hlt2
            replace d1 := HK.out wr hbel2 _ _ d1
            replace d2 := HK.out wr hbel2 _ _ d2
            have hlf := any_false_at longLb _ HML.out.2 j hlt2
            have h4 : (fieldB 1 (fieldB 1 l[k].labels[j].1 ++ fieldB 2 l[k].labels[j].2)).length ≤ 40036 := lbB_len _ hlf
            have h1 : (fieldB 1 l[k].labels[j].1).length ≤ 40036 ∧ (fieldB 2 l[k].labels[j].2).length ≤ 40036 := by
              simp only [fieldB, List.length_append] at h4 ⊢; omega
            obtain ⟨h1, h2⟩ := h1
            have h3 : Small (fieldB 1 l[k].labels[j].1 ++ fieldB 2 l[k].labels[j].2).length := by unfold Small; rw [List.length_append]; omega
            have hsn := congrArg List.length (lbsB_snoc l[k].labels j hlt2)
            rw [List.length_append] at hsn
            have HLB := Lib.hid (lbsB_snoc l[k].labels j hlt2)
            have hsl := lbsB_len (l[k].labels.take (j + 1)) (any_take _ _ _ HML.out.2)
            rw [List.length_take] at hsl
            have hsl2 : (lbsB (l[k].labels.take (j + 1))).length ≤ 800720 := by omega
            clear hsn hsl hlf
            have e1 := later_cell (X := wr.alloc (.cells #[.string (mkB l[k].labels[j].1), .string (mkB l[k].labels[j].2)] 48)) (a := ⟨wr.heap.size, 0, none⟩) (v := .string (mkB l[k].labels[j].1)) (by simp [go_sem])
            have e2 := later_cell (X := wr.alloc (.cells #[.string (mkB l[k].labels[j].1), .string (mkB l[k].labels[j].2)] 48)) (a := ⟨wr.heap.size, 1, none⟩) (v := .string (mkB l[k].labels[j].2)) (by simp [go_sem])
            have e3 := later_cell (keeps_alloc wr (.cells #[.string (mkB l[k].labels[j].1), .string (mkB l[k].labels[j].2)] 48) _ _ cs)
            go_wp2
            refine wp_region_later (by kernel_rfl) (by kernel_rfl) ?_
            repeat (first | go_big_quiet_step ((go_at_call 32; exact Calls.later (field_any _ _ _ (by simp) (by first | exact hs1 | exact hs2 | exact h3)))) | quiet_step ((go_at_call 32; exact Calls.later (field_any _ _ _ (by simp) (by first | exact hs1 | exact hs2 | exact h3)))))
            refine wpQuiet_nil ?_
            rintro _ ⟨c, rfl⟩
            have hc := c.below
            go_wp2
            go_roundw
            case rel => exact ⟨j + 1, by omega, by go_num, by rw [HLB.out]; rfl, hsl2, e3 c, by ((repeat' (first | exact Below.refl _ _ | exact hbel2 | refine Below.drew ?_ | refine Below.alloc ?_ ?_ _ | refine Below.trans ?_ (hc.mono ?_))) <;> (first | omega | (simp; omega) | (have q0 := hbel2.size; have q1 := hc.size; first | omega | (simp at q0 q1 ⊢; omega) | (simp at q0 q1; omega) | (simp; omega))))⟩
            case measure => simp [intOf]; omega
          · have hj2 : j = l[k].labels.length := by omega
            subst hj2
            have hil3 : (lbsB l[k].labels).length ≤ 800720 := by rw [List.take_length] at hil; exact hil
            go_wp2
            obtain ⟨wo2, rfl⟩ : ∃ wo2 : World, wo2 = wr := ⟨_, rfl⟩
            go_loopw [8, 45] (fun o i wr3 => ∃ j : Nat, j ≤ l[k].samples.length ∧ i = .int .i64 j ∧ o = .string (mkB (lbsB l[k].labels ++ smsB (l[k].samples.take j))) ∧ Below B w wr3) (fun _ i _ => l[k].samples.length - (intOf i).toNat)
            case atStart => exact ⟨0, by omega, rfl, by rw [List.take_length]; simp [smsB], hbel2⟩
            case round =>
              obtain ⟨j, hj3, rfl, rfl, hbel3⟩ := hrel
              have hBr3 : B ≤ wr.heap.size := by have := hbel3.size; omega
              have hsl := smsB_len (l[k].samples.take j)
              rw [List.length_take] at hsl
              have hsl2 : (smsB (l[k].samples.take j)).length ≤ 6400 := by omega
              clear hsl
              by_cases hlt3 : j < l[k].samples.length
              · obtain ⟨b1, off1, rfl, d1, d2, hs1, hs2⟩ := HAT2.out j hlt3
                replace d1 := HK.out wr hbel3 _ _ d1
                replace d2 := HK.out wr hbel3 _ _ d2
                have HSB := Lib.hid (smsB_snoc l[k].samples j hlt3)
                have hs4 : (fieldB 2 (sampleB l[k].samples[j])).length ≤ 32 := smB_len l[k].samples[j]
                have hs5 : Small (sampleB l[k].samples[j]).length := by have := sampleB_len l[k].samples[j]; unfold Small; omega
                go_wp2_with fail
                refine (sample_any l[k].samples[j] _ hs1 hs2).mono ?_
                rintro e w1 ⟨rfl, hb1⟩
                go_wp2_with fail
                refine (field_any 2 (sampleB l[k].samples[j]) _ (by simp) hs5).mono ?_
                rintro e w2 ⟨rfl, hb2⟩
                go_wp2
                go_roundw
                case rel => exact ⟨j + 1, by omega, by go_num, by rw [HSB.out]; simp [smB], by ((repeat' (first | exact Below.refl _ _ | exact hbel3 | refine Below.drew ?_ | refine Below.alloc ?_ ?_ _ | refine Below.trans ?_ (hb1.mono ?_) | refine Below.trans ?_ (hb2.mono ?_))) <;> (first | omega | (simp; omega) | (have q0 := hbel3.size; have q1 := hb1.size; have q2 := hb2.size; first | omega | (simp at q0 q1 q2 ⊢; omega) | (simp at q0 q1 q2; omega) | (simp; omega))))⟩
                case measure => simp [intOf]; omega
              · have hj4 : j = l[k].samples.length := by omega
                subst hj4
                have hs6 : Small (inB l[k]).length := by have := inB_len l[k] HML.out.1; unfold Small; omega
                have hs7 : (fieldB 1 (inB l[k])).length ≤ 807132 := by
                  have h1 := inB_len l[k] HML.out.1
                  have := fieldB_len 1 (by omega) (inB l[k]) (by omega)
                  omega
                have hin : lbsB l[k].labels ++ smsB (l[k].samples.take l[k].samples.length) = inB l[k] := by rw [List.take_length]; rfl
                rw [hin]
                have HSO := Lib.hid (outB_snoc l k hlt)
                clear hin
                by_cases hbig : 20000 < (outB (l.take k)).length + (fieldB 1 (inB l[k])).length
                · go_wp2_with (go_at_call 32; refine (field_any 1 (inB l[k]) _ (by simp) hs6).mono ?_; rintro e w2 ⟨rfl, hb2⟩)
                  go_ret2
                  refine ⟨?_, by ((repeat' (first | exact Below.refl _ _ | exact hbel3 | refine Below.drew ?_ | refine Below.alloc ?_ ?_ _ | refine Below.trans ?_ (hb2.mono ?_))) <;> (first | omega | (simp; omega) | (have q0 := hbel3.size; have q1 := hb2.size; first | omega | (simp at q0 q1 ⊢; omega) | (simp at q0 q1; omega) | (simp; omega))))⟩
                  have h1 := outB_le l (k + 1)
                  rw [HSO.out, List.length_append] at h1
                  have h2 : writeB l = ([], 2) := by unfold writeB; rw [if_neg (by simp [HC.out]), if_pos (by omega)]
                  rw [h2]; rfl
                · go_wp2_with (go_at_call 32; refine (field_any 1 (inB l[k]) _ (by simp) hs6).mono ?_; rintro e w2 ⟨rfl, hb2⟩)
                  go_roundw
                  case rel => exact ⟨k + 1, by omega, by go_num, by rw [HSO.out]; try simp, by rw [HSO.out, List.length_append]; omega, by ((repeat' (first | exact Below.refl _ _ | exact hbel3 | refine Below.drew ?_ | refine Below.alloc ?_ ?_ _ | refine Below.trans ?_ (hb2.mono ?_))) <;> (first | omega | (simp; omega) | (have q0 := hbel3.size; have q1 := hb2.size; first | omega | (simp at q0 q1 ⊢; omega) | (simp at q0 q1; omega) | (simp; omega))))⟩
                  case measure => simp [intOf]; omega
      · have hk2 : k = l.length := by omega
        subst hk2
        rw [List.take_length] at hol ⊢
        go_wp2
        go_ret2
        refine ⟨?_, hbel⟩
        have h2 : writeB l = (outB l, 0) := by unfold writeB; rw [if_neg (by simp [HC.out]), if_neg (by omega)]
        rw [h2]; rfl
  · have hc0 : ((checkB l : Int) != 0) = true := by rw [bne_iff_ne]; omega
    go_enter Try.func20, Try.ntmps20
    go_wp2_with fail
    refine (check_any _ l _ HV.out).mono ?_
    rintro e w1 ⟨rfl, hb1⟩
    rw [← HBe.out] at hb1
    go_wp2
    go_ret2
    refine ⟨?_, hb1⟩
    have h2 : writeB l = ([], checkB l) := by unfold writeB; rw [if_pos hc]
    rw [h2]; rfl

end Go.Proofs.Ytophpbihcfdkcaa
