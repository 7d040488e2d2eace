/- The walks of the wire's checks: many, times, isTime, check. -/
import Derived.Test.YtophpbihcfdkcaaS
namespace Go.Proofs.Ytophpbihcfdkcaa
open Go.RowKit P
namespace P
def isT (t : Int) : Bool := decide (-9007199254740991 ≤ t) && decide (t ≤ 9007199254740991)
def longLb (x : Lb) : Bool := decide (20000 < x.1.length) || decide (20000 < x.2.length)
def manyL (s : Sr) : Bool := decide (20 < s.labels.length) || decide (200 < s.samples.length) || s.labels.any longLb
def manyB (l : List Sr) : Bool := decide (200 < l.length) || l.any manyL
def timesL (s : Sr) : Bool := s.samples.all (fun x => isT x.1)
def timesB (l : List Sr) : Bool := l.all timesL
def checkB (l : List Sr) : Nat := if manyB l then 2 else if timesB l then 0 else 3

theorem any_at {α : Type} (f : α → Bool) (l : List α) (k : Nat) (h : k < l.length) (hf : f l[k] = true) : l.any f = true :=
  List.any_eq_true.2 ⟨_, List.getElem_mem h, hf⟩
theorem any_succ {α : Type} (f : α → Bool) (l : List α) (k : Nat) (h : k < l.length) (h0 : (l.take k).any f = false) (hf : f l[k] = false) : (l.take (k + 1)).any f = false := by
  rw [List.take_succ_eq_append_getElem h, List.any_append, h0]; simp [hf]
theorem any_end {α : Type} (f : α → Bool) (l : List α) (k : Nat) (h : ¬ k < l.length) (h0 : (l.take k).any f = false) : l.any f = false := by
  rwa [List.take_of_length_le (by omega)] at h0
theorem all_at {α : Type} (f : α → Bool) (l : List α) (k : Nat) (h : k < l.length) (hf : f l[k] = false) : l.all f = false := by
  rw [Bool.eq_false_iff]; intro h2; have := List.all_eq_true.1 h2 _ (List.getElem_mem h); rw [hf] at this; cases this
theorem all_succ {α : Type} (f : α → Bool) (l : List α) (k : Nat) (h : k < l.length) (h0 : (l.take k).all f = true) (hf : f l[k] = true) : (l.take (k + 1)).all f = true := by
  rw [List.take_succ_eq_append_getElem h, List.all_append, h0]; simp [hf]
theorem all_end {α : Type} (f : α → Bool) (l : List α) (k : Nat) (h : ¬ k < l.length) (h0 : (l.take k).all f = true) : l.all f = true := by
  rwa [List.take_of_length_le (by omega)] at h0
end P

theorem ret_bool {a b : Bool} (h : a = b) : Ending.returned (.bool a) = .returned (.bool b) := by rw [h]
theorem ret_int' {k : IntKind} {a b : Int} (h : a = b) : Ending.returned (.int k a) = .returned (.int k b) := by rw [h]

set_option maxRecDepth 100000 in
set_option maxHeartbeats 1000000 in
theorem many_any (v : Value) (l : List Sr) (w : World) (hv : SeriesAt w v l) :
    Calls Try.prog 50 #[v] w fun e w' => e = .returned (.bool (manyB l)) ∧ Below w.heap.size w w' := by
  obtain ⟨B, hB⟩ : ∃ B, B = w.heap.size := ⟨_, rfl⟩
  have hBw : B ≤ w.heap.size := by omega
  have hK : ∀ wr, Below B w wr → Keeps w wr := fun wr h => Keeps.of_below h (by omega)
  rw [← hB]; clear hB
  have HK := Lib.hid hK
  clear hK
  obtain ⟨ao, cap, rfl, hn, hat⟩ := hv.at
  have HAT := Lib.hid hat
  clear hat
  have hn' := hn.le
  by_cases h200 : 200 < l.length
  · go_enter Try.func50, Try.ntmps50
    go_wp2
    go_ret
    exact ⟨ret_bool (by simp [manyB, h200]), Below.refl _ _⟩
  · have h200' : l.length ≤ 200 := by omega
    go_enter Try.func50, Try.ntmps50
    go_wp2
    go_loopw [12] (fun i wr => ∃ k : Nat, k ≤ l.length ∧ i = .int .i64 k ∧ Hid ((l.take k).any manyL = false) ∧ Below B w wr) (fun i _ => l.length - (intOf i).toNat)
    case atStart => exact ⟨0, by omega, rfl, rfl, Below.refl _ _⟩
    case round =>
      obtain ⟨k, hk, rfl, hany, hbel⟩ := hrel
      have hBr : B ≤ wr.heap.size := by have := hbel.size; omega
      by_cases hlt : k < l.length
      · obtain ⟨b, off, v1, v2, rfl, c1, c2, hl, hs⟩ := HAT.out k hlt
        replace c1 := HK.out wr hbel _ _ c1
        replace c2 := HK.out wr hbel _ _ c2
        obtain ⟨ao1, cap1, rfl, hn1, hat1⟩ := hl.at
        obtain ⟨ao2, cap2, rfl, hn2, hat2⟩ := hs.at
        have HAT1 := Lib.hid hat1
        clear hat1 hat2
        have hn1' := hn1.le
        have hn2' := hn2.le
        by_cases h20 : 20 < l[k].labels.length
        · go_wp2
          go_ret
          exact ⟨ret_bool (by rw [show manyB l = true by simp [manyB, any_at manyL l k hlt (by simp [manyL, h20])]]), hbel.alloc hBr _⟩
        · by_cases h2 : 200 < l[k].samples.length
          · go_wp2
            go_ret
            exact ⟨ret_bool (by rw [show manyB l = true by simp [manyB, any_at manyL l k hlt (by simp [manyL, h2])]]), hbel.alloc hBr _⟩
          · go_wp2
            obtain ⟨wo, rfl⟩ : ∃ wo : World, wo = wr := ⟨_, rfl⟩
            go_loopw [29] (fun i wr2 => ∃ j : Nat, j ≤ l[k].labels.length ∧ i = .int .i64 j ∧ Hid ((l[k].labels.take j).any longLb = false) ∧ Below B w wr2) (fun i _ => l[k].labels.length - (intOf i).toNat)
            case atStart => exact ⟨0, by omega, rfl, rfl, hbel.alloc hBr _⟩
            case round =>
              obtain ⟨j, hj, rfl, hany2, hbel2⟩ := hrel
              have hBr2 : B ≤ wr.heap.size := by have := hbel2.size; omega
              by_cases hlt2 : j < l[k].labels.length
              · obtain ⟨b1, off1, rfl, d1, d2, -, -⟩ := HAT1.out j hlt2
                replace d1 := HK.out wr hbel2 _ _ d1
                replace d2 := HK.out wr hbel2 _ _ d2
                by_cases hx : 20000 < (mkB l[k].labels[j].1).size
                · go_wp2
                  go_ret
                  have hx' : 20000 < l[k].labels[j].1.length := by rwa [size_mkB] at hx
                  have hf : longLb l[k].labels[j] = true := by simp [longLb, hx']
                  have hf2 : manyL l[k] = true := by simp only [manyL, any_at longLb _ j hlt2 hf, Bool.or_true]
                  exact ⟨ret_bool (by rw [show manyB l = true by simp [manyB, any_at manyL l k hlt hf2]]), hbel2.alloc hBr2 _⟩
                · by_cases hy : 20000 < (mkB l[k].labels[j].2).size
                  · go_wp2
                    go_ret
                    have hy' : 20000 < l[k].labels[j].2.length := by rwa [size_mkB] at hy
                    have hf : longLb l[k].labels[j] = true := by simp [longLb, hy']
                    have hf2 : manyL l[k] = true := by simp only [manyL, any_at longLb _ j hlt2 hf, Bool.or_true]
                    exact ⟨ret_bool (by rw [show manyB l = true by simp [manyB, any_at manyL l k hlt hf2]]), hbel2.alloc hBr2 _⟩
                  · go_wp2
                    go_roundw
                    case rel =>
                      rw [size_mkB] at hx hy
                      exact ⟨j + 1, by omega, by go_num, any_succ longLb _ j hlt2 hany2.out (by simp [longLb]; omega), hbel2.alloc hBr2 _⟩
                    case measure => simp [intOf]; omega
              · go_wp2
                go_roundw
                case rel =>
                  refine ⟨k + 1, by omega, by go_num, any_succ manyL l k hlt hany.out ?_, hbel2⟩
                  simp only [manyL, any_end longLb _ j hlt2 hany2.out]; simp; omega
                case measure => simp [intOf]; omega
      · go_wp2
        go_ret
        exact ⟨ret_bool (by simp [manyB, any_end manyL l k hlt hany.out, h200]), hbel⟩

theorem isTime_any (t : Int) (w : World) :
    Calls Try.prog 62 #[.int .i64 t] w fun e w' => e = .returned (.bool (isT t)) ∧ w = w' := by
  by_cases h1 : -9007199254740991 ≤ t <;> by_cases h2 : t ≤ 9007199254740991
  all_goals
    go_enter Try.func62, Try.ntmps62
    go_wp2
    go_ret
    exact ⟨ret_bool (by simp [isT]; omega), rfl⟩

set_option maxRecDepth 100000 in
set_option maxHeartbeats 1000000 in
theorem times_any (v : Value) (l : List Sr) (w : World) (hv : SeriesAt w v l) :
    Calls Try.prog 51 #[v] w fun e w' => e = .returned (.bool (timesB l)) ∧ Below w.heap.size w w' := by
  obtain ⟨B, hB⟩ : ∃ B, B = w.heap.size := ⟨_, rfl⟩
  have hBw : B ≤ w.heap.size := by omega
  have hK : ∀ wr, Below B w wr → Keeps w wr := fun wr h => Keeps.of_below h (by omega)
  rw [← hB]; clear hB
  have HK := Lib.hid hK
  clear hK
  obtain ⟨ao, cap, rfl, hn, hat⟩ := hv.at
  have HAT := Lib.hid hat
  clear hat
  have hn' := hn.le
  go_enter Try.func51, Try.ntmps51
  go_wp2
  go_loopw [9] (fun i wr => ∃ k : Nat, k ≤ l.length ∧ i = .int .i64 k ∧ Hid ((l.take k).all timesL = true) ∧ Below B w wr) (fun i _ => l.length - (intOf i).toNat)
  case atStart => exact ⟨0, by omega, rfl, rfl, Below.refl _ _⟩
  case round =>
    obtain ⟨k, hk, rfl, hany, hbel⟩ := hrel
    have hBr : B ≤ wr.heap.size := by have := hbel.size; omega
    by_cases hlt : k < l.length
    · obtain ⟨b, off, v1, v2, rfl, c1, c2, hl, hs⟩ := HAT.out k hlt
      replace c1 := HK.out wr hbel _ _ c1
      replace c2 := HK.out wr hbel _ _ c2
      obtain ⟨ao1, cap1, rfl, hn1, hat1⟩ := hl.at
      obtain ⟨ao2, cap2, rfl, hn2, hat2⟩ := hs.at
      have HAT2 := Lib.hid hat2
      clear hat1 hat2
      have hn1' := hn1.le
      have hn2' := hn2.le
      go_wp2
      obtain ⟨wo, rfl⟩ : ∃ wo : World, wo = wr := ⟨_, rfl⟩
      go_loopw [16] (fun i wr2 => ∃ j : Nat, j ≤ l[k].samples.length ∧ i = .int .i64 j ∧ Hid ((l[k].samples.take j).all (fun x => isT x.1) = true) ∧ Below B w wr2) (fun i _ => l[k].samples.length - (intOf i).toNat)
      case atStart => exact ⟨0, by omega, rfl, rfl, hbel.alloc hBr _⟩
      case round =>
        obtain ⟨j, hj, rfl, hany2, hbel2⟩ := hrel
        have hBr2 : B ≤ wr.heap.size := by have := hbel2.size; omega
        by_cases hlt2 : j < l[k].samples.length
        · obtain ⟨b1, off1, rfl, d1, d2, -, -⟩ := HAT2.out j hlt2
          replace d1 := HK.out wr hbel2 _ _ d1
          replace d2 := HK.out wr hbel2 _ _ d2
          cases hx : isT l[k].samples[j].1
          · go_wp2_with (go_at_call 62; refine (isTime_any _ _).mono ?_; rintro e w' ⟨rfl, rfl⟩)
            go_ret
            have hf2 : timesL l[k] = false := all_at _ _ j hlt2 hx
            exact ⟨ret_bool (by rw [show timesB l = false from all_at timesL l k hlt hf2]), hbel2.alloc hBr2 _⟩
          · go_wp2_with (go_at_call 62; refine (isTime_any _ _).mono ?_; rintro e w' ⟨rfl, rfl⟩)
            go_roundw
            case rel => exact ⟨j + 1, by omega, by go_num, all_succ _ _ j hlt2 hany2.out hx, hbel2.alloc hBr2 _⟩
            case measure => simp [intOf]; omega
        · go_wp2
          go_roundw
          case rel => exact ⟨k + 1, by omega, by go_num, all_succ timesL l k hlt hany.out (all_end _ _ j hlt2 hany2.out), hbel2⟩
          case measure => simp [intOf]; omega
    · go_wp2
      go_ret
      exact ⟨ret_bool (by simp [timesB, all_end timesL l k hlt hany.out]), hbel⟩

set_option maxRecDepth 100000 in
set_option maxHeartbeats 1000000 in
theorem check_any (v : Value) (l : List Sr) (w : World) (hv : SeriesAt w v l) :
    Calls Try.prog 31 #[v] w fun e w' => e = .returned (.int .i64 (checkB l)) ∧ Below w.heap.size w w' := by
  cases hm : manyB l
  · cases ht : timesB l
    all_goals
      go_enter Try.func31, Try.ntmps31
      go_wp2_with fail
      refine (many_any v l _ hv).mono ?_
      rintro e w1 ⟨rfl, hb1⟩
      go_wp2_with fail
      refine (times_any v l _ (hv.keeps (Keeps.of_below hb1 (Nat.le_refl _)))).mono ?_
      rintro e w2 ⟨rfl, hb2⟩
      go_wp2_with fail
      go_ret
      exact ⟨ret_int' (by simp [checkB, hm, ht]), hb1.trans (hb2.mono hb1.size)⟩
  · go_enter Try.func31, Try.ntmps31
    go_wp2_with fail
    refine (many_any v l _ hv).mono ?_
    rintro e w1 ⟨rfl, hb1⟩
    go_wp2_with fail
    go_ret
    exact ⟨ret_int' (by simp [checkB, hm]), hb1⟩

end Go.Proofs.Ytophpbihcfdkcaa
