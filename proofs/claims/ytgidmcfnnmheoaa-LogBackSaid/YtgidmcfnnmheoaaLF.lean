/- The program's Append, walked over worlds, with the kit's contracts for the Builder. -/
import Derived.Test.YtgidmcfnnmheoaaLE
import Derived.WalkKit
import Derived.Lib.Hide
import Derived.BigCall
namespace Go.Proofs.Ytgidmcfnnmheoaa
open Go.RowKit P
set_option linter.unusedSimpArgs false
set_option linter.unusedVariables false

theorem isB_below {T e : TypeId} {B b : Nat} {bs : List Value} {w w' : World} (h : Lib.IsBuilder T e B b bs w) (hb : Below w.heap.size w w') : Lib.IsBuilder T e B b bs w' := by
  have key : ∀ p, Lib.BuilderAt T e B b p bs w → Lib.BuilderAt T e B b p bs w' := by
    rintro p ⟨h1, v, h2, h3, h4⟩
    refine ⟨h1, v, ?_, ?_, h4⟩
    · rw [hb.block b (Array.getElem?_eq_some_iff.1 h2).1]; exact h2
    · refine ⟨h3.1, ?_⟩
      rcases h3.2 with hn | ⟨g, cap, cur, rfl, k1, k2, rest⟩
      · exact .inl hn
      · exact .inr ⟨g, cap, cur, rfl, k1, by rw [hb.block g (Array.getElem?_eq_some_iff.1 k2).1]; exact k2, rest⟩
  rcases h with h | h
  · exact .inl (key _ h)
  · exact .inr (key _ h)
theorem below_le {B B' : Nat} {w w' : World} (h : Below B' w w') (hB : B ≤ B') : Below B w w' := ⟨h.os, h.tape, h.output, h.size, fun k hk => h.block k (by omega)⟩
theorem write_b (B : Nat) (g s : List UInt8) (w : World) (h : Lib.IsBuilder 47 5 B B (Lib.byteCells g) w) (hlen : g.length + s.length ≤ 140737488355328) (hBw : B ≤ w.heap.size) :
    Calls Try.prog 20 #[.pointer (some ⟨B, 0, none⟩), .string (mkB s)] w fun e w' => e = .returned (.tuple #[.int .i64 s.length, .nilIface]) ∧ (Lib.IsBuilder 47 5 B B (Lib.byteCells (g ++ s)) w' ∧ Below B w w') :=
  (Any.Builder_WriteString Try.lays166 Try.Builder_Extra_105 B B (Lib.byteCells g) (mkB s) w h (by rw [Lib.byteCells_length]; exact hlen) hBw).mono fun e w' k => by
    obtain ⟨k1, k2, k3⟩ := k
    refine ⟨k1, .inr ?_, k3⟩
    rw [Lib.byteCells_append, show Lib.byteCells s = Lib.strCells (mkB s) from (Lib.strCells_eq (mkB s)).symm]
    exact k2
theorem len_b (B : Nat) (g : List UInt8) (w : World) (h : Lib.IsBuilder 47 5 B B (Lib.byteCells g) w) :
    Calls Try.prog 22 #[.pointer (some ⟨B, 0, none⟩)] w fun e w' => e = .returned (.int .i64 g.length) ∧ w' = w :=
  (Any.Builder_Len Try.lays170 B B (Lib.byteCells g) w h).mono fun e w' k => by rw [Lib.byteCells_length] at k; exact k
theorem str_b (B : Nat) (g : List UInt8) (w : World) (h : Lib.IsBuilder 47 5 B B (Lib.byteCells g) w) (hBw : B ≤ w.heap.size) :
    Calls Try.prog 25 #[.pointer (some ⟨B, 0, none⟩)] w fun e w' => e = .returned (.string (mkB g)) ∧ Below B w w' :=
  Any.Builder_String_any Try.lays169 Try.Builder_Extra_105 B B g w h hBw
theorem mkB_add (a b : List UInt8) : mkB a ++ mkB b = mkB (a ++ b) := (mkB_append a b).symm
theorem one_v {w : World} {x : Value} : ∀ (i : Nat) (u : AV) (y : Value), [AV.v x][i]? = some u → [x][i]? = some y → Rel (allW w) u y ∧ own1 (some u) = none
  | 0, u, y, hu, hy => by simp at hu hy; subst hu hy; exact ⟨.v _, rfl⟩
  | n + 1, u, y, hu, hy => by simp at hu
theorem two_v {w : World} {x x' : Value} : ∀ (i : Nat) (u : AV) (y : Value), [AV.v x, AV.v x'][i]? = some u → [x, x'][i]? = some y → Rel (allW w) u y ∧ own1 (some u) = none
  | 0, u, y, hu, hy => by simp at hu hy; subst hu hy; exact ⟨.v _, rfl⟩
  | 1, u, y, hu, hy => by simp at hu hy; subst hu hy; exact ⟨.v _, rfl⟩
  | n + 2, u, y, hu, hy => by simp at hu
theorem padding_w (n : Nat) (w : World) (hn : n ≤ 140737488355328) : Calls Try.prog 21 #[.int .i64 n] w fun e w' => e = .returned (.string (mkB (zerosB (padN n)))) ∧ Below w.heap.size w w' :=
  calls_of_acalls (vs := [.int .i64 n]) (padding_a n hn) rfl one_v
theorem left_w (n : Nat) (w : World) : Calls Try.prog 23 #[.int .i64 n] w fun e w' => e = .returned (.int .i64 (128 - n % 128 : Nat)) ∧ Below w.heap.size w w' :=
  calls_of_acalls (vs := [.int .i64 n]) (left_a n) rfl one_v
theorem part_w (k : Nat) (s : List UInt8) (w : World) (hk : k < 256) (hs : s.length ≤ 140737488355328) : Calls Try.prog 24 #[.int .u8 k, .string (mkB s)] w fun e w' => e = .returned (.string (mkB (partB k s))) ∧ Below w.heap.size w w' :=
  calls_of_acalls (vs := [.int .u8 k, .string (mkB s)]) (part_a k s hk hs) rfl two_v
theorem left_i (n : Int) (m : Nat) (h : n = m) (w : World) : Calls Try.prog 23 #[.int .i64 n] w fun e w' => e = .returned (.int .i64 (128 - m % 128 : Nat)) ∧ Below w.heap.size w w' := by
  subst h
  exact left_w m w
theorem ext_take (l : List UInt8) (n : Nat) : (mkB l).extract 0 n = mkB (l.take n) := by
  apply ByteArray.ext
  simp [mkB, ByteArray.data_extract]
theorem ext_drop (l : List UInt8) (n : Nat) : (mkB l).extract n l.length = mkB (l.drop n) := by
  apply ByteArray.ext
  simp [mkB, ByteArray.data_extract]
  exact List.take_of_length_le (by simp)
theorem rnd_end (g r : List UInt8) (f : Bool) : r.drop (rndN g r) = [] ∨ (rndL g r f).length % 128 = 0 := by
  by_cases h : rndN g r = r.length
  · left; rw [h]; exact List.drop_length ..
  · right
    have h1 := padN_mod g.length
    have h2 : rndN g r = 121 - (g.length + padN g.length) % 128 := by unfold rndN at h ⊢; omega
    rw [rndL_length]
    omega
theorem part_x (k : Nat) (x : ByteArray) (s : List UInt8) (hx : x = mkB s) (w : World) (hk : k < 256) (hs : s.length ≤ 140737488355328) : Calls Try.prog 24 #[.int .u8 k, .string x] w fun e w' => e = .returned (.string (mkB (partB k s))) ∧ Below w.heap.size w w' := by
  subst hx
  exact part_w k s w hk hs
def mApp (r f : Value) : Nat := (match r with | .string s => 2 * s.size | _ => 0) + (match f with | .bool true => 3 | _ => 0)
set_option maxRecDepth 100000 in
set_option maxHeartbeats 4000000 in
theorem append_any (log rec : List UInt8) (w : World) (hl : log.length ≤ 1000000000000) :
    Calls Try.prog 11 #[.string (mkB log), .string (mkB rec)] w fun e w' => e = .returned (.tuple #[.string (mkB (appendB log rec).1), .int .i64 (appendB log rec).2]) ∧ Below w.heap.size w w' := by
  have hadd := @mkB_add
  have hnil : mkB [] = ⟨#[]⟩ := rfl
  have hsize := @size_mkB
  by_cases hbig : 20000 < rec.length
  · have hA : appendB log rec = ([], 2) := by unfold appendB; rw [if_pos hbig]
    rw [hA]
    go_enter Try.func11, Try.ntmps11
    go_wp2
    go_ret2
    exact ⟨rfl, Below.refl _ _⟩
  have hF := lgApp_len log rec
  have hA : appendB log rec = if 1000000 < (lgApp log rec).length then ([], 2) else (lgApp log rec, 0) := by unfold appendB; rw [if_neg hbig]
  have hJ := Lib.hid (lgApp_eq log rec)
  generalize lgApp log rec = F at hF hA hJ
  have h0 : Lib.IsBuilder 47 5 w.heap.size w.heap.size (Lib.byteCells []) (w.alloc (.cells #[.pointer none, .slice none 0 0] 47)) := Lib.fresh_isBuilder 47 5 w
  have b0 : Below w.heap.size w (w.alloc (.cells #[.pointer none, .slice none 0 0] 47)) := (Below.refl _ w).alloc (Nat.le_refl _) _
  have HA := Lib.hid hA
  have HF := Lib.hid hF
  clear hA hF
  go_enter Try.func11, Try.ntmps11
  go_wp2_with (go_at_call 20; refine (write_b w.heap.size [] log _ h0 (by simp; omega) b0.size).mono ?_)
  rintro e W1 ⟨rfl, h1, b1⟩
  rw [List.nil_append] at h1
  have b2 := b0.trans b1
  clear b0 b1 h0
  go_wp2
  go_loopw [1, 7] (fun r f wr => ∃ (g rr : List UInt8) (b : Bool), r = .string (mkB rr) ∧ f = .bool (!b) ∧ Hid (appJ F g rr b) ∧ rr.length ≤ rec.length ∧ (b = true → rr = [] ∨ g.length % 128 = 0) ∧ Lib.IsBuilder 47 5 w.heap.size w.heap.size (Lib.byteCells g) wr ∧ Below w.heap.size w wr) (fun r f _ => mApp r f)
  case atStart => exact ⟨log, rec, false, rfl, rfl, hJ, Nat.le_refl _, (fun h => by cases h), h1, b2⟩
  case round =>
    obtain ⟨g, rr, b, rfl, rfl, HJ, h2, h3, hI, hbel⟩ := hrel
    rcases HJ.out with ⟨rfl, rfl, rfl⟩ | hrun
    · by_cases hm : 1000000 < g.length
      · go_wp2_with (go_at_call 22; refine (len_b w.heap.size g _ hI).mono ?_; rintro e VL ⟨rfl, rfl⟩)
        go_wp2
        go_ret2
        rw [HA.out, if_pos hm]
        exact ⟨rfl, hbel⟩
      · go_wp2_with (go_at_call 22; refine (len_b w.heap.size g _ hI).mono ?_; rintro e VL ⟨rfl, rfl⟩)
        go_wp2_with (go_at_call 25; refine (str_b w.heap.size g _ hI hbel.size).mono ?_)
        rintro e V2 ⟨rfl, c2⟩
        go_wp2
        go_ret2
        rw [HA.out, if_neg hm]
        exact ⟨rfl, hbel.trans c2⟩
    · have HN := Lib.hid (appJ_next hrun)
      have hle : rndN g rr ≤ rr.length := Nat.min_le_left _ _
      have hgl := appJ_len HJ.out
      have hF := HF.out
      have hgs : g.length ≤ 2000000000000 := by omega
      clear hF hgl
      have hz := zerosB_length (padN g.length)
      have hp := padN_le g.length
      have hpm := padN_mod g.length
      have hmin : min (rr.length : Int) (((128 - (g.length + padN g.length) % 128 : Nat) : Int) - 7) = (rndN g rr : Int) := by unfold rndN; omega
      have htl : (rr.take (rndN g rr)).length = rndN g rr := by rw [List.length_take]; omega
      cases b with
      | false =>
        by_cases hlast : rndN g rr = rr.length
        · have hl1 : ((rndN g rr : Int) == (rr.length : Int)) = true := by rw [hlast]; simp
          have HK := Lib.hid (show kindB true (rndN g rr == rr.length) = 1 from by rw [hlast]; simp [kindB])
          clear hlast
          go_wp2_with (go_at_call 22; refine (len_b w.heap.size g _ hI).mono ?_; rintro e VL ⟨rfl, rfl⟩)
          go_wp2_with (go_at_call 21; refine (padding_w g.length _ (by omega)).mono ?_)
          rintro e V2 ⟨rfl, c2⟩
          have hI2 := isB_below hI c2
          have hbel2 := hbel.trans (below_le c2 hbel.size)
          go_wp2_with (go_at_call 20; refine (write_b w.heap.size g (zerosB (padN g.length)) _ hI2 (by omega) hbel2.size).mono ?_)
          rintro e V3 ⟨rfl, hI3, c3⟩
          have hbel3 := hbel2.trans c3
          go_wp2_with (go_at_call 22; refine (len_b w.heap.size (g ++ zerosB (padN g.length)) _ hI3).mono ?_; rintro e VL2 ⟨rfl, rfl⟩)
          go_wp2_with (go_at_call 23; refine (left_i (g.length + padN g.length) (g.length + padN g.length) (by omega) _).mono ?_)
          rintro e V5 ⟨rfl, c5⟩
          have hI5 := isB_below hI3 c5
          have hbel5 := hbel3.trans (below_le c5 hbel3.size)
          go_wp2_with (go_at_call 24; refine (part_x 1 _ (rr.take (rndN g rr)) (ext_take rr (rndN g rr)) _ (by omega) (by omega)).mono ?_)
          rintro e V6 ⟨rfl, c6⟩
          have hI6 := isB_below hI5 c6
          have hbel6 := hbel5.trans (below_le c6 hbel5.size)
          go_wp2_with (go_at_call 20; refine (write_b w.heap.size (g ++ zerosB (padN g.length)) (partB 1 (rr.take (rndN g rr))) _ hI6 (by rw [List.length_append, partB_length, htl]; omega) hbel6.size).mono ?_)
          rintro e V7 ⟨rfl, hI7, c7⟩
          have hbel7 := hbel6.trans c7
          go_wp2
          have hrl : g ++ zerosB (padN g.length) ++ partB 1 (rr.take (rndN g rr)) = rndL g rr true := by rw [← HK.out, List.append_assoc]; rfl
          rw [hrl] at hI7
          rw [ext_drop]
          refine ⟨⟨rndL g rr true, rr.drop (rndN g rr), true, rfl, rfl, HN, by simp; omega, fun _ => rnd_end g rr true, hI7, hbel7⟩, ?_⟩
          simp only [mApp, size_mkB, List.length_drop]
          simp
          omega
        · have hl1 : ((rndN g rr : Int) == (rr.length : Int)) = false := by simp; omega
          have HK := Lib.hid (show kindB true (rndN g rr == rr.length) = 2 from by simp [kindB, hlast])
          clear hlast
          go_wp2_with (go_at_call 22; refine (len_b w.heap.size g _ hI).mono ?_; rintro e VL ⟨rfl, rfl⟩)
          go_wp2_with (go_at_call 21; refine (padding_w g.length _ (by omega)).mono ?_)
          rintro e V2 ⟨rfl, c2⟩
          have hI2 := isB_below hI c2
          have hbel2 := hbel.trans (below_le c2 hbel.size)
          go_wp2_with (go_at_call 20; refine (write_b w.heap.size g (zerosB (padN g.length)) _ hI2 (by omega) hbel2.size).mono ?_)
          rintro e V3 ⟨rfl, hI3, c3⟩
          have hbel3 := hbel2.trans c3
          go_wp2_with (go_at_call 22; refine (len_b w.heap.size (g ++ zerosB (padN g.length)) _ hI3).mono ?_; rintro e VL2 ⟨rfl, rfl⟩)
          go_wp2_with (go_at_call 23; refine (left_i (g.length + padN g.length) (g.length + padN g.length) (by omega) _).mono ?_)
          rintro e V5 ⟨rfl, c5⟩
          have hI5 := isB_below hI3 c5
          have hbel5 := hbel3.trans (below_le c5 hbel3.size)
          go_wp2_with (go_at_call 24; refine (part_x 2 _ (rr.take (rndN g rr)) (ext_take rr (rndN g rr)) _ (by omega) (by omega)).mono ?_)
          rintro e V6 ⟨rfl, c6⟩
          have hI6 := isB_below hI5 c6
          have hbel6 := hbel5.trans (below_le c6 hbel5.size)
          go_wp2_with (go_at_call 20; refine (write_b w.heap.size (g ++ zerosB (padN g.length)) (partB 2 (rr.take (rndN g rr))) _ hI6 (by rw [List.length_append, partB_length, htl]; omega) hbel6.size).mono ?_)
          rintro e V7 ⟨rfl, hI7, c7⟩
          have hbel7 := hbel6.trans c7
          go_wp2
          have hrl : g ++ zerosB (padN g.length) ++ partB 2 (rr.take (rndN g rr)) = rndL g rr true := by rw [← HK.out, List.append_assoc]; rfl
          rw [hrl] at hI7
          rw [ext_drop]
          refine ⟨⟨rndL g rr true, rr.drop (rndN g rr), true, rfl, rfl, HN, by simp; omega, fun _ => rnd_end g rr true, hI7, hbel7⟩, ?_⟩
          simp only [mApp, size_mkB, List.length_drop]
          simp
          omega
      | true =>
        have hre : (mkB rr).toList.isEmpty = false := by
          rcases hrun.1 with h | h
          · cases h
          · rw [toList_bs, bsOf_mkB]; simpa using h
        have hn1 : 1 ≤ rndN g rr := by
          rcases hrun.1 with h | h
          · cases h
          · have h5 : rr.length ≠ 0 := fun e => h (List.length_eq_zero_iff.1 e)
            rcases h3 rfl with h4 | h4
            · exact absurd h4 h
            · have h6 : padN g.length = 0 := by unfold padN; rw [if_neg (by omega)]
              unfold rndN
              rw [h6]
              omega
        clear hrun
        by_cases hlast : rndN g rr = rr.length
        · have hl1 : ((rndN g rr : Int) == (rr.length : Int)) = true := by rw [hlast]; simp
          have HK := Lib.hid (show kindB false (rndN g rr == rr.length) = 4 from by rw [hlast]; simp [kindB])
          clear hlast
          go_wp2_with (go_at_call 22; refine (len_b w.heap.size g _ hI).mono ?_; rintro e VL ⟨rfl, rfl⟩)
          go_wp2_with (go_at_call 21; refine (padding_w g.length _ (by omega)).mono ?_)
          rintro e V2 ⟨rfl, c2⟩
          have hI2 := isB_below hI c2
          have hbel2 := hbel.trans (below_le c2 hbel.size)
          go_wp2_with (go_at_call 20; refine (write_b w.heap.size g (zerosB (padN g.length)) _ hI2 (by omega) hbel2.size).mono ?_)
          rintro e V3 ⟨rfl, hI3, c3⟩
          have hbel3 := hbel2.trans c3
          go_wp2_with (go_at_call 22; refine (len_b w.heap.size (g ++ zerosB (padN g.length)) _ hI3).mono ?_; rintro e VL2 ⟨rfl, rfl⟩)
          go_wp2_with (go_at_call 23; refine (left_i (g.length + padN g.length) (g.length + padN g.length) (by omega) _).mono ?_)
          rintro e V5 ⟨rfl, c5⟩
          have hI5 := isB_below hI3 c5
          have hbel5 := hbel3.trans (below_le c5 hbel3.size)
          go_wp2_with (go_at_call 24; refine (part_x 4 _ (rr.take (rndN g rr)) (ext_take rr (rndN g rr)) _ (by omega) (by omega)).mono ?_)
          rintro e V6 ⟨rfl, c6⟩
          have hI6 := isB_below hI5 c6
          have hbel6 := hbel5.trans (below_le c6 hbel5.size)
          go_wp2_with (go_at_call 20; refine (write_b w.heap.size (g ++ zerosB (padN g.length)) (partB 4 (rr.take (rndN g rr))) _ hI6 (by rw [List.length_append, partB_length, htl]; omega) hbel6.size).mono ?_)
          rintro e V7 ⟨rfl, hI7, c7⟩
          have hbel7 := hbel6.trans c7
          go_wp2
          have hrl : g ++ zerosB (padN g.length) ++ partB 4 (rr.take (rndN g rr)) = rndL g rr false := by rw [← HK.out, List.append_assoc]; rfl
          rw [hrl] at hI7
          rw [ext_drop]
          refine ⟨⟨rndL g rr false, rr.drop (rndN g rr), true, rfl, rfl, HN, by simp; omega, fun _ => rnd_end g rr false, hI7, hbel7⟩, ?_⟩
          simp only [mApp, size_mkB, List.length_drop]
          simp
          omega
        · have hl1 : ((rndN g rr : Int) == (rr.length : Int)) = false := by simp; omega
          have HK := Lib.hid (show kindB false (rndN g rr == rr.length) = 3 from by simp [kindB, hlast])
          clear hlast
          go_wp2_with (go_at_call 22; refine (len_b w.heap.size g _ hI).mono ?_; rintro e VL ⟨rfl, rfl⟩)
          go_wp2_with (go_at_call 21; refine (padding_w g.length _ (by omega)).mono ?_)
          rintro e V2 ⟨rfl, c2⟩
          have hI2 := isB_below hI c2
          have hbel2 := hbel.trans (below_le c2 hbel.size)
          go_wp2_with (go_at_call 20; refine (write_b w.heap.size g (zerosB (padN g.length)) _ hI2 (by omega) hbel2.size).mono ?_)
          rintro e V3 ⟨rfl, hI3, c3⟩
          have hbel3 := hbel2.trans c3
          go_wp2_with (go_at_call 22; refine (len_b w.heap.size (g ++ zerosB (padN g.length)) _ hI3).mono ?_; rintro e VL2 ⟨rfl, rfl⟩)
          go_wp2_with (go_at_call 23; refine (left_i (g.length + padN g.length) (g.length + padN g.length) (by omega) _).mono ?_)
          rintro e V5 ⟨rfl, c5⟩
          have hI5 := isB_below hI3 c5
          have hbel5 := hbel3.trans (below_le c5 hbel3.size)
          go_wp2_with (go_at_call 24; refine (part_x 3 _ (rr.take (rndN g rr)) (ext_take rr (rndN g rr)) _ (by omega) (by omega)).mono ?_)
          rintro e V6 ⟨rfl, c6⟩
          have hI6 := isB_below hI5 c6
          have hbel6 := hbel5.trans (below_le c6 hbel5.size)
          go_wp2_with (go_at_call 20; refine (write_b w.heap.size (g ++ zerosB (padN g.length)) (partB 3 (rr.take (rndN g rr))) _ hI6 (by rw [List.length_append, partB_length, htl]; omega) hbel6.size).mono ?_)
          rintro e V7 ⟨rfl, hI7, c7⟩
          have hbel7 := hbel6.trans c7
          go_wp2
          have hrl : g ++ zerosB (padN g.length) ++ partB 3 (rr.take (rndN g rr)) = rndL g rr false := by rw [← HK.out, List.append_assoc]; rfl
          rw [hrl] at hI7
          rw [ext_drop]
          refine ⟨⟨rndL g rr false, rr.drop (rndN g rr), true, rfl, rfl, HN, by simp; omega, fun _ => rnd_end g rr false, hI7, hbel7⟩, ?_⟩
          simp only [mApp, size_mkB, List.length_drop]
          simp
          omega
theorem append_a (log rec : List UInt8) (hl : log.length ≤ 1000000000000) : ACalls Try.prog 11 [.v (.string (mkB log)), .v (.string (mkB rec))] [] (fun out H => out = .ret (.tu [.v (.string (mkB (appendB log rec).1)), .v (.int .i64 (appendB log rec).2)]) ∧ H = []) :=
  acalls_of_calls' (vs := [.string (mkB log), .string (mkB rec)]) (v := .tuple #[.string (mkB (appendB log rec).1), .int .i64 (appendB log rec).2]) ⟨_, Try.func11, by kernel_rfl, rfl⟩ (fun X => by
    refine .tu _ _ rfl fun i u x hu hx => ?_
    match i, hu, hx with
    | 0, hu, hx => simp at hu hx; subst hu hx; exact .v _
    | 1, hu, hx => simp at hu hx; subst hu hx; exact .v _
    | n + 2, hu, hx => simp at hu) rfl fun w => append_any log rec w hl
end Go.Proofs.Ytgidmcfnnmheoaa
