/- The walks of the wire's numbers: Number, ReadNumber, and the reference's NumberOf, NumberAt. -/
import Derived.Test.YtgmbgbalcndohaaK
namespace Go.Proofs.Ytgmbgbalcndohaa
open Go.RowKit P

/-- What ReadNumber answers. -/
def rdEnd (l : List UInt8) (e : Ending) : Prop := e = .returned (.tuple #[.int .u64 (rd l).1, .int .i64 (rd l).2.1, .int .i64 (rd l).2.2])
theorem rdEnd_mk {l : List UInt8} {a b c : Nat} {x y z : Int} (h : rd l = (a, b, c)) (h1 : x = a) (h2 : y = b) (h3 : z = c) : rdEnd l (.returned (.tuple #[.int .u64 x, .int .i64 y, .int .i64 z])) := by
  unfold rdEnd; rw [h, h1, h2, h3]

theorem getB (s : ByteArray) (k : Nat) (h : k < s.size) : s.data.toList[k]'(by rw [size_bs]; exact h) = s[k] := by simp; rfl

set_option maxRecDepth 100000 in
set_option maxHeartbeats 400000 in
theorem readNumber_any (s : ByteArray) (w : World) (hs : s.size ≤ maxLen) :
    Calls Try.prog 46 #[.string s] w fun e w' => rdEnd s.data.toList e ∧ w = w' := by
  unfold maxLen at hs
  go_enter Try.func46, Try.ntmps46
  go_wp2
  go_loop [5, 9] (fun n i => ∃ k acc : Nat, k ≤ s.size ∧ i = .int .i64 k ∧ n = .int .u64 acc ∧ Hid (acc = hv (s.data.toList.take k)) ∧ k ≤ 9 ∧ Hid (∀ j (h : j < s.data.toList.length), j < k → 128 ≤ s.data.toList[j].toNat)) (fun _ i => s.size - (intOf i).toNat)
  case atStart => exact ⟨0, 0, by omega, rfl, rfl, by simp [Hid, hv], by omega, fun j _ h => by omega⟩
  case round =>
    obtain ⟨k, acc, hk, rfl, rfl, ha, hk9, hall⟩ := hrel
    by_cases hlt : k < s.size
    · have hl : k < s.data.toList.length := by rw [size_bs]; exact hlt
      have hc := s[k].toNat_lt
      have HG : Hid (s.data.toList[k] = s[k]) := getB s k hlt
      have hA : acc < 128 ^ k := by
        have := hv_lt (s.data.toList.take k)
        rw [List.length_take, Nat.min_eq_left (by omega)] at this
        rw [ha.out]; exact this
      have HA : Hid _ := Lib.hid hA
      clear hA
      have HN : Hid (acc + s[k].toNat % 128 * 128 ^ k = hv (s.data.toList.take (k + 1))) := by
        show _ = _
        rw [List.take_succ_eq_append_getElem hl, hv_append, HG.out, ha.out]
        simp only [hv, List.length_take, Nat.min_eq_left (show k ≤ s.data.toList.length by omega), Nat.mul_zero, Nat.add_zero]
        rw [Nat.mul_comm]
      by_cases h9 : k = 9
      · subst h9
        by_cases hov : 1 < s[9].toNat
        · have hov2 : (1 : Int) < (s[9].toNat : Int) := by omega
          go_wp2
          go_ret3
          exact ⟨rdEnd_mk (rd_over _ hl hall.out (by rw [HG.out]; exact hov)) rfl rfl rfl, rfl⟩
        · have hov2 : (s[9].toNat : Int) ≤ 1 := by omega
          have h128 : (s[9].toNat : Int) < 128 := by omega
          have HO : Hid _ := Lib.hid (or7 9 acc s[9].toNat HA.out hc (by omega) (fun _ => by omega))
          go_wp2
          go_ret3
          refine ⟨rdEnd_mk (rd_ok _ 9 (by omega) hl hall.out (by rw [HG.out]; omega) (fun _ => by rw [HG.out]; omega)) ?_ rfl rfl, rfl⟩
          rw [← HN.out, ← HO.out]; rfl
      · have h9b : ((k : Int) == 9) = false := by simp; omega
        have h10b : ((k : Int) == 10) = false := by simp; omega
        have HO : Hid _ := Lib.hid (or7 k acc s[k].toNat HA.out hc hk9 (fun h => by omega))
        by_cases hm : s[k].toNat < 128
        · have h128 : (s[k].toNat : Int) < 128 := by omega
          go_wp2
          go_ret3
          refine ⟨rdEnd_mk (rd_ok _ k hk9 hl hall.out (by rw [HG.out]; omega) (fun h => by omega)) ?_ (by simp) rfl, rfl⟩
          rw [← HN.out, ← HO.out]
        · have h128 : (128 : Int) ≤ (s[k].toNat : Int) := by omega
          go_wp2
          go_round
          case rel =>
            refine ⟨k + 1, acc + s[k].toNat % 128 * 128 ^ k, by omega, by go_num, by rw [HO.out], HN, by omega, ?_⟩
            intro j hj hjk
            by_cases e : j = k
            · subst e; rw [HG.out]; omega
            · exact hall.out j hj (by omega)
          case measure => simp [intOf]; omega
    · go_wp2
      go_ret3
      exact ⟨rdEnd_mk (rd_end _ k hk9 (by rw [size_bs]; omega) hall.out) rfl rfl rfl, rfl⟩

/-- The element type of []byte. -/
theorem Try.infoB : (Try.prog.info? 5).map (fun i => (i.zero, i.size, i.bytes)) = some (some (.int .u8 0), 1, 1) := by kernel_rfl

def U64 (n : Int) : Prop := 0 ≤ n ∧ n < 18446744073709551616

theorem own_snoc {w : World} {B e : Nat} {v : Value} {pre : List UInt8} {x : Int} {c : UInt8} (h : w.ownsRow B e 1 v (pre.length + 1) (Lib.byteCells pre ++ [Value.int .u8 x])) (hx : x = (c.toNat : Int)) :
    w.ownsRow B e 1 v (pre ++ [c]).length (Lib.byteCells (pre ++ [c])) := by
  subst hx
  rw [Lib.byteCells_append, List.length_append]; exact h

set_option maxRecDepth 100000 in
set_option maxHeartbeats 400000 in
theorem number_any (n : Int) (hn : U64 n) (w : World) :
    Calls Try.prog 32 #[.int .u64 n] w fun e w' => e = .returned (.string (mkB (num n.toNat))) ∧ Below w.heap.size w w' := by
  have HU := Lib.hid hn
  obtain ⟨i0, hi, hz0, hz1, hz2⟩ := info_parts Try.infoB
  obtain ⟨B, hB⟩ : ∃ B, B = w.heap.size := ⟨_, rfl⟩
  have HB := Lib.hid hB
  have hBw : B ≤ w.heap.size := by omega
  rw [← hB]; clear hB hn
  go_enter Try.func32, Try.ntmps32
  go_wp2
  go_loopw [0, 3] (fun m b wr => ∃ (k : Int) (pre : List UInt8), m = .int .u64 k ∧ Hid (U64 k) ∧ wr.ownsRow B 5 1 b pre.length (Lib.byteCells pre) ∧ Hid (num n.toNat = pre ++ num k.toNat) ∧ Below B w wr) (fun m _ _ => (intOf m).toNat)
  case atStart => exact ⟨n, [], rfl, HU, World.ownsRow_nil _ _ _ _, rfl, Below.refl _ _⟩
  case round =>
    obtain ⟨k, pre, rfl, hk, hown, hnum, hbel⟩ := hrel
    have hpl : pre.length ≤ 9 := by
      have h1 := congrArg List.length hnum.out
      have h2 := num_len10 (n := n.toNat) (by have := HU.out.2; have := HU.out.1; omega)
      have h3 : 0 < (num k.toNat).length := List.length_pos_iff.2 (num_ne _)
      rw [List.length_append] at h1; omega
    have h0 : 0 ≤ k := hk.out.1
    have hBr : B ≤ wr.heap.size := by have := hbel.size; omega
    by_cases hbig : 127 < k
    · go_wp2_with (at_builtin; refine wpList_append_own _ rfl _ _ 39 rfl B 5 i0 (.int .u8 0) 1 1 Try.underlying39 hi hz0 hz1 hz2 rfl (by decide) _ _ _ rfl (hown.alloc _) ⟨wr.heap.size, 0, none⟩ 1 1 [.int .u8 (bits BinOp.or IntKind.u8 (IntKind.u8.wrap k) 128)] rfl rfl (cell_one_new _ _ _) (one_cell _) (by unfold maxLen; omega) (by omega) (by simp; omega) ?_)
      intro v' w1 hown' hgrow _
      have hown2 := own_snoc hown' (or128 k h0)
      have hbel2 : Below B w w1 := (hbel.alloc hBr _).grown hgrow (by simp; omega) (fun j hj => (hown.lt j hj).1)
      clear hown' hgrow hown
      go_wp2
      go_roundw
      case rel =>
        refine ⟨k / 128, pre ++ [bt (k.toNat % 128 + 128)], by go_num, ?_, hown2, ?_, hbel2⟩
        · have := hk.out; exact ⟨by have := this.1; omega, by have := this.2; omega⟩
        · show _ = _
          rw [hnum.out, num_big (by omega) (by have := hk.out.2; omega), List.append_assoc]
          rw [show (k / 128).toNat = k.toNat / 128 by omega]; rfl
      case measure => simp [intOf]; omega
    · have hle : k ≤ 127 := by omega
      go_wp2_with (at_builtin; refine wpList_append_own _ rfl _ _ 39 rfl B 5 i0 (.int .u8 0) 1 1 Try.underlying39 hi hz0 hz1 hz2 rfl (by decide) _ _ _ rfl (hown.alloc _) ⟨wr.heap.size, 0, none⟩ 1 1 [.int .u8 k] rfl rfl (cell_one_new _ _ _) (one_cell _) (by unfold maxLen; omega) (by omega) (by simp; omega) ?_)
      intro v' w1 hown' hgrow _
      have hown2 := own_snoc (c := bt k.toNat) hown' (by rw [bt_toNat (by omega)]; omega)
      have hbel2 : Below B w w1 := (hbel.alloc hBr _).grown hgrow (by simp; omega) (fun j hj => (hown.lt j hj).1)
      have kc := conv_own (dst := 9) hown2 Try.underlying39 Try.underlying5 Try.underlying9
      clear hown' hgrow hown hown2
      go_wp2
      go_ret
      refine ⟨ret_str ?_, hbel2⟩
      rw [hnum.out, num_small (by omega)]

end Go.Proofs.Ytgmbgbalcndohaa
