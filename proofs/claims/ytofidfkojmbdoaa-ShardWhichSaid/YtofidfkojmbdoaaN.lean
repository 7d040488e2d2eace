-- slim: written by gen/slim.py from XN.lean.tpl
/- The walks of the wire's numbers: Number, ReadNumber, and the reference's NumberOf, NumberAt. -/
import Derived.Test.YtofidfkojmbdoaaK
namespace Go.Proofs.Ytofidfkojmbdoaa
open Go.RowKit P

/-- The element type of []byte. -/
theorem Try.infoB : (Try.prog.info? 5).map (fun i => (i.zero, i.size, i.bytes)) = some (some (.int .u8 0), 1, 1) := by kernel_rfl

def U64 (n : Int) : Prop := 0 ≤ n ∧ n < 18446744073709551616

theorem own_snoc {w : World} {B e : Nat} {v : Value} {pre : List UInt8} {x : Int} {c : UInt8} (h : w.ownsRow B e 1 v (pre.length + 1) (Lib.byteCells pre ++ [Value.int .u8 x])) (hx : x = (c.toNat : Int)) :
    w.ownsRow B e 1 v (pre ++ [c]).length (Lib.byteCells (pre ++ [c])) := by
  subst hx
  rw [Lib.byteCells_append, List.length_append]; exact h

set_option maxRecDepth 100000 in
set_option maxHeartbeats 400000 in
theorem number_any (n : Int) (hn : U64 n) (w : World) :
    Calls Try.prog 76 #[.int .u64 n] w fun e w' => e = .returned (.string (mkB (num n.toNat))) ∧ Below w.heap.size w w' := by
  have HU := Lib.hid hn
  obtain ⟨i0, hi, hz0, hz1, hz2⟩ := info_parts Try.infoB
  obtain ⟨B, hB⟩ : ∃ B, B = w.heap.size := ⟨_, rfl⟩
  have HB := Lib.hid hB
  have hBw : B ≤ w.heap.size := by omega
  rw [← hB]; clear hB hn
  go_enter Try.func76, Try.ntmps76
  go_wp2
  go_loopw [0, 3] (fun m b wr => ∃ (k : Int) (pre : List UInt8), m = .int .u64 k ∧ Hid (U64 k) ∧ wr.ownsRow B 5 1 b pre.length (Lib.byteCells pre) ∧ Hid (num n.toNat = pre ++ num k.toNat) ∧ Below B w wr) (fun m _ _ => (intOf m).toNat)
  case atStart => exact ⟨n, [], rfl, HU, World.ownsRow_nil _ _ _ _, rfl, Below.refl _ _⟩
  case round =>
    obtain ⟨k, pre, rfl, hk, hown, hnum, hbel⟩ := hrel
    have hpl : pre.length ≤ 9 := by
      have h1 := congrArg List.length hnum.out
      have h2 := num_len10 (n := n.toNat) (by have := HU.out.2; have := HU.out.1; omega)
      have h3 : 0 < (num k.toNat).length := List.length_pos_iff.2 (num_ne _)
      rw [List.length_append] at h1; omega
    have h0 : 0 ≤ k := hk.out.1
    have hBr : B ≤ wr.heap.size := by have := hbel.size; omega
    by_cases hbig : 127 < k
    · go_wp2_with (at_builtin; refine wpList_append_own _ rfl _ _ 72 rfl B 5 i0 (.int .u8 0) 1 1 Try.underlying72 hi hz0 hz1 hz2 rfl (by decide) _ _ _ rfl (hown.alloc _) ⟨wr.heap.size, 0, none⟩ 1 1 [.int .u8 (bits BinOp.or IntKind.u8 (IntKind.u8.wrap k) 128)] rfl rfl (cell_one_new _ _ _) (one_cell _) (by unfold maxLen; omega) (by omega) (by simp; omega) ?_)
      intro v' w1 hown' hgrow _
      have hown2 := own_snoc hown' (or128 k h0)
      have hbel2 : Below B w w1 := (hbel.alloc hBr _).grown hgrow (by simp; omega) (fun j hj => (hown.lt j hj).1)
      clear hown' hgrow hown
      go_wp2
      go_roundw
      case rel =>
        refine ⟨k / 128, pre ++ [bt (k.toNat % 128 + 128)], by go_num, ?_, hown2, ?_, hbel2⟩
        · have := hk.out; exact ⟨by have := this.1; omega, by have := this.2; omega⟩
        · show _ = _
          rw [hnum.out, num_big (by omega) (by have := hk.out.2; omega), List.append_assoc]
          rw [show (k / 128).toNat = k.toNat / 128 by omega]; rfl
      case measure => simp [intOf]; omega
    · have hle : k ≤ 127 := by omega
      go_wp2_with (at_builtin; refine wpList_append_own _ rfl _ _ 72 rfl B 5 i0 (.int .u8 0) 1 1 Try.underlying72 hi hz0 hz1 hz2 rfl (by decide) _ _ _ rfl (hown.alloc _) ⟨wr.heap.size, 0, none⟩ 1 1 [.int .u8 k] rfl rfl (cell_one_new _ _ _) (one_cell _) (by unfold maxLen; omega) (by omega) (by simp; omega) ?_)
      intro v' w1 hown' hgrow _
      have hown2 := own_snoc (c := bt k.toNat) hown' (by rw [bt_toNat (by omega)]; omega)
      have hbel2 : Below B w w1 := (hbel.alloc hBr _).grown hgrow (by simp; omega) (fun j hj => (hown.lt j hj).1)
      have kc := conv_own (dst := 9) hown2 Try.underlying72 Try.underlying5 Try.underlying9
      clear hown' hgrow hown hown2
      go_wp2
      go_ret
      refine ⟨ret_str ?_, hbel2⟩
      rw [hnum.out, num_small (by omega)]

end Go.Proofs.Ytofidfkojmbdoaa
