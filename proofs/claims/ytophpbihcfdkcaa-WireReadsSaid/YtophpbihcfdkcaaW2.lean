/- The walk of the wire's sample. -/
import Derived.Test.YtophpbihcfdkcaaW1
import Derived.Test.YtophpbihcfdkcaaQ
namespace Go.Proofs.Ytophpbihcfdkcaa
open Go.RowKit P

/-- 'byte(n >> (8 * i))' -/
theorem shr8 (n : Nat) (k : Nat) (_hk : k ≤ 7) : IntKind.u8.wrap ((n : Int) / 2 ^ (8 * k)) = ((bt (n / 256 ^ k % 256)).toNat : Int) := by
  rw [bt_toNat (by omega), IntKind.wrap_u8]
  have e : (2 : Int) ^ (8 * k) = ((256 ^ k : Nat) : Int) := by
    have : (256 : Nat) ^ k = 2 ^ (8 * k) := by rw [Nat.pow_mul]
    rw [this]; simp
  rw [e]; omega

theorem own_oneW (w : World) (e : TypeId) (c : UInt8) (x : Int) (b : Nat) (hx : x = (c.toNat : Int)) (hb : b = w.heap.size) : (w.alloc (.cells #[.int .u8 x] e)).ownsRow b e 1 (.slice (some ⟨b, 0, none⟩) 1 1) [c].length (Lib.byteCells [c]) := by
  subst hx hb
  exact ⟨rfl, .inr ⟨w.heap.size, 1, #[.int .u8 c.toNat], rfl, Nat.le_refl _, heap_alloc_new w _, Nat.le_refl _, by unfold maxLen; omega, rfl, rfl⟩⟩
/-- 'string(b)' in whatever later world. -/
theorem conv_later {Pr : Program} {w : World} {base : Nat} {e src dst : TypeId} {v : Value} {l : List UInt8} (h : w.ownsRow base e 1 v l.length (Lib.byteCells l)) (hl : 0 < l.length)
    (hs : Pr.underlying src = some (.slice e)) (he : Pr.underlying e = some (.int .u8)) (hd : Pr.underlying dst = some .string) :
    ∃ g cap, v = .slice (some ⟨g, 0, none⟩) l.length cap ∧ base ≤ g ∧ g < w.heap.size ∧ ∀ c : Later w, (convert src dst (.slice (some ⟨g, 0, none⟩) l.length cap)).run Pr c.w = .ok (.string (mkB l)) c.w := by
  rcases h.2 with ⟨rfl, h0⟩ | ⟨g, cap, cur, rfl, hb, hg, _, _, _, htk⟩
  · omega
  · have hlt := (Array.getElem?_eq_some_iff.1 hg).1
    refine ⟨g, cap, rfl, hb, hlt, fun c => run_convert_bytes_back c.w src dst e ⟨g, 0, none⟩ cap l hs he hd (Lib.bytes_of_row ((c.below.block g hlt).trans hg) ?_)⟩
    simpa using htk

def smPre (k m : Nat) : List UInt8 := [9] ++ wordF k m
theorem smPre_len (k m : Nat) : (smPre k m).length = k + 1 := by simp [smPre, wordF_len]
theorem smPre_snoc (k m : Nat) : smPre (k + 1) m = smPre k m ++ [bt (m / 256 ^ k % 256)] := by simp [smPre, wordF_snoc]

set_option maxRecDepth 100000 in
set_option maxHeartbeats 1000000 in
theorem sample_any (x : Sm) (w : World) (hx : I64 x.1) (hy : U64 x.2) :
    Calls Try.prog 33 #[.agg #[.int .i64 x.1, .int .u64 x.2]] w fun e w' => e = .returned (.string (mkB (sampleB x))) ∧ Below w.heap.size w w' := by
  obtain ⟨i0, hi, hz0, hz1, hz2⟩ := info_parts Try.infoB
  obtain ⟨t, n⟩ := x
  obtain ⟨m, rfl⟩ := Int.eq_ofNat_of_zero_le hy.1
  have HX := Lib.hid hx
  have HY := Lib.hid hy
  clear hx hy
  obtain ⟨B, hB⟩ : ∃ B, B = w.heap.size := ⟨_, rfl⟩
  rw [← hB]
  have HBe := Lib.hid hB
  have hBw : B ≤ w.heap.size := by omega
  clear hB
  go_enter Try.func33, Try.ntmps33
  go_wp2
  go_loopw [3, 6] (fun b i wr => ∃ (k : Nat), k ≤ 8 ∧ i = .int .i64 k ∧ wr.ownsRow (w.heap.size + 1) 5 1 b (smPre k m).length (Lib.byteCells (smPre k m)) ∧ wr.cell? ⟨w.heap.size, 0, none⟩ = some (.int .i64 t) ∧ wr.cell? ⟨w.heap.size, 1, none⟩ = some (.int .u64 m) ∧ Below B w wr) (fun _ i _ => 8 - (intOf i).toNat)
  case atStart => exact ⟨0, by omega, rfl, own_oneW (w.alloc _) _ 9 9 _ rfl (by simp), by simp [go_sem], by simp [go_sem], by ((repeat' (first | exact Below.refl _ _ | refine Below.drew ?_ | refine Below.alloc ?_ ?_ _)) <;> (first | omega | (simp; omega)))⟩
  case round =>
    obtain ⟨k, hk, rfl, hown, c0, c1, hbel⟩ := hrel
    have hl : (smPre k m).length ≤ k + 1 := by rw [smPre_len]; exact Nat.le_refl _
    have hBr : B ≤ wr.heap.size := by have := hbel.size; omega
    have hBr2 : w.heap.size + 1 ≤ wr.heap.size := by have := World.block_lt_of_cell? _ _ c0; simp at this; omega
    by_cases hlt : k < 8
    · go_wp2_with (at_builtin; refine wpList_append_own _ rfl _ _ 39 rfl (w.heap.size + 1) 5 i0 (.int .u8 0) 1 1 Try.underlying39 hi hz0 hz1 hz2 rfl (by decide) _ _ _ rfl (hown.alloc _) ⟨wr.heap.size, 0, none⟩ 1 1 [.int .u8 (↑m / 2 ^ (8 * k) % 256)] rfl rfl (cell_one_new _ _ _) (one_cell _) (by unfold maxLen; omega) (by omega) (by simp; omega) ?_)
      intro v' w1 hown' hgrow _
      have hown2 := own_snoc (c := bt (m / 256 ^ k % 256)) hown' (by rw [← shr8 m k (by omega), IntKind.wrap_u8])
      rw [← smPre_snoc] at hown2
      have hne : u3.ownBlock ≠ some w.heap.size := fun e => by have := (hown.lt _ e).1; omega
      have d0 := hgrow.cell (a := ⟨w.heap.size, 0, none⟩) (v := .int .i64 t) (keeps_alloc _ _ _ _ c0) (fun e => hne e.symm)
      have d1 := hgrow.cell (a := ⟨w.heap.size, 1, none⟩) (v := .int .u64 m) (keeps_alloc _ _ _ _ c1) (fun e => hne e.symm)
      have hbel2 : Below B w w1 := (hbel.alloc hBr _).grown hgrow (by simp; omega) (fun j hj => by have := (hown.lt j hj).1; omega)
      clear hown' hgrow hown c0 c1 hne
      go_wp2
      go_roundw
      case rel => exact ⟨k + 1, by omega, by go_num, hown2, d0, d1, hbel2⟩
      case measure => simp [intOf]; omega
    · have hk8 : k = 8 := by omega
      subst hk8
      obtain ⟨g, cap, rfl, hg1, hg2, kc⟩ := conv_later (Pr := Try.prog) (dst := 9) hown (by rw [smPre_len]; omega) Try.underlying39 Try.underlying5 Try.underlying9
      clear hown
      have hN : ∀ n, n < 18446744073709551616 → (mkB (num n)).size ≤ 10 := fun n h => by rw [size_mkB]; exact num_len10 h
      have h16 := hN 16 (by omega)
      have hu := hN (uns t) (by unfold uns; omega)
      have hsz : (mkB (smPre 8 m)).size ≤ 9 := by rw [size_mkB]; exact hl
      have hw : IntKind.u64.wrap t = (uns t : Int) := by rw [IntKind.wrap_u64]; unfold uns; omega
      have hU : uns t < 18446744073709551616 := by unfold uns; omega
      have e0 := later_cell c0
      clear hN
      go_wp2
      refine wp_region_later (by kernel_rfl) (by kernel_rfl) ?_
      repeat (first | go_big_quiet_step ((go_at_call 15; exact Calls.later (number_any _ ⟨by omega, by omega⟩ _))) | quiet_step ((go_at_call 15; exact Calls.later (number_any _ ⟨by omega, by omega⟩ _))))
      refine wpQuiet_nil ?_
      rintro _ ⟨c, rfl⟩
      have hc := c.below
      go_wp2
      go_ret
      exact ⟨ret_str (by rw [mkB_add, mkB_add]; rfl), by ((repeat' (first | exact Below.refl _ _ | exact hbel | refine Below.drew ?_ | refine Below.alloc ?_ ?_ _ | refine Below.trans ?_ (hc.mono ?_))) <;> (first | omega | (simp; omega) | (have q0 := hbel.size; have q1 := hc.size; first | omega | (simp at q0 q1 ⊢; omega) | (simp at q0 q1; omega) | (simp; omega))))⟩
end Go.Proofs.Ytophpbihcfdkcaa
