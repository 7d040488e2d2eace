/- What the plain functions come to: the reference's UnpackRecord; records compared; what is packed is unpacked as it was. -/
import Derived.Test.YtgmbgbalcndohaaEPD
namespace Go.Proofs.Ytgmbgbalcndohaa
open Go.RowKit P
set_option linter.unusedVariables false
set_option linter.unusedSimpArgs false
section
variable (N : Nat) (x7 x8 a0 : Int) (a1 : List VRef) (a2 : List VPoint)
theorem c8_bad (m : Nat) (b0 : Int) (b1 : List VRef) (b2 : List VPoint) (c : VCursor) (h : c.Bad = true) : ref_UnpackRecord_L8 N (m + 1) x7 x8 a0 a1 a2 b0 b1 b2 c = ref_UnpackRecord_R31 N m a0 a1 a2 b0 b1 b2 c := by
  unfold ref_UnpackRecord_L8
  rw [h]
  cases decide (x8 < x7) <;> rfl
theorem r19_is (k8 : Int → Int → Int → List VRef → List VPoint → Int → List VRef → List VPoint → VCursor → Option (VRecord × Int)) (n : Nat) (b0 : Int) (b1 : List VRef) (b2 : List VPoint) (rf : Int) (ls : List VLabel) (c : VCursor) (h : b1.length ≤ 1048576) : ref_UnpackRecord_R19 N k8 n x7 x8 a0 a1 a2 b0 b1 b2 rf ls c = k8 x7 (w64 (x8 + 1)) a0 a1 a2 b0 (b1 ++ [⟨rf, ls⟩]) b2 c := by
  unfold ref_UnpackRecord_R19
  rw [appC_is 32 b1 _ (by simp; omega) (by omega), Option.bind_some]
theorem crefs_loop : ∀ (m : Nat) (s : List UInt8) (j k : Nat) (rs : List VRef), s.length + 3 < m → s.length ≤ 1048576 → rs.length + s.length ≤ 1048576 → j + k ≤ 4611686018427387904 → ∃ n' rs' c', ref_UnpackRecord_L8 N m ((j + k : Nat) : Int) (j : Int) a0 a1 a2 1 rs [] ⟨s, false⟩ = ref_UnpackRecord_R31 N n' a0 a1 a2 1 rs' [] c' ∧ match repR refR k s with
    | some (xs, t) => rs' = rs ++ xs ∧ c' = ⟨t, false⟩
    | none => c'.Bad = true
  | 0, s, j, k, rs, h, _, _, _ => by omega
  | m + 1, s, j, 0, rs, h, hs, hl, hj => by
    unfold ref_UnpackRecord_L8
    rw [nlt_nat (by omega), cond_false]
    exact ⟨m, rs, ⟨s, false⟩, rfl, by simp [repR], rfl⟩
  | m + 1, s, j, k + 1, rs, h, hs, hl, hj => by
    obtain ⟨m', rfl⟩ : ∃ m', m = m' + 1 := ⟨m - 1, by omega⟩
    unfold ref_UnpackRecord_L8
    rw [lt_nat (by omega), cond_true]
    simp only [Bool.not_false, cond_true]
    rw [show ((1 : Int) == 1) = true from rfl, cond_true]
    unfold ref_UnpackRecord_R10
    rw [show ((1 : Int) == 1) = true from rfl, cond_true, cnumber_is N s hs, Option.bind_some]
    have bad : ∀ (n : Nat) (rf : Int) (ls : List VLabel) (c : VCursor), c.Bad = true → ∃ n' rs' c', ref_UnpackRecord_R19 N (ref_UnpackRecord_L8 N (m' + 1)) n ((j + (k + 1) : Nat) : Int) (j : Int) a0 a1 a2 1 rs [] rf ls c = ref_UnpackRecord_R31 N n' a0 a1 a2 1 rs' [] c' ∧ c'.Bad = true := fun n rf ls c hc => by
      rw [r19_is N _ _ a0 a1 a2 _ n 1 rs [] rf ls c (by omega), c8_bad N _ _ a0 a1 a2 m' 1 _ [] c hc]
      exact ⟨_, _, _, rfl, hc⟩
    unfold repR
    rw [show refR s = (numR s).bind (fun p => (manyR labelR p.2).bind fun q => some (⟨(p.1 : Int), q.1⟩, q.2)) from rfl]
    unfold numB
    cases h1 : numR s with
    | none =>
      simp only
      rw [cnumber_bad N s hs, Option.bind_some]
      simp only
      rw [clabels_bad N _ _ _ a0 a1 a2 1 rs [] 0 m' _ _ [] ⟨s, true⟩ rfl]
      exact bad _ _ _ _ rfl
    | some p =>
      obtain ⟨r, t⟩ := p
      have l1 := numR_len h1
      simp only [Option.bind_some]
      rw [cnumber_is N t (by omega), Option.bind_some, manyR_eq labelR_len]
      unfold numB
      cases h2 : numR t with
      | none =>
        simp only
        rw [clabels_bad N _ _ _ a0 a1 a2 1 rs [] _ m' _ _ [] ⟨t, true⟩ rfl]
        exact bad _ _ _ _ rfl
      | some q =>
        obtain ⟨n, u⟩ := q
        have l2 := numR_len h2
        have l3 := (numR_some h2).2
        simp only [Option.bind_some]
        obtain ⟨n', ls', c', g0, g1, g2⟩ := clabels_loop N (ref_UnpackRecord_L8 N (m' + 1)) ((j + (k + 1) : Nat) : Int) (j : Int) a0 a1 a2 1 rs [] (r : Int) (m' + 1) u 0 n [] (by omega) (by omega) (by simp; omega) (by omega)
        rw [Nat.zero_add] at g1
        have g1' : ref_UnpackRecord_L14 N (ref_UnpackRecord_L8 N (m' + 1)) (m' + 1) ((j + (k + 1) : Nat) : Int) (j : Int) (n : Int) 0 a0 a1 a2 1 rs [] (r : Int) [] ⟨u, false⟩ = _ := g1
        rw [g1']
        cases h3 : repR labelR n u with
        | none =>
          rw [h3] at g2
          exact bad _ _ _ _ g2.1
        | some w =>
          obtain ⟨xs, v⟩ := w
          rw [h3] at g2
          obtain ⟨e1, e2⟩ := g2
          subst e2
          have l4 := (repR_len labelR_len h3).1
          rw [r19_is N _ _ a0 a1 a2 _ n' 1 rs [] r ls' ⟨v, false⟩ (by omega), w64_succ (by omega)]
          simp only [Option.bind_some]
          obtain ⟨n2, rs2, c2, k1, k2⟩ := crefs_loop (m' + 1) v (j + 1) k (rs ++ [⟨(r : Int), ls'⟩]) (by omega) (by omega) (by simp; omega) (by omega)
          refine ⟨n2, rs2, c2, ?_, ?_⟩
          · rw [show j + (k + 1) = (j + 1) + k by omega]
            exact k1
          · rw [List.nil_append] at e1
            subst e1
            cases hq : repR refR k v with
            | none => rw [hq] at k2; exact k2
            | some z =>
              rw [hq] at k2
              exact ⟨by rw [k2.1]; simp, k2.2⟩
theorem cbits_loop (k8 : Int → Int → Int → List VRef → List VPoint → Int → List VRef → List VPoint → VCursor → Option (VRecord × Int)) (b0 : Int) (b1 : List VRef) (b2 : List VPoint) (hb : b2.length ≤ 1048576) (rf tm : Int) (c : VCursor) (w : List UInt8) (hw : w.length ≤ 8) : ∀ (j m : Nat), j ≤ w.length → j < m → ref_UnpackRecord_L27 N k8 m x7 x8 w ((j : Int) - 1) a0 a1 a2 b0 b1 b2 ⟨rf, tm, (wv (w.drop j) : Nat)⟩ c = k8 x7 (w64 (x8 + 1)) a0 a1 a2 b0 b1 (b2 ++ [⟨rf, tm, (wv w : Nat)⟩]) c
  | j, 0, _, h => by omega
  | 0, m + 1, hj, h => by
    unfold ref_UnpackRecord_L27
    rw [show decide (((0 : Nat) : Int) - 1 ≥ 0) = false from rfl, cond_false, appC_is 24 b2 _ (by simp; omega) (by omega), Option.bind_some, List.drop_zero]
  | j + 1, m + 1, hj, h => by
    unfold ref_UnpackRecord_L27
    have hlt : j < w.length := by omega
    have e1 : (((j + 1 : Nat) : Int) - 1) = (j : Int) := by omega
    have hc := (w[j]).toNat_lt
    have hd := wv_lt (w.drop (j + 1))
    have hle : (w.drop (j + 1)).length ≤ 7 := by rw [List.length_drop]; omega
    have hp : 256 ^ (w.drop (j + 1)).length ≤ 256 ^ 7 := Nat.pow_le_pow_right (by decide) hle
    have h9 : (256 : Nat) ^ 7 = 72057594037927936 := by decide
    have hwd : wv (w.drop j) = (w[j]).toNat + 256 * wv (w.drop (j + 1)) := by
      rw [List.drop_eq_getElem_cons hlt]; rfl
    have e2 : IntKind.wrap .u64 ((IntKind.wrap .u64 (((wv (w.drop (j + 1)) : Nat) : Int) * 256)) + (IntKind.wrap .u64 (b2i w[j]))) = ((wv (w.drop j) : Nat) : Int) := by
      have w1 : IntKind.wrap .u64 (((wv (w.drop (j + 1)) : Nat) : Int) * 256) = ((wv (w.drop (j + 1)) : Nat) : Int) * 256 := wu64 (by omega) (by omega)
      have w2 : IntKind.wrap .u64 (((w[j]).toNat : Nat) : Int) = (((w[j]).toNat : Nat) : Int) := wu64 (by omega) (by omega)
      rw [show b2i w[j] = (((w[j]).toNat : Nat) : Int) from rfl, w1, w2, wu64 (by omega) (by omega), hwd]
      omega
    rw [e1, show decide ((j : Int) ≥ 0) = true from decide_eq_true (by omega), cond_true, idxC_get hlt, Option.bind_some]
    have e3 : w64 ((j : Int) - 1) = (j : Int) - 1 := w64_id (by omega) (by omega)
    rw [e2, e3]
    exact cbits_loop k8 b0 b1 b2 hb rf tm c w hw j m (by omega) (by omega)
theorem r25_is (k8 : Int → Int → Int → List VRef → List VPoint → Int → List VRef → List VPoint → VCursor → Option (VRecord × Int)) (n : Nat) (hn : 9 < n) (b0 : Int) (b1 : List VRef) (b2 : List VPoint) (hb : b2.length ≤ 1048576) (rf tm : Int) (s : List UInt8) : ref_UnpackRecord_R25 N k8 n x7 x8 a0 a1 a2 b0 b1 b2 ⟨rf, tm, 0⟩ ⟨s, false⟩ = match takeR 8 s with
    | some (w, t) => k8 x7 (w64 (x8 + 1)) a0 a1 a2 b0 b1 (b2 ++ [⟨rf, tm, (wv w : Nat)⟩]) ⟨t, false⟩
    | none => k8 x7 (w64 (x8 + 1)) a0 a1 a2 b0 b1 (b2 ++ [⟨rf, tm, 0⟩]) ⟨s, true⟩ := by
  unfold ref_UnpackRecord_R25
  rw [show (8 : Int) = ((8 : Nat) : Int) from rfl, ctake_is N 8 s, Option.bind_some]
  cases h : takeR 8 s with
  | none => exact cbits_loop N x7 x8 a0 a1 a2 k8 b0 b1 b2 hb rf tm ⟨s, true⟩ [] (by simp) 0 n (by simp) (by omega)
  | some p =>
    obtain ⟨w, t⟩ := p
    have hw := (takeR_some h).2
    simp only [hw]
    have e : w64 (((8 : Nat) : Int) - 1) = ((8 : Nat) : Int) - 1 := rfl
    have := cbits_loop N x7 x8 a0 a1 a2 k8 b0 b1 b2 hb rf tm ⟨t, false⟩ w (by omega) 8 n (by omega) (by omega)
    rw [List.drop_of_length_le (by omega)] at this
    rw [e]
    exact this
theorem r25_bad (k8 : Int → Int → Int → List VRef → List VPoint → Int → List VRef → List VPoint → VCursor → Option (VRecord × Int)) (n : Nat) (hn : 9 < n) (b0 : Int) (b1 : List VRef) (b2 : List VPoint) (hb : b2.length ≤ 1048576) (rf tm : Int) (s : List UInt8) : ref_UnpackRecord_R25 N k8 n x7 x8 a0 a1 a2 b0 b1 b2 ⟨rf, tm, 0⟩ ⟨s, true⟩ = k8 x7 (w64 (x8 + 1)) a0 a1 a2 b0 b1 (b2 ++ [⟨rf, tm, 0⟩]) ⟨s, true⟩ := by
  unfold ref_UnpackRecord_R25
  rw [ctake_bad N 8 s, Option.bind_some]
  exact cbits_loop N x7 x8 a0 a1 a2 k8 b0 b1 b2 hb rf tm ⟨s, true⟩ [] (by simp) 0 n (by simp) (by omega)
theorem unz_ref (b : Nat) (hb : b ≤ 4611686018427387904) {β : Type} (K : Int → Option β) : ((quoC .i64 (b : Int) 2).bind fun z8 => (remC (b : Int) 2).bind fun z9 => bif z9 == 1 then (quoC .i64 (b : Int) 2).bind fun z10 => K (w64 ((w64 (0 - z10)) - 1)) else K z8) = K (unz b) := by
  have hq : quoC .i64 (b : Int) 2 = some ((b / 2 : Nat) : Int) := by
    unfold quoC
    rw [if_neg (by decide)]
    refine congrArg some ?_
    rw [Int.tdiv_eq_ediv_of_nonneg (by omega), IntKind.wrap_i64]; omega
  have hr : remC (b : Int) 2 = some ((b % 2 : Nat) : Int) := by
    unfold remC
    rw [if_neg (by decide)]
    exact congrArg some (Int.tmod_eq_emod_of_nonneg (by omega))
  rw [hq, hr, Option.bind_some, Option.bind_some]
  unfold unz
  by_cases h : b % 2 = 0
  · have c : (((b % 2 : Nat) : Int) == 1) = false := by rw [h]; rfl
    rw [c, cond_false, if_pos h]
  · have h1 : b % 2 = 1 := by omega
    have c : (((b % 2 : Nat) : Int) == 1) = true := by rw [h1]; rfl
    have e1 : w64 (0 - ((b / 2 : Nat) : Int)) = 0 - ((b / 2 : Nat) : Int) := w64_id (by omega) (by omega)
    have e2 : w64 (0 - ((b / 2 : Nat) : Int) - 1) = -(((b + 1) / 2 : Nat) : Int) := by rw [w64_id (by omega) (by omega)]; omega
    rw [c, cond_true, Option.bind_some, if_neg h, e1, e2]
theorem cpoints_loop : ∀ (m : Nat) (s : List UInt8) (j k : Nat) (ps : List VPoint), s.length + 12 < m → s.length ≤ 1048576 → ps.length + s.length ≤ 1048576 → j + k ≤ 4611686018427387904 → ∃ n' ps' c', ref_UnpackRecord_L8 N m ((j + k : Nat) : Int) (j : Int) a0 a1 a2 2 [] ps ⟨s, false⟩ = ref_UnpackRecord_R31 N n' a0 a1 a2 2 [] ps' c' ∧ match repR pointR k s with
    | some (xs, t) => ps' = ps ++ xs ∧ c' = ⟨t, false⟩
    | none => c'.Bad = true
  | 0, s, j, k, rs, h, _, _, _ => by omega
  | m + 1, s, j, 0, rs, h, hs, hl, hj => by
    unfold ref_UnpackRecord_L8
    rw [nlt_nat (by omega), cond_false]
    exact ⟨m, rs, ⟨s, false⟩, rfl, by simp [repR], rfl⟩
  | m + 1, s, j, k + 1, ps, h, hs, hl, hj => by
    obtain ⟨m', rfl⟩ : ∃ m', m = m' + 1 := ⟨m - 1, by omega⟩
    unfold ref_UnpackRecord_L8
    rw [lt_nat (by omega), cond_true]
    simp only [Bool.not_false, cond_true]
    rw [show ((2 : Int) == 1) = false from rfl, cond_false, show ((2 : Int) == 2) = true from rfl, cond_true]
    unfold ref_UnpackRecord_R10
    rw [show ((2 : Int) == 1) = false from rfl, cond_false, cnumber_is N s hs, Option.bind_some]
    have bad : ∀ (ps' : List VPoint) (x : Int) (c : VCursor), c.Bad = true → ∃ n' ps2 c', ref_UnpackRecord_L8 N (m' + 1) ((j + (k + 1) : Nat) : Int) x a0 a1 a2 2 [] ps' c = ref_UnpackRecord_R31 N n' a0 a1 a2 2 [] ps2 c' ∧ c'.Bad = true := fun ps' x c hc => by
      rw [c8_bad N _ _ a0 a1 a2 m' 2 [] ps' c hc]
      exact ⟨_, _, _, rfl, hc⟩
    unfold repR
    rw [show pointR s = (numR s).bind (fun p => (numR p.2).bind fun q => (takeR 8 q.2).bind fun r => some (⟨(p.1 : Int), unz q.1, (wv r.1 : Nat)⟩, r.2)) from rfl]
    unfold numB
    cases h1 : numR s with
    | none =>
      simp only
      rw [cnumber_bad N s hs, Option.bind_some]
      have := unz_ref 0 (by omega) (fun tm => ref_UnpackRecord_R25 N (ref_UnpackRecord_L8 N (m' + 1)) (m' + 1) ((j + (k + 1) : Nat) : Int) (j : Int) a0 a1 a2 2 [] ps ⟨0, tm, 0⟩ ⟨s, true⟩)
      refine (fun ⟨a, b, c, h1, h2⟩ => ⟨a, b, c, (Eq.trans this h1), h2⟩ : (∃ n' ps2 c', _ = ref_UnpackRecord_R31 N n' a0 a1 a2 2 [] ps2 c' ∧ c'.Bad = true) → _) ?_
      rw [r25_bad N _ _ a0 a1 a2 _ _ (by omega) 2 [] ps (by omega)]
      exact bad _ _ _ rfl
    | some p =>
      obtain ⟨r, t⟩ := p
      have l1 := numR_len h1
      simp only [Option.bind_some]
      rw [cnumber_is N t (by omega), Option.bind_some]
      unfold numB
      cases h2 : numR t with
      | none =>
        simp only
        have := unz_ref 0 (by omega) (fun tm => ref_UnpackRecord_R25 N (ref_UnpackRecord_L8 N (m' + 1)) (m' + 1) ((j + (k + 1) : Nat) : Int) (j : Int) a0 a1 a2 2 [] ps ⟨(r : Int), tm, 0⟩ ⟨t, true⟩)
        refine (fun ⟨a, b, c, h1, h2⟩ => ⟨a, b, c, (Eq.trans this h1), h2⟩ : (∃ n' ps2 c', _ = ref_UnpackRecord_R31 N n' a0 a1 a2 2 [] ps2 c' ∧ c'.Bad = true) → _) ?_
        rw [r25_bad N _ _ a0 a1 a2 _ _ (by omega) 2 [] ps (by omega)]
        exact bad _ _ _ rfl
      | some q =>
        obtain ⟨n, u⟩ := q
        have l2 := numR_len h2
        have l3 := (numR_some h2).2
        simp only [Option.bind_some]
        have := unz_ref n l3 (fun tm => ref_UnpackRecord_R25 N (ref_UnpackRecord_L8 N (m' + 1)) (m' + 1) ((j + (k + 1) : Nat) : Int) (j : Int) a0 a1 a2 2 [] ps ⟨(r : Int), tm, 0⟩ ⟨u, false⟩)
        have h25 := r25_is N ((j + (k + 1) : Nat) : Int) (j : Int) a0 a1 a2 (ref_UnpackRecord_L8 N (m' + 1)) (m' + 1) (by omega) 2 [] ps (by omega) (r : Int) (unz n) u
        cases h3 : takeR 8 u with
        | none =>
          rw [h3] at h25
          obtain ⟨a, b, c, g1, g2⟩ := bad (ps ++ [⟨(r : Int), unz n, 0⟩]) (w64 ((j : Int) + 1)) ⟨u, true⟩ rfl
          exact ⟨a, b, c, (this.trans (h25.trans g1)), g2⟩
        | some w =>
          obtain ⟨xs, v⟩ := w
          rw [h3] at h25
          have l4 := congrArg List.length (takeR_some h3).1
          simp only [List.length_append] at l4
          simp only [Option.bind_some]
          obtain ⟨n2, ps2, c2, k1, k2⟩ := cpoints_loop (m' + 1) v (j + 1) k (ps ++ [⟨(r : Int), unz n, (wv xs : Nat)⟩]) (by omega) (by omega) (by simp; omega) (by omega)
          simp only at h25
          rw [w64_succ (by omega)] at h25
          refine ⟨n2, ps2, c2, (this.trans (h25.trans ?_)), ?_⟩
          · rw [show j + (k + 1) = (j + 1) + k by omega]
            exact k1
          · cases hq : repR pointR k v with
            | none => rw [hq] at k2; exact k2
            | some z =>
              rw [hq] at k2
              exact ⟨by rw [k2.1]; simp, k2.2⟩
theorem r31_bad (n : Nat) (b0 : Int) (b1 : List VRef) (b2 : List VPoint) (c : VCursor) (h : c.Bad = true) : ref_UnpackRecord_R31 N n a0 a1 a2 b0 b1 b2 c = some (zeroRec, 1) := by
  unfold ref_UnpackRecord_R31
  rw [h]; rfl
theorem r31_is (n : Nat) (b0 : Int) (b1 : List VRef) (b2 : List VPoint) (t : List UInt8) (e : Int) (he : ref_CheckRecord N ⟨b0, b1, b2⟩ = some e) : ref_UnpackRecord_R31 N n a0 a1 a2 b0 b1 b2 ⟨t, false⟩ = some (if t = [] ∧ e = 0 then (⟨b0, b1, b2⟩, 0) else (zeroRec, 1)) := by
  unfold ref_UnpackRecord_R31
  simp only [cond_false]
  by_cases h1 : t = []
  · rw [h1, show decide (([] : List UInt8) = []) = true from rfl]
    simp only [Bool.not_true, cond_false]
    rw [he, Option.bind_some]
    by_cases h2 : e = 0
    · rw [h2, if_pos (by simp)]; rfl
    · rw [bne_iff_ne.2 h2, cond_true, if_neg (fun h => h2 h.2)]; rfl
  · rw [show decide (t = []) = false from decide_eq_false h1, if_neg (fun h => h1 h.1)]; rfl
end
theorem refUnpack_ev (s : List UInt8) (hs : s.length ≤ 1048576) : Ev (fun N => ref_UnpackRecord N s) (unpackR s) := by
  cases s with
  | nil =>
    refine ⟨0, fun N _ => ?_⟩
    show ref_UnpackRecord N [] = _
    unfold ref_UnpackRecord
    rw [show (1 : Int) = ((1 : Nat) : Int) from rfl, ctake_is N 1 []]; rfl
  | cons c t =>
    have hc := c.toNat_lt
    simp only [List.length_cons] at hs
    have h1 : takeR 1 (c :: t) = some ([c], t) := by simp [takeR]
    have h2 : idxC [c] (0 : Int) = some c := rfl
    have h3 : w64 (b2i c) = (c.toNat : Int) := w64_id (by show -9223372036854775808 ≤ ((c.toNat : Nat) : Int); omega) (by show ((c.toNat : Nat) : Int) < _; omega)
    have start : ∀ N, ref_UnpackRecord N (c :: t) = ref_UnpackRecord_L8 N N (numB t).1 0 0 [] [] (c.toNat : Int) [] [] (numB t).2 := fun N => by
      unfold ref_UnpackRecord
      have e := ctake_is N 1 (c :: t)
      rw [h1] at e
      rw [show (ref_Cursor_bytes_i0 N 1 ⟨c :: t, false⟩) = some ([c], ⟨t, false⟩) from e, Option.bind_some]
      simp only [cond_false]
      rw [h2, Option.bind_some, cnumber_is N t (by omega), Option.bind_some, h3]
    by_cases k1 : c.toNat = 1
    · have hR : recordR (c :: t) = (manyR refR t).map fun q => (⟨1, q.1, []⟩, q.2) := by simp only [recordR]; rw [if_pos k1]
      cases hn : numR t with
      | none =>
        refine ⟨1, fun N hN => ?_⟩
        show ref_UnpackRecord N (c :: t) = _
        obtain ⟨m, rfl⟩ : ∃ m, N = m + 1 := ⟨N - 1, by omega⟩
        rw [start]
        unfold numB unpackR
        rw [hR, manyR_eq refR_len, hn]
        simp only
        rw [c8_bad _ _ _ _ _ _ m _ _ _ _ rfl, r31_bad _ _ _ _ _ _ _ _ _ rfl]; rfl
      | some p =>
        obtain ⟨n, u⟩ := p
        have l1 := numR_len hn
        have l2 := (numR_some hn).2
        cases hm : repR refR n u with
        | none =>
          refine ⟨1048600, fun N hN => ?_⟩
          show ref_UnpackRecord N (c :: t) = _
          rw [start]
          unfold numB unpackR
          rw [hR, manyR_eq refR_len, hn, k1]
          simp only
          obtain ⟨n', rs', c', g1, g2⟩ := crefs_loop N 0 [] [] N u 0 n [] (by omega) (by omega) (by simp; omega) (by omega)
          rw [hm] at g2
          rw [Nat.zero_add] at g1
          refine (Eq.trans g1 (r31_bad N 0 [] [] n' 1 rs' [] c' g2)).trans ?_
          simp only [Option.bind_some, hm]; rfl
        | some w =>
          obtain ⟨xs, v⟩ := w
          have hrec : recordR (c :: t) = some (⟨1, xs, []⟩, v) := by
            rw [hR, manyR_eq refR_len, hn]
            simp only [Option.bind_some, hm]; rfl
          obtain ⟨N0, h0⟩ := refCheckRec_ev ⟨1, xs, []⟩ (recordR_w (by simp; omega) hrec)
          refine ⟨max N0 1048600, fun N hN => ?_⟩
          have h0 := h0 N (by omega)
          simp only at h0
          show ref_UnpackRecord N (c :: t) = _
          rw [start]
          unfold unpackR
          rw [hrec]
          unfold numB
          rw [hn, k1]
          simp only
          obtain ⟨n', rs', c', g1, g2⟩ := crefs_loop N 0 [] [] N u 0 n [] (by omega) (by omega) (by simp; omega) (by omega)
          rw [hm] at g2
          rw [Nat.zero_add] at g1
          obtain ⟨e1, e2⟩ := g2
          rw [List.nil_append] at e1
          subst e1 e2
          exact Eq.trans g1 (r31_is N 0 [] [] n' 1 rs' [] v _ h0)
    · by_cases k2 : c.toNat = 2
      · have hR : recordR (c :: t) = (manyR pointR t).map fun q => (⟨2, [], q.1⟩, q.2) := by simp only [recordR]; rw [if_neg k1, if_pos k2]
        cases hn : numR t with
        | none =>
          refine ⟨1, fun N hN => ?_⟩
          show ref_UnpackRecord N (c :: t) = _
          obtain ⟨m, rfl⟩ : ∃ m, N = m + 1 := ⟨N - 1, by omega⟩
          rw [start]
          unfold numB unpackR
          rw [hR, manyR_eq pointR_len, hn]
          simp only
          rw [c8_bad _ _ _ _ _ _ m _ _ _ _ rfl, r31_bad _ _ _ _ _ _ _ _ _ rfl]; rfl
        | some p =>
          obtain ⟨n, u⟩ := p
          have l1 := numR_len hn
          have l2 := (numR_some hn).2
          cases hm : repR pointR n u with
          | none =>
            refine ⟨1048600, fun N hN => ?_⟩
            show ref_UnpackRecord N (c :: t) = _
            rw [start]
            unfold numB unpackR
            rw [hR, manyR_eq pointR_len, hn, k2]
            simp only
            obtain ⟨n', rs', c', g1, g2⟩ := cpoints_loop N 0 [] [] N u 0 n [] (by omega) (by omega) (by simp; omega) (by omega)
            rw [hm] at g2
            rw [Nat.zero_add] at g1
            refine (Eq.trans g1 (r31_bad N 0 [] [] n' 2 [] rs' c' g2)).trans ?_
            simp only [Option.bind_some, hm]; rfl
          | some w =>
            obtain ⟨xs, v⟩ := w
            have hrec : recordR (c :: t) = some (⟨2, [], xs⟩, v) := by
              rw [hR, manyR_eq pointR_len, hn]
              simp only [Option.bind_some, hm]; rfl
            obtain ⟨N0, h0⟩ := refCheckRec_ev ⟨2, [], xs⟩ (recordR_w (by simp; omega) hrec)
            refine ⟨max N0 1048600, fun N hN => ?_⟩
            have h0 := h0 N (by omega)
            simp only at h0
            show ref_UnpackRecord N (c :: t) = _
            rw [start]
            unfold unpackR
            rw [hrec]
            unfold numB
            rw [hn, k2]
            simp only
            obtain ⟨n', rs', c', g1, g2⟩ := cpoints_loop N 0 [] [] N u 0 n [] (by omega) (by omega) (by simp; omega) (by omega)
            rw [hm] at g2
            rw [Nat.zero_add] at g1
            obtain ⟨e1, e2⟩ := g2
            rw [List.nil_append] at e1
            subst e1 e2
            exact Eq.trans g1 (r31_is N 0 [] [] n' 2 [] rs' v _ h0)
      · have hrec : recordR (c :: t) = some (⟨(c.toNat : Int), [], []⟩, t) := by simp only [recordR]; rw [if_neg k1, if_neg k2]
        have hk : chkRec ⟨(c.toNat : Int), [], []⟩ = 7 := by
          unfold chkRec
          rw [if_pos ⟨by simp only; omega, by simp only; omega⟩]
        obtain ⟨N0, h0⟩ := refCheckRec_ev ⟨(c.toNat : Int), [], []⟩ (recordR_w (by simp; omega) hrec)
        refine ⟨max N0 1, fun N hN => ?_⟩
        have h0 := h0 N (by omega)
        simp only at h0
        show ref_UnpackRecord N (c :: t) = _
        rw [start]
        unfold unpackR
        rw [hrec]
        simp only
        rw [hk, if_neg (fun h => by cases h.2)]
        have e1 : ((c.toNat : Int) == 1) = false := by simp; omega
        have e2 : ((c.toNat : Int) == 2) = false := by simp; omega
        obtain ⟨m, rfl⟩ : ∃ m, N = m + 1 := ⟨N - 1, by omega⟩
        have key : ∀ cur : VCursor, ref_UnpackRecord_R31 (m + 1) m 0 [] [] (c.toNat : Int) [] [] cur = some (zeroRec, 1) := fun cur => by
          obtain ⟨u, b⟩ := cur
          cases b with
          | true => exact r31_bad _ _ _ _ _ _ _ _ _ rfl
          | false => rw [r31_is (m + 1) 0 [] [] m _ [] [] u _ h0, hk, if_neg (fun h => by cases h.2)]
        unfold ref_UnpackRecord_L8
        rw [e1, e2]
        cases decide ((0 : Int) < (numB t).1) <;> cases !(numB t).2.Bad <;> exact key _
end Go.Proofs.Ytgmbgbalcndohaa
