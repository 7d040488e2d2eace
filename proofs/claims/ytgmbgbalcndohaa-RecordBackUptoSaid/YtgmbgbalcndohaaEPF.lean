-- slim: written by gen/slim.py from XEPF.r.lean.tpl
/- What the plain functions come to: what is packed is unpacked as it was, and back; records that are the same. -/
import Derived.Test.YtgmbgbalcndohaaEPE
import Derived.Test.YtgmbgbalcndohaaFR1p
namespace Go.Proofs.Ytgmbgbalcndohaa
open Go.RowKit P
set_option linter.unusedVariables false
set_option linter.unusedSimpArgs false
/-! ### The same -/
theorem sameL_loop (N : Nat) : ∀ (r p : List VLabel) (n : Nat), (p ++ r).length < 140737488355328 → r.length < n → ref_SameLabels_L4 N n (p ++ r) (p ++ r) (p.length : Int) = some true
  | r, p, 0, _, h => by omega
  | [], p, n + 1, hs, h => by
    unfold ref_SameLabels_L4
    rw [lt_end]; rfl
  | z :: r, p, n + 1, hs, h => by
    have ih := sameL_loop N r (p ++ [z]) n (by rw [← cat_next]; exact hs) (by simp only [List.length_cons] at h; omega)
    rw [← cat_next] at ih
    have hb : (beqS z.Name z.Name && (beqS z.Value z.Value && true)) = true := by simp [beqS]
    unfold ref_SameLabels_L4
    rw [lt_cat, cond_true, idxC_cat, Option.bind_some, Option.bind_some, hb, w64_next p z (by simp at hs; omega)]
    exact ih
theorem ne_self (a : Int) : (a != a) = false := by simp
theorem sameL_ev (l : List VLabel) (hl : WLab l) : Ev (fun N => ref_SameLabels N l l) true := ⟨l.length + 1, fun N hN => by
  show ref_SameLabels N l l = _
  unfold ref_SameLabels
  have := sameL_loop N l [] N (by simpa using hl.1) hN
  rw [ne_self, cond_false]
  exact this⟩
theorem ev_allB {β : Type} {f : Nat → β → Option Bool} {g : β → Bool} : ∀ (l : List β), (∀ z ∈ l, Ev (fun N => f N z) (g z)) → ∃ N0, ∀ N, N0 ≤ N → ∀ z ∈ l, f N z = some (g z)
  | [], _ => ⟨0, fun N _ z hz => by cases hz⟩
  | z :: l, h => by
    obtain ⟨N1, h1⟩ := h z (by simp)
    obtain ⟨N2, h2⟩ := ev_allB l fun y hy => h y (by simp [hy])
    refine ⟨max N1 N2, fun N hN y hy => ?_⟩
    rcases List.mem_cons.1 hy with rfl | hy
    · exact h1 N (by omega)
    · exact h2 N (by omega) y hy
theorem sameR_loop (N : Nat) : ∀ (r p : List VRef) (n : Nat), (p ++ r).length < 140737488355328 → (∀ x ∈ r, ref_SameLabels N x.Labels x.Labels = some true) → r.length < n → ref_SameRefs_L4 N n (p ++ r) (p ++ r) (p.length : Int) = some true
  | r, p, 0, _, _, h => by omega
  | [], p, n + 1, hs, hw, h => by
    unfold ref_SameRefs_L4
    rw [lt_end]; rfl
  | z :: r, p, n + 1, hs, hw, h => by
    have ih := sameR_loop N r (p ++ [z]) n (by rw [← cat_next]; exact hs) (fun y hy => hw y (List.mem_cons_of_mem _ hy)) (by simp only [List.length_cons] at h; omega)
    rw [← cat_next] at ih
    unfold ref_SameRefs_L4
    rw [lt_cat, cond_true, idxC_cat, Option.bind_some, Option.bind_some, ne_self, cond_false, Option.bind_some, Option.bind_some, hw z List.mem_cons_self, Option.bind_some]
    rw [w64_next p z (by simp at hs; omega)]
    exact ih
theorem sameP_loop (N : Nat) (b : VRecord) : ∀ (r p : List VPoint) (n : Nat), b.Points = p ++ r → (p ++ r).length < 140737488355328 → r.length < n → ref_SameRecord_L4 N n (p.length : Int) b b = some true
  | r, p, 0, _, _, h => by omega
  | [], p, n + 1, he, hs, h => by
    unfold ref_SameRecord_L4
    rw [he, lt_end]; rfl
  | z :: r, p, n + 1, he, hs, h => by
    have ih := sameP_loop N b r (p ++ [z]) n (by rw [he, ← cat_next]) (by rw [← cat_next]; exact hs) (by simp only [List.length_cons] at h; omega)
    have hb : (beqI z.Ref z.Ref && (beqI z.Time z.Time && (beqI z.Bits z.Bits && true))) = true := by simp [beqI]
    unfold ref_SameRecord_L4
    rw [he, lt_cat, cond_true, idxC_cat, Option.bind_some, Option.bind_some, hb, w64_next p z (by simp at hs; omega)]
    exact ih
theorem same_ev (r : VRecord) (hw : WRec r) : Ev (fun N => ref_SameRecord N r r) true := by
  obtain ⟨N0, h0⟩ := ev_allB (f := fun N (x : VRef) => ref_SameLabels N x.Labels x.Labels) (g := fun _ => true) r.Refs fun z hz => sameL_ev z.Labels (hw.1.2 z hz)
  refine ⟨max N0 (r.Refs.length + r.Points.length + 1), fun N hN => ?_⟩
  have h1 := sameR_loop N r.Refs [] N (by simpa using hw.1.1) (h0 N (by omega)) (by omega)
  have h2 := sameP_loop N r r.Points [] N rfl (by simpa using hw.2) (by omega)
  have h3 : ref_SameRefs N r.Refs r.Refs = some true := by
    unfold ref_SameRefs
    rw [ne_self, cond_false]
    exact h1
  show ref_SameRecord N r r = _
  unfold ref_SameRecord
  rw [ne_self, cond_false, ne_self, cond_false, h3, Option.bind_some]
  exact h2
/-! ### Packed and read -/
theorem wv_wordF : ∀ k n, n < 256 ^ k → wv (wordF k n) = n
  | 0, n, h => by simp at h; subst h; rfl
  | k + 1, n, h => by
    have h1 : n / 256 < 256 ^ k := by rw [Nat.pow_succ] at h; omega
    have h2 : (bt (n % 256)).toNat = n % 256 := by unfold bt; simp
    rw [show wordF (k + 1) n = bt (n % 256) :: wordF k (n / 256) from rfl]
    unfold wv
    rw [wv_wordF k _ h1, h2]; omega
theorem wordF_wv : ∀ l : List UInt8, wordF l.length (wv l) = l
  | [] => rfl
  | c :: r => by
    have hc := c.toNat_lt
    have h1 : (c.toNat + 256 * wv r) % 256 = c.toNat := by omega
    have h2 : (c.toNat + 256 * wv r) / 256 = wv r := by omega
    have h3 : bt c.toNat = c := by unfold bt; simp
    show bt (wv (c :: r) % 256) :: wordF r.length (wv (c :: r) / 256) = c :: r
    rw [show wv (c :: r) = c.toNat + 256 * wv r from rfl, h1, h2, h3, wordF_wv r]
theorem unz_zig (t : Int) : unz (zig t) = t := by
  unfold unz zig
  split
  · rw [if_neg (by omega)]; omega
  · rw [if_pos (by omega)]; omega
theorem zig_unz (n : Nat) : zig (unz n) = n := by
  unfold unz
  split
  · unfold zig; rw [if_neg (by omega)]; omega
  · unfold zig; rw [if_pos (by omega)]; omega
theorem textR_P (s t : List UInt8) (h : s.length ≤ 100) : textR (textP s ++ t) = some (s, t) := by
  unfold textR textP
  rw [List.append_assoc, numR_num (by omega), Option.bind_some]
  exact takeR_cat s t
theorem labelR_P (z : VLabel) (t : List UInt8) (h : z.Name.length ≤ 40 ∧ z.Value.length ≤ 100) : labelR (labelP z ++ t) = some (z, t) := by
  unfold labelR labelP
  rw [List.append_assoc, textR_P _ _ (by omega), Option.bind_some, textR_P _ _ h.2]; rfl
theorem repR_P {α : Type} {f : List UInt8 → Option (α × List UInt8)} {P : α → List UInt8} : ∀ (l : List α) (t : List UInt8), (∀ x ∈ l, ∀ t, f (P x ++ t) = some (x, t)) → repR f l.length (l.flatMap P ++ t) = some (l, t)
  | [], t, _ => rfl
  | x :: l, t, h => by
    rw [List.flatMap_cons, List.append_assoc]
    show (f (P x ++ (l.flatMap P ++ t))).bind (fun p => (repR f l.length p.2).bind fun q => some (p.1 :: q.1, q.2)) = _
    rw [h x (by simp), Option.bind_some, repR_P l t fun y hy => h y (by simp [hy])]; rfl
theorem manyR_P {α : Type} {f : List UInt8 → Option (α × List UInt8)} {P : α → List UInt8} (hf : ∀ {s x t}, f s = some (x, t) → t.length < s.length) (l : List α) (t : List UInt8) (hl : l.length ≤ 1000000) (h : ∀ x ∈ l, ∀ t, f (P x ++ t) = some (x, t)) : manyR f (num l.length ++ l.flatMap P ++ t) = some (l, t) := by
  rw [manyR_eq hf, List.append_assoc, numR_num (by omega), Option.bind_some]
  exact repR_P l t h
theorem refR_P (x : VRef) (t : List UInt8) (h : GoodRef x) : refR (refP x ++ t) = some (x, t) := by
  obtain ⟨h1, h2⟩ := right_labels h.chk
  have h3 := h.ref
  have h4 := manyR_P (P := labelP) labelR_len x.Labels t (by omega) fun z hz t => labelR_P z t (h2 z hz)
  unfold refR refP
  rw [List.append_assoc, List.append_assoc, numR_num (by omega), Option.bind_some]
  rw [List.append_assoc] at h4
  simp only [h4]
  show some ((⟨((x.Ref.toNat : Nat) : Int), x.Labels⟩ : VRef), t) = _
  rw [Int.toNat_of_nonneg (by omega)]
theorem pointR_P (p : VPoint) (t : List UInt8) (h : (1 ≤ p.Ref ∧ p.Ref ≤ 1000000) ∧ isTimeB p.Time = true) (hb : 0 ≤ p.Bits ∧ p.Bits < 18446744073709551616) : pointR (pointP p ++ t) = some (p, t) := by
  have h2 := zig_lt h.2
  have h3 : takeR 8 (wordF 8 p.Bits.toNat ++ t) = some (wordF 8 p.Bits.toNat, t) := by
    have := takeR_cat (wordF 8 p.Bits.toNat) t
    rwa [wordF_len] at this
  have h5 : (256 : Nat) ^ 8 = 18446744073709551616 := by decide
  have h4 : wv (wordF 8 p.Bits.toNat) = p.Bits.toNat := wv_wordF 8 _ (by omega)
  unfold pointR pointP
  rw [List.append_assoc, List.append_assoc, numR_num (by omega), Option.bind_some, numR_num (by omega), Option.bind_some]
  simp only [h3]
  show some ((⟨((p.Ref.toNat : Nat) : Int), unz (zig p.Time), ((wv (wordF 8 p.Bits.toNat) : Nat) : Int)⟩ : VPoint), t) = _
  rw [h4, unz_zig, Int.toNat_of_nonneg (by omega), Int.toNat_of_nonneg hb.1]
theorem recordR_P (r : VRecord) (hg : GoodRec r) (hb : WBits r) : recordR (packP r) = some (r, []) := by
  have h1 := hg.refs
  have h2 := hg.points
  obtain ⟨k, rs, ps⟩ := r
  rcases hg.kind with ⟨k1, k2⟩ | ⟨k1, k2⟩
  · simp only at k1 k2 h1
    subst k1 k2
    have h3 := manyR_P (P := refP) refR_len rs [] (by omega) fun x hx t => refR_P x t (hg.ref x hx)
    rw [List.append_nil] at h3
    show recordR (bt 1 :: (num rs.length ++ rs.flatMap refP)) = _
    simp only [recordR]
    rw [if_pos (by rfl), h3]; rfl
  · simp only at k1 k2 h2
    subst k1 k2
    have h3 := manyR_P (P := pointP) pointR_len ps [] (by omega) fun x hx t => pointR_P x t (hg.pt x hx) (hb x hx)
    rw [List.append_nil] at h3
    show recordR (bt 2 :: (num ps.length ++ ps.flatMap pointP)) = _
    simp only [recordR]
    rw [if_neg (by decide), if_pos (by rfl), h3]; rfl
theorem unpack_pack (r : VRecord) (hc : chkRec r = 0) (hb : WBits r) : unpackR (packP r) = (r, 0) := by
  unfold unpackR
  rw [recordR_P r (good_rec hc) hb]
  simp only
  rw [if_pos ⟨trivial, hc⟩]
theorem packP_len (r : VRecord) (hg : GoodRec r) : (packP r).length ≤ 1048576 := by
  have h1 := hg.refs
  have h2 := hg.points
  have l1 := flat_len refP 4420 r.Refs fun x hx => refP_len x (hg.ref x hx)
  have l2 := flat_len pointP 30 r.Points fun x hx => pointP_len x (hg.pt x hx)
  have l3 := num_len10 (n := r.Refs.length) (by omega)
  have l4 := num_len10 (n := r.Points.length) (by omega)
  have m1 : r.Refs.length * 4420 ≤ 200 * 4420 := Nat.mul_le_mul_right _ h1
  have m2 : r.Points.length * 30 ≤ 200 * 30 := Nat.mul_le_mul_right _ h2
  unfold packP
  split <;> simp only [List.length_append, List.length_cons, List.length_nil] <;> omega
/-! ### Read and packed -/
theorem textP_R {s a t : List UInt8} (h : textR s = some (a, t)) : s = textP a ++ t := by
  obtain ⟨⟨n, u⟩, h1, h2⟩ := Option.bind_eq_some_iff.1 h
  obtain ⟨e1, _⟩ := numR_some h1
  obtain ⟨e2, e3⟩ := takeR_some h2
  simp only at e2 e3
  unfold textP
  rw [e1, e2, e3, List.append_assoc]
theorem labelP_R {s t : List UInt8} {z : VLabel} (h : labelR s = some (z, t)) : s = labelP z ++ t := by
  obtain ⟨⟨a, u⟩, h1, h2⟩ := Option.bind_eq_some_iff.1 h
  obtain ⟨⟨b, w⟩, h3, h4⟩ := Option.bind_eq_some_iff.1 h2
  cases h4
  unfold labelP
  rw [List.append_assoc, ← textP_R h3]
  exact textP_R h1
theorem repP_R {α : Type} {f : List UInt8 → Option (α × List UInt8)} {P : α → List UInt8} (hf : ∀ {s x t}, f s = some (x, t) → s = P x ++ t) : ∀ {n : Nat} {s t : List UInt8} {l : List α}, repR f n s = some (l, t) → s = l.flatMap P ++ t ∧ l.length = n
  | 0, s, t, l, h => by cases h; exact ⟨rfl, rfl⟩
  | n + 1, s, t, l, h => by
    obtain ⟨⟨a, u⟩, h1, h2⟩ := Option.bind_eq_some_iff.1 h
    obtain ⟨⟨b, w⟩, h3, h4⟩ := Option.bind_eq_some_iff.1 h2
    cases h4
    obtain ⟨e1, e2⟩ := repP_R hf h3
    refine ⟨?_, by simp [e2]⟩
    rw [List.flatMap_cons, List.append_assoc, ← e1]
    exact hf h1
theorem manyP_R {α : Type} {f : List UInt8 → Option (α × List UInt8)} {P : α → List UInt8} (hf : ∀ {s x t}, f s = some (x, t) → s = P x ++ t) {s t : List UInt8} {l : List α} (h : manyR f s = some (l, t)) : s = num l.length ++ l.flatMap P ++ t := by
  obtain ⟨n, u, h1, _, h2⟩ := manyR_rep h
  obtain ⟨e1, _⟩ := numR_some h1
  obtain ⟨e2, e3⟩ := repP_R hf h2
  rw [e1, e2, e3, List.append_assoc]
theorem refP_R {s t : List UInt8} {x : VRef} (h : refR s = some (x, t)) : s = refP x ++ t := by
  obtain ⟨⟨a, u⟩, h1, h2⟩ := Option.bind_eq_some_iff.1 h
  obtain ⟨⟨b, w⟩, h3, h4⟩ := Option.bind_eq_some_iff.1 h2
  cases h4
  obtain ⟨e1, _⟩ := numR_some h1
  have e2 := manyP_R (P := labelP) labelP_R h3
  simp only at e2
  unfold refP
  simp only [Int.toNat_natCast]
  rw [e1, e2]; simp
theorem pointP_R {s t : List UInt8} {x : VPoint} (h : pointR s = some (x, t)) : s = pointP x ++ t := by
  obtain ⟨⟨a, u⟩, h1, h2⟩ := Option.bind_eq_some_iff.1 h
  obtain ⟨⟨b, w⟩, h3, h4⟩ := Option.bind_eq_some_iff.1 h2
  obtain ⟨⟨c, v⟩, h5, h6⟩ := Option.bind_eq_some_iff.1 h4
  cases h6
  obtain ⟨e1, _⟩ := numR_some h1
  obtain ⟨e2, _⟩ := numR_some h3
  obtain ⟨e3, e4⟩ := takeR_some h5
  simp only at e2 e3 e4
  have e5 := wordF_wv c
  rw [e4] at e5
  unfold pointP
  simp only [Int.toNat_natCast]
  rw [zig_unz, e5, e1, e2, e3]; simp
theorem pointR_bits {s t : List UInt8} {x : VPoint} (h : pointR s = some (x, t)) : 0 ≤ x.Bits ∧ x.Bits < 18446744073709551616 := by
  obtain ⟨⟨a, u⟩, h1, h2⟩ := Option.bind_eq_some_iff.1 h
  obtain ⟨⟨b, w⟩, h3, h4⟩ := Option.bind_eq_some_iff.1 h2
  obtain ⟨⟨c, v⟩, h5, h6⟩ := Option.bind_eq_some_iff.1 h4
  cases h6
  obtain ⟨_, e4⟩ := takeR_some h5
  have := wv_lt c
  rw [e4] at this
  have h5 : (256 : Nat) ^ 8 = 18446744073709551616 := by decide
  show 0 ≤ ((wv c : Nat) : Int) ∧ ((wv c : Nat) : Int) < _
  omega
theorem pack_unpack {s : List UInt8} {x : VRecord} (hs : s.length ≤ 1048576) (h : recordR s = some (x, [])) (hc : chkRec x = 0) : packP x = s ∧ WBits x := by
  have hg := good_rec hc
  cases s with
  | nil => cases h
  | cons c u =>
    simp only [recordR] at h
    have hb : bt c.toNat = c := by unfold bt; simp
    split at h
    · rename_i k
      obtain ⟨⟨l, w⟩, h1, h2⟩ := Option.map_eq_some_iff.1 h
      cases h2
      have e := manyP_R (P := refP) refP_R h1
      refine ⟨?_, fun x hx => by cases hx⟩
      rw [List.append_nil] at e
      rw [e, ← hb, k]; rfl
    · split at h
      · rename_i k
        obtain ⟨⟨l, w⟩, h1, h2⟩ := Option.map_eq_some_iff.1 h
        cases h2
        have e := manyP_R (P := pointP) pointP_R h1
        obtain ⟨n, v, k1, k2, k3⟩ := manyR_rep h1
        have l2 := numR_len k1
        simp only [List.length_cons] at hs
        refine ⟨?_, fun x hx => repR_all (Q := fun x : VPoint => 0 ≤ x.Bits ∧ x.Bits < 18446744073709551616) pointR_len (fun _ h => pointR_bits h) (by omega) k3 x hx⟩
        rw [List.append_nil] at e
        rw [e, ← hb, k]; rfl
      · rename_i k1 k2
        cases h
        rcases hg.kind with ⟨k, _⟩ | ⟨k, _⟩
        · exact absurd (Int.ofNat.inj k) k1
        · exact absurd (Int.ofNat.inj k) k2
/-! ### The laws -/
def begR : VRecord := ⟨2, [], [⟨1, -1, 0⟩]⟩
theorem beg_chk : chkRec begR = 0 := by decide
theorem beg_w : WRec begR := ⟨⟨by decide, fun x hx => by cases hx⟩, by decide⟩
theorem beg_bits : WBits begR := fun x hx => by
  rcases List.mem_cons.1 hx with rfl | hx
  · exact ⟨by decide, by decide⟩
  · cases hx
theorem beg_len : (packP begR).length = 12 := by rfl
theorem begun_ev : Ev (fun N => law_recordBegun N) true := by
  obtain ⟨N1, h1⟩ := pack_ev begR beg_w beg_bits
  obtain ⟨N2, h2⟩ := unpack_ev (packP begR) (by rw [beg_len]; omega)
  refine ⟨max N1 N2, fun N hN => ?_⟩
  have h1 := h1 N (by omega)
  have h2 := h2 N (by omega)
  simp only at h1 h2
  rw [if_pos beg_chk] at h1
  rw [unpack_pack begR beg_chk beg_bits] at h2
  show law_recordBegun N = _
  unfold law_recordBegun
  rw [show ({ Kind := 2, Refs := ([] : List VRef), Points := ([({ Ref := 1, Time := (-1), Bits := 0 } : VPoint)] : List VPoint) } : VRecord) = begR from rfl, h1, Option.bind_some]
  simp only
  rw [h2, Option.bind_some, beg_len]; rfl
theorem back8_ev (s : List UInt8) (hs : s.length ≤ 1048576) : ∃ N0, ∀ N, N0 ≤ N → ∀ n, law_RecordBack_R8 N n s = some true := by
  obtain ⟨N1, h1⟩ := unpack_ev s hs
  by_cases he : (unpackR s).2 = 0
  · have hx : ∃ x, recordR s = some (x, []) ∧ chkRec x = 0 ∧ unpackR s = (x, 0) := by
      unfold unpackR at he ⊢
      cases h : recordR s with
      | none => rw [h] at he; cases he
      | some p =>
        obtain ⟨x, t⟩ := p
        rw [h] at he
        simp only at he ⊢
        by_cases hc : t = [] ∧ chkRec x = 0
        · refine ⟨x, by rw [hc.1], hc.2, by rw [if_pos hc]⟩
        · rw [if_neg hc] at he; cases he
    obtain ⟨x, e1, e2, e3⟩ := hx
    obtain ⟨p1, p2⟩ := pack_unpack hs e1 e2
    obtain ⟨N2, h2⟩ := pack_ev x (recordR_w hs e1) p2
    refine ⟨max N1 N2, fun N hN n => ?_⟩
    have h1 := h1 N (by omega)
    have h2 := h2 N (by omega)
    simp only at h1 h2
    rw [if_pos e2, p1] at h2
    unfold law_RecordBack_R8
    rw [h1, Option.bind_some, e3]
    simp only
    rw [h2, Option.bind_some]
    simp
  · refine ⟨N1, fun N hN n => ?_⟩
    have h1 := h1 N hN
    simp only at h1
    unfold law_RecordBack_R8
    rw [h1, Option.bind_some]
    have : ((unpackR s).2 != 0) = true := by simpa using he
    rw [this, cond_true]
theorem back_ev (r : VRecord) (hw : WRec r) (hb : WBits r) (s : List UInt8) (hs : s.length ≤ 1048576) : Ev (fun N => law_RecordBack N r s) true := by
  obtain ⟨N1, h1⟩ := pack_ev r hw hb
  obtain ⟨N2, h2⟩ := begun_ev
  obtain ⟨N3, h3⟩ := back8_ev s hs
  by_cases hc : chkRec r = 0
  · obtain ⟨N4, h4⟩ := unpack_ev (packP r) (packP_len r (good_rec hc))
    obtain ⟨N5, h5⟩ := same_ev r hw
    refine ⟨max (max N1 N2) (max N3 (max N4 N5)), fun N hN => ?_⟩
    have h1 := h1 N (by omega)
    have h2 := h2 N (by omega)
    have h3 := h3 N (by omega) N
    have h4 := h4 N (by omega)
    have h5 := h5 N (by omega)
    simp only at h1 h2 h4 h5
    rw [if_pos hc] at h1
    rw [unpack_pack r hc hb] at h4
    show law_RecordBack N r s = _
    unfold law_RecordBack
    rw [h2, Option.bind_some, Bool.not_true, cond_false, h1, Option.bind_some]
    simp only
    rw [show ((0 : Int) == 0) = true from rfl, cond_true, h4, Option.bind_some]
    simp only
    rw [ne_self, cond_false, h5, Option.bind_some, Bool.not_true, cond_false]
    exact h3
  · refine ⟨max (max N1 N2) N3, fun N hN => ?_⟩
    have h1 := h1 N (by omega)
    have h2 := h2 N (by omega)
    have h3 := h3 N (by omega) N
    simp only at h1 h2
    rw [if_neg hc] at h1
    show law_RecordBack N r s = _
    unfold law_RecordBack
    rw [h2, Option.bind_some, Bool.not_true, cond_false, h1, Option.bind_some]
    simp only
    have hc1 : (chkRec r == 0) = false := by simpa using hc
    rw [hc1, cond_false]
    exact h3
end Go.Proofs.Ytgmbgbalcndohaa
