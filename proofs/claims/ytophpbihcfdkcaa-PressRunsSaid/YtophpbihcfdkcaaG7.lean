/- The layer of abstract values: laws of slices, addresses, loads; new rows. -/
import Derived.Test.YtophpbihcfdkcaaG6
namespace Go.Proofs.Ytophpbihcfdkcaa
open Go.RowKit P
set_option linter.unusedSimpArgs false
set_option linter.unusedVariables false
section
variable {P : Program} {T : Tys P} {σ : AS} {d : Option Tmp} {t yt ty : TypeId} {x y z : Operand} {pos : String} {af : Array Edge} {g : Option (Nat × Bool)}

theorem run_bound {code : BoundsCode} {k : IntKind} {i : Int} {n : Nat} {w : World} (h0 : 0 ≤ i) (h1 : i ≤ n) : (Instr.sliceBound (.int k i) n code).run P w = .ok i.toNat w := by
  simp [Instr.sliceBound, asIntOf, h0, h1]
def optIs (σ : AS) (q : Option Operand) (k : IntKind) (i z : Int) : Prop := match q with | some q => opV σ q = some (.v (.int k i)) | none => i = z
def optV (q : Option Value) (i z : Int) : Prop := match q with | some v => ∃ k, v = .int k i | none => i = z
theorem run_bounds {isS : Bool} {len cap : Nat} {lo hi : Option Value} {i j : Int} {w : World} (hlo : optV lo i 0) (hhi : optV hi j len) (h1 : 0 ≤ i) (h2 : i ≤ j) (h3 : j ≤ cap) :
    (Instr.sliceBounds isS len cap lo hi none).run P w = .ok (i.toNat, j.toNat, cap) w := by
  have hB : ∀ (k : IntKind) (c : BoundsCode), (Instr.sliceBound (.int k j) cap c).run P w = .ok j.toNat w := fun k c => run_bound (by omega) h3
  have hA : ∀ (k : IntKind) (c : BoundsCode), (Instr.sliceBound (.int k i) j.toNat c).run P w = .ok i.toNat w := fun k c => run_bound h1 (by omega)
  cases lo with
  | none =>
    simp only [optV] at hlo
    subst hlo
    cases hi with
    | none => simp only [optV] at hhi; subst hhi; simp [Instr.sliceBounds]
    | some v => obtain ⟨k, rfl⟩ := hhi; simp [Instr.sliceBounds, hB]
  | some v0 =>
    obtain ⟨k0, rfl⟩ := hlo
    cases hi with
    | none =>
      simp only [optV] at hhi
      have hA' := hA k0 .sliceB
      rw [hhi] at hA'
      simp only [Int.toNat_natCast] at hA'
      simp [Instr.sliceBounds, hA', hhi]
    | some v => obtain ⟨k, rfl⟩ := hhi; simp [Instr.sliceBounds, hB, hA]
theorem opt_val {o : Op} {F : Nat → Prop} {X : GW} {ac : Act} {q : Option Operand} {k : IntKind} {i z : Int} (hs : SimR F X σ o ac.tmps) (hm : ∀ p, q = some p → p ∈ o.operands.toList) (h : optIs σ q k i z) : optV (q.map ac.eval) i z := by
  cases q with
  | none => exact h
  | some p => exact ⟨k, opV_val hs (hm p rfl) h⟩
/-- s[lo:hi] -/
theorem opv_slice_str {lo hi : Option Operand} {s : ByteArray} {k1 k2 : IntKind} {i j : Int} (hx : opV σ x = some (.v (.string s))) (h0 : look T.ty t = some .string)
    (hlo : optIs σ lo k1 i 0) (hhi : optIs σ hi k2 j (bsOf s).length) (h1 : 0 ≤ i) (h2 : i ≤ j) (h3 : j ≤ (bsOf s).length) :
    OpV P ⟨d, .slice t x lo hi none, ty, pos, af, g⟩ σ (.v (.string (mkB (((bsOf s).take j.toNat).drop i.toNat)))) := by
  refine opv_same rfl fun F X ac hs => ⟨_, ?_, .v _⟩
  have e1 := opV_val hs (by simp [Op.operands]) hx
  have hu := T.tyOk _ _ h0
  simp only [execOp, e1]
  refine run_val ?_
  have hsz : (j ≤ s.size) := by rw [size_bsOf]; exact h3
  have := run_bounds (P := P) (isS := false) (len := s.size) (cap := s.size) (w := X.w) (opt_val (q := lo) (k := k1) (i := i) (z := 0) hs (fun p hp => by subst hp; cases hi <;> simp [Op.operands]) hlo) (opt_val (q := hi) (k := k2) (i := j) (z := s.size) hs (fun p hp => by subst hp; cases lo <;> simp [Op.operands]) (by rw [size_bsOf]; exact hhi)) h1 h2 hsz
  simp only [Instr.sliceAt, Instr.slice, Option.map_none]
  simp [run_underlying hu, this, mkB_ext']

theorem add_off (b off n : Nat) : (⟨b, off, none⟩ : Addr).add n = ⟨b, off + n, none⟩ := by unfold Addr.add; split <;> simp_all
theorem rel_sl {X : GW} {o : Bool} {sz : Nat} {l : List (List AV)} {v : Value} (h : Rel X (.sl o sz l) v) : (v = .slice none 0 0 ∧ l = []) ∨ ∃ b off cap n, v = .slice (some ⟨b, off, none⟩) l.length cap ∧ X.g b = some n ∧ off + l.length * sz ≤ n ∧ l.length ≤ cap ∧
    ∃ c : Nat → Nat → Value, (∀ (i : Nat) (r : List AV), l[i]? = some r → r.length = sz) ∧ (∀ (i j : Nat) (r : List AV) (u : AV), l[i]? = some r → r[j]? = some u → X.w.cell? ⟨b, off + i * sz + j, none⟩ = some (c i j)) ∧ (∀ (i j : Nat) (r : List AV) (u : AV), l[i]? = some r → r[j]? = some u → Rel X u (c i j)) := by
  cases h with
  | nil => exact .inl ⟨rfl, rfl⟩
  | sl _ _ _ b off cap n c h1 h2 h3 h4 h5 h6 => exact .inr ⟨b, off, cap, n, rfl, h1, h2, h3, c, h4, h5, h6⟩

/-- xs[lo:hi] of a slice that reads as a list, within its length -/
theorem opv_slice_sl {lo hi : Option Operand} {o : Bool} {sz : Nat} {l : List (List AV)} {k1 k2 : IntKind} {i j : Int} {e : TypeId} {by_ : Nat} (hx : opV σ x = some (.sl o sz l)) (h0 : look T.ty t = some (.slice e)) (hsz : look T.sz e = some (sz, by_))
    (hlo : optIs σ lo k1 i 0) (hhi : optIs σ hi k2 j l.length) (h1 : 0 ≤ i) (h2 : i ≤ j) (h3 : j ≤ l.length) :
    OpV P ⟨d, .slice t x lo hi none, ty, pos, af, g⟩ σ (.sl false sz ((l.take j.toNat).drop i.toNat)) := by
  refine opv_same rfl fun F X ac hs => ?_
  have e1 := opV_rel hs (by simp [Op.operands]) hx
  have hu := T.tyOk _ _ h0
  obtain ⟨inf, hi1, hi2, hi3⟩ := T.szOk _ _ _ hsz
  have hls : ∀ w : World, (sizeOf e).run P w = .ok sz w := fun w => by simp [sizeOf, typeInfo, hi1, hi2]
  obtain ⟨a0, c0, hform⟩ := rel_sl_form e1
  have hcap : l.length ≤ c0 := by
    rcases rel_sl e1 with ⟨h, hl⟩ | ⟨b, off, cap, n, h, _, _, hc, _⟩
    · rw [hl]; exact Nat.zero_le _
    · rw [hform] at h; cases h; exact hc
  have hB := run_bounds (P := P) (isS := true) (len := l.length) (cap := c0) (w := X.w) (opt_val (q := lo) (k := k1) (i := i) (z := 0) hs (fun p hp => by subst hp; cases hi <;> simp [Op.operands]) hlo) (opt_val (q := hi) (k := k2) (i := j) (z := l.length) hs (fun p hp => by subst hp; cases lo <;> simp [Op.operands]) hhi) h1 h2 (by omega)
  refine ⟨.slice (if c0 = i.toNat then a0 else a0.map (·.add (i.toNat * sz))) (j.toNat - i.toNat) (c0 - i.toNat), ?_, ?_⟩
  · simp only [execOp, hform]
    refine run_val ?_
    simp only [Instr.sliceAt, Instr.slice, Option.map_none]
    simp [run_underlying hu, hB, hls]
  · have hlen : ((l.take j.toNat).drop i.toNat).length = j.toNat - i.toNat := by simp; omega
    rcases rel_sl e1 with ⟨h, hl⟩ | ⟨b, off, cap, n, h, hg, hn, hc, c, c1, c2, c3⟩
    · subst hl
      rw [hform] at h; simp at h; obtain ⟨rfl, rfl⟩ := h
      have : j.toNat - i.toNat = 0 := by simp at h3; omega
      simp [this]
      exact .nil _ _
    · rw [hform] at h; cases h
      rw [← hlen]
      by_cases hci : c0 = i.toNat
      · rw [if_pos hci]
        have hnil : (l.take j.toNat).drop i.toNat = [] := List.eq_nil_of_length_eq_zero (by omega)
        rw [hnil]
        exact .sl _ _ [] b off _ n (fun _ _ => undef) hg (by simp; have := Nat.zero_le (l.length * sz); omega) (Nat.zero_le _) (by simp) (by simp) (by simp)
      · rw [if_neg hci]
        simp only [Option.map, add_off]
        have hget : ∀ (q : Nat) (r : List AV), ((l.take j.toNat).drop i.toNat)[q]? = some r → l[i.toNat + q]? = some r := by
          intro q r hr
          rw [List.getElem?_drop, List.getElem?_take] at hr
          split at hr
          · exact hr
          · cases hr
        refine .sl _ _ _ b (off + i.toNat * sz) _ n (fun q p => c (i.toNat + q) p) hg ?_ (by omega) (fun q r hr => c1 _ r (hget q r hr)) (fun q p r u hr hu => ?_) (fun q p r u hr hu => c3 _ p r u (hget q r hr) hu)
        · rw [hlen, Nat.add_assoc, ← Nat.add_mul, show i.toNat + (j.toNat - i.toNat) = j.toNat by omega]
          have : j.toNat * sz ≤ l.length * sz := Nat.mul_le_mul_right _ (by omega)
          omega
        · rw [← c2 (i.toNat + q) p r u (hget q r hr) hu, Nat.add_mul]
          congr 2; omega

theorem opv_indexaddr {k : IntKind} {o : Bool} {sz : Nat} {l : List (List AV)} {i : Int} {e : TypeId} {by_ : Nat} (hx : opV σ x = some (.sl o sz l)) (hy : opV σ y = some (.v (.int k i))) (h0 : look T.ty t = some (.slice e)) (hsz : look T.sz e = some (sz, by_)) (h1 : 0 ≤ i) (h2 : i < l.length) :
    OpV P ⟨d, .indexAddr t x y, ty, pos, af, g⟩ σ (.el (l.getD i.toNat [])) := by
  refine opv_same rfl fun F X ac hs => ?_
  have e1 := opV_rel hs (by simp [Op.operands]) hx
  have e2 := opV_val hs (by simp [Op.operands]) hy
  have hu := T.tyOk _ _ h0
  obtain ⟨inf, hi1, hi2, hi3⟩ := T.szOk _ _ _ hsz
  rcases rel_sl e1 with ⟨h, hl⟩ | ⟨b, off, cap, n, h, hg, hn, hc, c, c1, c2, c3⟩
  · subst hl; simp at h2; omega
  · have hlt : i.toNat < l.length := by omega
    have hr : l[i.toNat]? = some (l.getD i.toNat []) := by rw [List.getD_eq_getElem?_getD, List.getElem?_eq_getElem hlt]; rfl
    refine ⟨.pointer (some ⟨b, off + i.toNat * sz, none⟩), ?_, ?_⟩
    · simp only [execOp, h, e2]
      refine run_val ?_
      simp [Instr.indexAt, asIntOf, run_underlying hu, sizeOf, typeInfo, hi1, hi2, h1, h2, add_off]
    · refine .el _ b _ n (c i.toNat) hg ?_ (fun q u hq => c2 _ q _ u hr hq) (fun q u hq => c3 _ q _ u hr hq)
      rw [c1 _ _ hr]
      have : i.toNat * sz + sz ≤ l.length * sz := by rw [← Nat.succ_mul]; exact Nat.mul_le_mul_right _ hlt
      omega

theorem run_fieldAt {s : TypeId} {fs : Array Field} {f : Field} {i : Nat} {b off : Nat} {w : World} {fsz : Nat × Nat} (h0 : P.underlying s = some (.struct fs)) (hf : fs[i]? = some f) (hz : look T.sz f.type = some fsz) (hp : Nat.ble 1 fsz.1 = true) :
    (Instr.fieldAt s (.pointer (some ⟨b, off, none⟩)) i).run P w = .ok (.pointer (some ⟨b, off + f.offset, none⟩)) w := by
  obtain ⟨inf, hi1, hi2, hi3⟩ := T.szOk _ _ _ hz
  have hne : ¬ inf.size = 0 := by have := Nat.le_of_ble_eq_true hp; omega
  simp [Instr.fieldAt, run_underlying h0, hf, Instr.sureAddr, fieldPlace, sizeOf, typeInfo, hi1, hne, add_off]
theorem opv_field_el {fs : Array Field} {f : Field} {i : Nat} {cs : List AV} {fsz : Nat × Nat} (hx : opV σ x = some (.el cs)) (h0 : look T.ty t = some (.struct fs)) (hf : fs[i]? = some f) (hz : look T.sz f.type = some fsz) (hp : Nat.ble 1 fsz.1 = true) (hl : Nat.ble f.offset cs.length = true) :
    OpV P ⟨d, .fieldAddr t x i, ty, pos, af, g⟩ σ (.el (cs.drop f.offset)) := by
  refine opv_same rfl fun F X ac hs => ?_
  have e1 := opV_rel hs (by simp [Op.operands]) hx
  simp only [execOp]
  generalize ac.eval x = v at e1
  have hle := Nat.le_of_ble_eq_true hl
  cases e1 with
  | el _ b off n c hg hn hm hr =>
    refine ⟨_, run_val (run_fieldAt (T.tyOk _ _ h0) hf hz hp), .el _ b _ n (fun j => c (f.offset + j)) hg (by simp; omega) (fun j u hj => ?_) (fun j u hj => ?_)⟩
    · rw [List.getElem?_drop] at hj
      rw [← hm _ u hj]; congr 2; omega
    · rw [List.getElem?_drop] at hj
      exact hr _ u hj
theorem opv_field_box {fs : Array Field} {f : Field} {i b off : Nat} {fsz : Nat × Nat} (hx : opV σ x = some (.v (.pointer (some ⟨b, off, none⟩)))) (h0 : look T.ty t = some (.struct fs)) (hf : fs[i]? = some f) (hz : look T.sz f.type = some fsz) (hp : Nat.ble 1 fsz.1 = true) :
    OpV P ⟨d, .fieldAddr t x i, ty, pos, af, g⟩ σ (.v (.pointer (some ⟨b, off + f.offset, none⟩))) := by
  refine opv_same rfl fun F X ac hs => ⟨_, ?_, .v _⟩
  have e1 := opV_val hs (by simp [Op.operands]) hx
  simp only [execOp, e1]
  exact run_val (run_fieldAt (T.tyOk _ _ h0) hf hz hp)

/-- A type whose values lie in one cell. -/
def oneB : TypeDesc → Bool
  | .struct _ => false
  | .array _ _ => false
  | _ => true
theorem run_load1 {dsc : TypeDesc} {a : Addr} {v : Value} {w : World} (h0 : P.underlying t = some dsc) (h1 : oneB dsc = true) (hc : w.cell? a = some v) : (Instr.loadAt t (.pointer (some a))).run P w = .ok v w := by
  cases dsc <;> simp [oneB] at h1 <;> simp [Instr.loadAt, Instr.sureAddr, loadVar, isAgg, run_underlying h0, hc]
theorem opv_load_el {dsc : TypeDesc} {u : AV} {cs : List AV} (hx : opV σ x = some (.el (u :: cs))) (h0 : look T.ty t = some dsc) (h1 : oneB dsc = true) : OpV P ⟨d, .load t x, ty, pos, af, g⟩ σ u.rd := by
  refine opv_same (plain_rd u) fun F X ac hs => ?_
  have e1 := opV_rel hs (by simp [Op.operands]) hx
  simp only [execOp]
  generalize ac.eval x = v at e1
  cases e1 with
  | el _ b off n c hg hn hm hr =>
    have hc := hm 0 u rfl
    exact ⟨c 0, run_val (run_load1 (T.tyOk _ _ h0) h1 (by simpa using hc)), (hr 0 u rfl).rd⟩
theorem opv_load_els {fs : Array Field} {n by_ : Nat} {cs : List AV} (hx : opV σ x = some (.el cs)) (h0 : look T.ty t = some (.struct fs)) (hz : look T.sz t = some (n, by_)) (hl : Nat.ble n cs.length = true) : OpV P ⟨d, .load t x, ty, pos, af, g⟩ σ (.ag (cs.take n)) := by
  refine opv_same rfl fun F X ac hs => ?_
  have e1 := opV_rel hs (by simp [Op.operands]) hx
  have hu := T.tyOk _ _ h0
  obtain ⟨inf, hi1, hi2, hi3⟩ := T.szOk _ _ _ hz
  have hle := Nat.le_of_ble_eq_true hl
  simp only [execOp]
  generalize ac.eval x = v at e1
  cases e1 with
  | el _ b off n' c hg hn hm hr =>
    have hld := run_loadCells (P := P) (w := X.w) ⟨b, off, none⟩ n c (fun j hj => by
      rw [add_off]
      have hj' : j < cs.length := by omega
      exact hm j cs[j] (List.getElem?_eq_getElem hj'))
    refine ⟨.agg ((List.range n).map c).toArray, run_val ?_, .ag _ _ (by simp; omega) (fun j u v hj hv => ?_)⟩
    · simp [Instr.loadAt, Instr.sureAddr, loadVar, isAgg, run_underlying hu, sizeOf, typeInfo, hi1, hi2, hld]
    · rw [List.getElem?_take] at hj
      split at hj
      · rename_i hjn
        simp [hjn] at hv
        subst hv
        exact hr j u hj
      · cases hj
theorem opv_load_box {dsc : TypeDesc} {k o : Nat} {cs : List AV} {u : AV} (hx : opV σ x = some (.v (.pointer (some ⟨k, o, none⟩)))) (hb : look σ.h k = some cs) (hu : cs[o]? = some u) (h0 : look T.ty t = some dsc) (h1 : oneB dsc = true) (hm : u.isMp = false) :
    OpV P ⟨d, .load t x, ty, pos, af, g⟩ σ u.rd := by
  refine opv_same (plain_rd u) fun F X ac hs => ?_
  have e1 := opV_val hs (by simp [Op.operands]) hx
  obtain ⟨b1, b2, arr, e, fr, b3, b4, b5, b6⟩ := (hs.box k cs hb).at hu hm
  have hlt := (List.getElem?_eq_some_iff.1 hu).1
  have hx : arr[o]? = some arr[o] := Array.getElem?_eq_getElem (by omega)
  refine ⟨arr[o], ?_, (b6 o u _ hu hx).rd⟩
  simp only [execOp, e1]
  exact run_val (run_load1 (T.tyOk _ _ h0) h1 (by simp only [World.cell?, b3]; exact hx))
theorem opv_load_boxs {fs : Array Field} {n by_ k o : Nat} {cs : List AV} (hx : opV σ x = some (.v (.pointer (some ⟨k, o, none⟩)))) (hb : look σ.h k = some cs) (h0 : look T.ty t = some (.struct fs)) (hz : look T.sz t = some (n, by_)) (hl : Nat.ble (o + n) cs.length = true) (hm : isMpB cs = false) :
    OpV P ⟨d, .load t x, ty, pos, af, g⟩ σ (.ag ((cs.drop o).take n)) := by
  refine opv_same rfl fun F X ac hs => ?_
  have e1 := opV_val hs (by simp [Op.operands]) hx
  have hu := T.tyOk _ _ h0
  obtain ⟨inf, hi1, hi2, hi3⟩ := T.szOk _ _ _ hz
  have hle := Nat.le_of_ble_eq_true hl
  obtain ⟨b1, b2, arr, e, fr, b3, b4, b5, b6⟩ := (hs.box k cs hb).cells hm
  have hld := run_loadCells (P := P) (w := X.w) ⟨k, o, none⟩ n (fun j => arr.getD (o + j) undef) (fun j hj => by
    rw [add_off]
    have : o + j < arr.size := by omega
    simp [World.cell?, b3, this])
  refine ⟨.agg ((List.range n).map fun j => arr.getD (o + j) undef).toArray, ?_, .ag _ _ (by simp; omega) (fun j u v hj hv => ?_)⟩
  · simp only [execOp, e1]
    refine run_val ?_
    simp [Instr.loadAt, Instr.sureAddr, loadVar, isAgg, run_underlying hu, sizeOf, typeInfo, hi1, hi2, hld]
  · rw [List.getElem?_take] at hj
    split at hj
    · rename_i hjn
      have : o + j < arr.size := by omega
      simp [hjn, this] at hv
      subst hv
      rw [List.getElem?_drop] at hj
      exact b6 _ u _ hj (Array.getElem?_eq_getElem this)
    · cases hj
end
end Go.Proofs.Ytophpbihcfdkcaa
