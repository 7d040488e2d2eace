/- The layer of abstract values: append, slice literals, conversions with memory, boxes. -/
import Derived.Test.YtophpbihcfdkcaaG12
namespace Go.Proofs.Ytophpbihcfdkcaa
open Go.RowKit P
set_option linter.unusedSimpArgs false
set_option linter.unusedVariables false
/-- Bytes as elements. -/
def byteA (l : List UInt8) : List (List AV) := l.map fun b => [AV.v (.int .u8 b.toNat)]
theorem byteA_append (a b : List UInt8) : byteA (a ++ b) = byteA a ++ byteA b := by simp [byteA]
theorem byteA_length (l : List UInt8) : (byteA l).length = l.length := by simp [byteA]
def RowsOne (m : List (List AV)) : Prop := ∀ r ∈ m, ∀ u ∈ r, u.one = true
theorem rowsOne_byteA (l : List UInt8) : RowsOne (byteA l) := by
  intro r hr u hu
  simp only [byteA, List.mem_map] at hr
  obtain ⟨b, _, rfl⟩ := hr
  simp at hu; subst hu; rfl
section
variable {P : Program} {Q : Exit → AS → Prop} {ks : List It} {T : Tys P} {σ : AS} {t u ty e : TypeId} {x y z : Operand} {pos : String} {af : Array Edge} {g : Option (Nat × Bool)} {F : Nat → Prop} {X : GW} {l : List Oper} {k : Nat} {rest : List Oper} {d : Nat}

theorem rel_rows {o : Bool} {sz : Nat} {L : List (List AV)} {v : Value} (h : Rel X (.sl o sz L) v) : ∀ r ∈ L, r.length = sz := by
  rcases rel_sl h with ⟨_, rfl⟩ | ⟨_, _, _, _, _, _, _, _, _, h1, _⟩
  · intro r hr; cases hr
  · intro r hr
    obtain ⟨i, hi⟩ := List.getElem?_of_mem hr
    exact h1 i r hi
theorem run_builtin_append {a : Act} {t u ty : TypeId} {xs ys : Operand} {xv yv v : Value} {w w' : World} (h1 : a.eval xs = xv) (h2 : a.eval ys = yv) (h : (Builtin.append_ #[t, u] ty #[xv, yv]).run P w = .ok v w') :
    (execOp a.eval ⟨some d, .call { callee := .builtin .append, args := #[xs, ys], argTypes := #[t, u] }, ty, pos, af, g⟩).run P w = .ok (.value v) w' := by
  subst h1 h2
  simp [execOp, resolve, invoke, builtin, h]

/-- append, its base owned at r. -/
theorem eff_append {s : Nat} {r : Root} {sz by_ : Nat} {L m : List (List AV)} {du : TypeDesc} (hr : rootOf σ s = some r) (ho : σ.own r = some (sz, L)) (ht : look T.ty t = some (.slice e)) (hu : look T.ty u = some du) (hnz : du = .string ∨ ∃ e', du = .slice e') (hz : look T.sz e = some (sz, by_)) (hb : Nat.ble 1 by_ = true)
    (hadd : ∀ F X (a : Act), SimE F X σ a.tmps → ∃ c, AddsA P X sz m (a.eval y) c) (hfit : (L.length + m.length) * by_ ≤ 140737488355328) (hd : Nat.ble (d + 1) σ.n = true) {R : AS → Prop} (hR : R ((σ.lay r).dropC.put d (.sl true sz (L ++ m)))) :
    EffOp P ⟨some d, .call { callee := .builtin .append, args := #[.tmp s, y], argTypes := #[t, u] }, ty, pos, af, g⟩ σ R := by
  intro F X a hs
  obtain ⟨i, hi1, hi2, hi3, zv, hi4, hi5⟩ := T.szOk _ _ _ hz
  obtain ⟨c', hadd⟩ := hadd F X a hs
  have hxv := rootOf_val hs hr
  have hrel := own_rel hs ho hxv
  obtain ⟨v, hv1, hown⟩ := hs.own r sz L ho
  rw [hxv] at hv1; cases hv1
  have hs1 := (hs.lay r).dropC
  have howns : ∀ r' q, (σ.lay r).dropC.own r' = some q → σ.own r' = some q ∧ r' ≠ r := fun r' q h => by
    have h1 : (σ.lay r).own r' = some q := by cases r' <;> exact h
    exact ⟨(own_lay h1).2, (own_lay h1).1⟩
  obtain ⟨X', yv, hrun, happ⟩ := append_core (P := P) (ty := ty) hs1 (T.tyOk _ _ ht) (T.tyOk _ _ hu) hnz hi1 hi4 hi5 hi2 hrel hown (rel_rows hrel) hadd (by rw [hi3]; exact hfit) (by rw [hi3]; exact Nat.le_of_ble_eq_true hb)
    (fun r' sz' l' q n c q' n' c' ho' hr' hx => by
      obtain ⟨h1, h2⟩ := howns r' _ ho'
      exact hs.disj r' r sz' l' sz L q n c q' n' c' h2 h1 ho hr' (by rw [hxv, hx])) (fun b p hp o => dropC_no p hp o)
  refine runs_value (x := yv) (w' := X'.w) (run_builtin_append rfl rfl hrun) ⟨X', _, rfl, hR, ?_, happ.ext⟩
  exact happ.sim.put' (by show d < (σ.lay r).n; rw [lay_n]; exact lt_of_ble hd) happ.rel (fun sz' l' h => by cases h; exact happ.own) (fun r' sz' l' sz2 l2 q n c q' n' c' h1 _ h2 h3 => happ.apart r' sz' l' q n c q' n' c' h1 h2 h3)
/-- append onto a nil slice. -/
theorem eff_append_nil {sz by_ : Nat} {m : List (List AV)} {du : TypeDesc} (hx : opV σ x = some (.v (.slice none 0 0))) (ht : look T.ty t = some (.slice e)) (hu : look T.ty u = some du) (hnz : du = .string ∨ ∃ e', du = .slice e') (hz : look T.sz e = some (sz, by_)) (hb : Nat.ble 1 by_ = true)
    (hadd : ∀ F X (a : Act), SimE F X σ a.tmps → ∃ c, AddsA P X sz m (a.eval y) c) (hfit : m.length * by_ ≤ 140737488355328) (hd : Nat.ble (d + 1) σ.n = true) {R : AS → Prop} (hR : R (σ.dropC.put d (.sl true sz m))) :
    EffOp P ⟨some d, .call { callee := .builtin .append, args := #[x, y], argTypes := #[t, u] }, ty, pos, af, g⟩ σ R := by
  intro F X a hs
  obtain ⟨i, hi1, hi2, hi3, zv, hi4, hi5⟩ := T.szOk _ _ _ hz
  obtain ⟨c', hadd⟩ := hadd F X a hs
  have hs1 := hs.dropC
  obtain ⟨X', yv, hrun, happ⟩ := append_core (P := P) (ty := ty) (L := []) (sz := sz) (xv := .slice none 0 0) hs1 (T.tyOk _ _ ht) (T.tyOk _ _ hu) hnz hi1 hi4 hi5 hi2 (.nil _ _) (.inl ⟨rfl, rfl⟩) (by simp) hadd (by rw [hi3]; simpa using hfit) (by rw [hi3]; exact Nat.le_of_ble_eq_true hb)
    (fun r' sz' l' q n c q' n' c' ho' hr' hx => by cases hx) (fun b p hp o => dropC_no p hp o)
  refine runs_value (x := yv) (w' := X'.w) (run_builtin_append (rel_v (opV_rel' hs hx)) rfl hrun) ⟨X', _, rfl, hR, ?_, happ.ext⟩
  exact happ.sim.put' (lt_of_ble hd) happ.rel (fun sz' l' h => by cases h; exact happ.own) (fun r' sz' l' sz2 l2 q n c q' n' c' h1 _ h2 h3 => happ.apart r' sz' l' q n c q' n' c' h1 h2 h3)
theorem adds_sl {o : Bool} {sz : Nat} {m : List (List AV)} (hy : opV σ y = some (.sl o sz m)) (h1 : RowsOne m) : ∀ F X (a : Act), SimE F X σ a.tmps → ∃ c, AddsA P X sz m (a.eval y) c := fun F X a hs => by
  have h2 := opV_rel' hs hy
  exact addsA_sl h2 (fun r hr => ⟨rel_rows h2 r hr, h1 r hr⟩)
theorem adds_nil {sz : Nat} (hy : opV σ y = some (.v (.slice none 0 0))) : ∀ F X (a : Act), SimE F X σ a.tmps → ∃ c, AddsA P X sz [] (a.eval y) c := fun F X a hs => by
  rw [rel_v (opV_rel' hs hy)]
  exact addsA_sl (o := false) (.nil _ _) (by simp)
theorem adds_str {s : ByteArray} (hy : opV σ y = some (.v (.string s))) : ∀ F X (a : Act), SimE F X σ a.tmps → ∃ c, AddsA P X 1 (byteA (bsOf s)) (a.eval y) c := fun F X a hs => by
  rw [rel_v (opV_rel' hs hy)]
  have hcells : rowCells 1 (byteA (bsOf s)).length (fun i _ => .int .u8 ((bsOf s).getD i 0).toNat) = (bsOf s).map (fun b => Value.int .u8 b.toNat) := by
    apply List.ext_getElem?
    intro q
    simp only [rowCells, byteA_length, Nat.mul_one, List.getElem?_map]
    by_cases hq : q < (bsOf s).length
    · simp [hq]
    · simp [hq]
  refine ⟨fun i _ => .int .u8 ((bsOf s).getD i 0).toNat, ⟨?_, fun w' _ => ?_, ?_, ?_, ?_⟩⟩
  · simp [Builtin.lenOf, byteA_length, size_bsOf]
  · rw [hcells]
    simp only [Builtin.firstCells, byteA_length]
    rw [mkB_ext', ← size_bsOf]
    simp only [List.drop_zero]
    rw [List.take_of_length_le (by rw [size_bsOf]; exact Nat.le_refl _)]
    simp only [Sem.run_pure, Result.ok.injEq, and_true]
    apply Array.ext'
    simp [mkB, bsOf]
  · intro r hr
    simp only [byteA, List.mem_map] at hr
    obtain ⟨b, _, rfl⟩ := hr; rfl
  · intro i j r u hr hu
    simp only [byteA, List.getElem?_map, Option.map_eq_some_iff] at hr
    obtain ⟨b, hb, rfl⟩ := hr
    cases j with
    | zero =>
      simp at hu; subst hu
      rw [List.getD_eq_getElem?_getD, hb]; exact .v _
    | succ j => simp at hu
  · rw [hcells]
    intro v hv
    simp only [List.mem_map] at hv
    obtain ⟨b, _, rfl⟩ := hv; rfl

/-- string(b) -/
theorem opv_bytes_str {o : Bool} {L : List UInt8} {dd : Option Tmp} (hx : opV σ x = some (.sl o 1 (byteA L))) (ht : look T.ty t = some (.slice e)) (he : look T.ty e = some (.int .u8)) (hu : look T.ty u = some .string) :
    OpV P ⟨dd, .convert t u x, ty, pos, af, g⟩ σ (.v (.string (mkB L))) := by
  refine opv_same rfl fun F X a hs => ⟨.string (mkB L), ?_, .v _⟩
  have e1 := opV_rel hs (by simp [Op.operands]) hx
  simp only [execOp]
  refine run_val ?_
  rcases rel_sl e1 with ⟨h, hl⟩ | ⟨b, off, cap, n, h, hg, hn, hc, c, c1, c2, c3⟩
  · rw [h]
    have : L = [] := by simpa [byteA] using hl
    subst this
    rw [run_convert_bytes_string _ _ _ _ _ _ _ (T.tyOk _ _ ht) (T.tyOk _ _ he) (T.tyOk _ _ hu)]
    rfl
  · rw [h, byteA_length]
    refine run_convert_bytes_back X.w t u e ⟨b, off, none⟩ cap L (T.tyOk _ _ ht) (T.tyOk _ _ he) (T.tyOk _ _ hu) (fun j hj => ?_)
    have hr : (byteA L)[j]? = some [AV.v (.int .u8 L[j].toNat)] := by simp [byteA, hj]
    have h1 := c2 j 0 _ _ hr rfl
    have h2 := c3 j 0 _ _ hr rfl
    rw [add_off]
    rw [show off + j = off + j * 1 + 0 by omega, h1, rel_v h2]

def opVs (σ : AS) : List Operand → Option (List AV)
  | [] => some []
  | x :: xs => match opV σ x, opVs σ xs with
    | some u, some us => some (u :: us)
    | _, _ => none
theorem opVs_get : ∀ {xs : List Operand} {us : List AV}, opVs σ xs = some us → us.length = xs.length ∧ ∀ (i : Nat) x, xs[i]? = some x → ∃ u, us[i]? = some u ∧ opV σ x = some u
  | [], us, h => by cases h; exact ⟨rfl, fun i x h => by simp at h⟩
  | x :: xs, us, h => by
    simp only [opVs] at h
    split at h
    · rename_i u us' h1 h2
      cases h
      obtain ⟨k1, k2⟩ := opVs_get h2
      refine ⟨by simp [k1], fun i x' hx => ?_⟩
      cases i with
      | zero => simp at hx; subst hx; exact ⟨u, rfl, h1⟩
      | succ i => simpa using k2 i x' (by simpa using hx)
    · cases h
def partsOk : List (Nat × Operand) → Nat → Bool
  | [], _ => true
  | (i, _) :: r, k => Nat.beq i k && partsOk r (k + 1)
theorem partsOk_zip : ∀ {ps : List (Nat × Operand)} {k : Nat} {ρ : Operand → Value}, partsOk ps k = true → ps.map (fun p => (p.1, ρ p.2)) = ((ps.map fun p => ρ p.2).zipIdx k).map fun p => (p.2, p.1)
  | [], _, _, _ => rfl
  | (i, x) :: r, k, ρ, h => by
    simp only [partsOk, Bool.and_eq_true] at h
    have := Nat.eq_of_beq_eq_true h.1
    subst this
    simp only [List.map_cons, List.zipIdx_cons]
    rw [partsOk_zip h.2]
theorem foldl_set (off : Nat) : ∀ (cs : List Value) (k : Nat) (arr : Array Value), off + k + cs.length ≤ arr.size → ((cs.zipIdx k).foldl (fun a p => a.setIfInBounds (off + p.2) p.1) arr).size = arr.size ∧ (∀ j, j < cs.length → ((cs.zipIdx k).foldl (fun a p => a.setIfInBounds (off + p.2) p.1) arr)[off + k + j]? = cs[j]?) ∧ ∀ q, (q < off + k ∨ off + k + cs.length ≤ q) → ((cs.zipIdx k).foldl (fun a p => a.setIfInBounds (off + p.2) p.1) arr)[q]? = arr[q]?
  | [], k, arr, _ => ⟨rfl, fun j h => by simp at h, fun q _ => rfl⟩
  | c :: cs, k, arr, h => by
    simp only [List.length_cons] at h
    obtain ⟨h1, h2, h3⟩ := foldl_set off cs (k + 1) (arr.setIfInBounds (off + k) c) (by simp; omega)
    simp only [List.zipIdx_cons, List.foldl_cons]
    refine ⟨by rw [h1]; simp, fun j hj => ?_, fun q hq => ?_⟩
    · cases j with
      | zero =>
        rw [h3 _ (.inl (by omega))]
        simp only [Nat.add_zero, List.getElem?_cons_zero]
        rw [Array.getElem?_setIfInBounds_self_of_lt (by omega)]
      | succ j =>
        rw [show off + k + (j + 1) = off + (k + 1) + j by omega, h2 j (by simpa using hj)]; rfl
    · simp only [List.length_cons] at hq
      rw [h3 q (by omega), Array.getElem?_setIfInBounds_ne (by omega)]
theorem fill_rows (size : Nat) : ∀ (vs : List Value) (k : Nat) (cells : Array Value), (∀ v ∈ vs, v.cells.size = size) → (k + vs.length) * size ≤ cells.size → ∃ cells', Instr.fill (fun i => some (i * size, size)) cells ((vs.zipIdx k).map fun p => (p.2, p.1)) = some cells' ∧ cells'.size = cells.size ∧
    (∀ i j v, vs[i]? = some v → j < size → cells'[(k + i) * size + j]? = v.cells[j]?) ∧ ∀ q, q < k * size → cells'[q]? = cells[q]?
  | [], k, cells, _, _ => ⟨cells, rfl, rfl, fun i j v h => by simp at h, fun q _ => rfl⟩
  | v :: vs, k, cells, hv, hle => by
    have hvs := hv v (by simp)
    simp only [List.length_cons] at hle
    have hk : k * size + size ≤ cells.size := by
      have : k * size + size ≤ (k + (vs.length + 1)) * size := by rw [← Nat.succ_mul]; exact Nat.mul_le_mul_right _ (by omega)
      omega
    obtain ⟨f1, f2, f3⟩ := foldl_set (k * size) v.cells.toList 0 cells (by simp [hvs]; omega)
    obtain ⟨cells', h1, h2, h3, h4⟩ := fill_rows size vs (k + 1) ((v.cells.toList.zipIdx 0).foldl (fun a p => a.setIfInBounds (k * size + p.2) p.1) cells) (fun x hx => hv x (by simp [hx])) (by rw [f1]; rw [show k + 1 + vs.length = k + (vs.length + 1) by omega]; exact hle)
    have hfill : Instr.fill (fun i => some (i * size, size)) cells (((v :: vs).zipIdx k).map fun p => (p.2, p.1)) = some cells' := by
      simp only [List.zipIdx_cons, List.map_cons, Instr.fill, hvs]
      have hn : (decide (size ≠ size) || decide (k * size + size > cells.size)) = false := by simp; omega
      simp only [ne_eq, not_true_eq_false, decide_false, Bool.false_or] at hn ⊢
      rw [if_neg (by rw [decide_eq_true_eq]; omega)]
      rw [← h1]
      congr 1
      rw [← Array.foldl_toList, Array.toList_zipIdx]
    refine ⟨cells', hfill, by rw [h2, f1], fun i j w hw hj => ?_, fun q hq => ?_⟩
    · cases i with
      | zero =>
        simp at hw; subst hw
        rw [h4 _ (by rw [Nat.succ_mul]; simp; omega)]
        have := f2 j (by simp [hvs]; exact hj)
        simp only [Nat.add_zero] at this ⊢
        rw [this]; simp
      | succ i =>
        rw [show k + (i + 1) = k + 1 + i by omega]
        exact h3 i j w (by simpa using hw) hj
    · rw [h4 q (by rw [Nat.succ_mul]; omega), f3 q (.inl (by omega))]

/-- No aggregate told as a plain value. -/
def AV.okc : AV → Bool
  | .v (.agg _) => false
  | _ => true
/-- A slice literal. -/
theorem opv_build_slice {ps : Array (Nat × Operand)} {len sz by_ : Nat} {us : List AV} {dd : Option Tmp} (ht : look T.ty t = some (.slice e)) (hz : look T.sz e = some (sz, by_)) (hp : partsOk ps.toList 0 = true) (hl : Nat.beq len ps.toList.length = true) (hx : opVs σ (ps.toList.map (·.2)) = some us)
    (hc : us.all (fun u => u.okc && Nat.beq u.cells.length sz) = true) (hm : Nat.ble (len * sz) 16777216 = true) : OpV P ⟨dd, .buildSlice t len ps, ty, pos, af, g⟩ σ (.sl true sz (us.map AV.cells)) := by
  intro F X a hs
  obtain ⟨i, hi1, hi2, hi3, zv, hi4, hi5⟩ := T.szOk _ _ _ hz
  have hlen := Nat.eq_of_beq_eq_true hl
  have hle := Nat.le_of_ble_eq_true hm
  obtain ⟨g1, g2⟩ := opVs_get hx
  simp only [List.length_map] at g1
  have hmem : ∀ p ∈ ps.toList, p.2 ∈ (Op.buildSlice t len ps).operands.toList := fun p hp => by simp only [Op.operands]; exact List.mem_map.2 ⟨p, hp, rfl⟩
  have hrel : ∀ (q : Nat) v, (ps.toList.map fun p => a.eval p.2)[q]? = some v → ∃ u, us[q]? = some u ∧ Rel X u v := by
    intro q v hv
    simp only [List.getElem?_map, Option.map_eq_some_iff] at hv
    obtain ⟨p, hpq, rfl⟩ := hv
    obtain ⟨u, h1, h2⟩ := g2 q p.2 (by simp [List.getElem?_map, hpq])
    exact ⟨u, h1, opV_rel hs (hmem p (List.mem_of_getElem? hpq)) h2⟩
  have hcell : ∀ (q : Nat) u, us[q]? = some u → u.okc = true ∧ u.cells.length = sz := by
    intro q u hu
    have := List.all_eq_true.1 hc u (List.mem_of_getElem? hu)
    simp only [Bool.and_eq_true] at this
    exact ⟨this.1, Nat.eq_of_beq_eq_true this.2⟩
  have hrc : ∀ (q : Nat) u v, us[q]? = some u → Rel X u v → u.cells.length = v.cells.size ∧ ∀ (j : Nat) c y, u.cells[j]? = some c → v.cells[j]? = some y → Rel X c y := by
    intro q u v hu hr
    refine rel_cells hr fun xs hxs => ?_
    have hk := (hcell q u hu).1
    subst hxs
    cases hr with
    | ag us xs hl hr => exact ⟨us, rfl⟩
    | v => cases hk
  let vs := ps.toList.map fun p => a.eval p.2
  have hvl : vs.length = us.length := by simp [vs, g1]
  have hvs : ∀ v ∈ vs, v.cells.size = sz := by
    intro v hv
    obtain ⟨q, hq⟩ := List.getElem?_of_mem hv
    obtain ⟨u, h1, h2⟩ := hrel q v hq
    rw [← (hrc q u v h1 h2).1]; exact (hcell q u h1).2
  let z0 : Array Value := if len * sz = 0 then #[] else zv.cells
  let init : Array Value := (Array.range (len * sz)).map (z0[· % z0.size]!)
  obtain ⟨cells', f1, f2, f3, f4⟩ := fill_rows sz vs 0 init hvs (by simp [init, hvl, g1, hlen])
  have hlv : vs.length = len := by rw [hvl, g1, hlen]
  have hw : (execOp a.eval ⟨dd, .buildSlice t len ps, ty, pos, af, g⟩).run P X.w = .ok (.value (.slice (some ⟨X.w.heap.size, 0, none⟩) len len)) { X.w with heap := X.w.heap.push (.cells cells' e) } := by
    simp only [execOp]
    refine run_val ?_
    have hparts : (ps.map fun p => (p.1, a.eval p.2)).toList = (vs.zipIdx 0).map fun p => (p.2, p.1) := by
      rw [Array.toList_map]; exact partsOk_zip hp
    have hnot : ¬ len * sz > 16777216 := by omega
    simp only [init, z0] at f1
    have hparts' : (Array.map (fun x => match x with | (i, x) => (i, a.eval x)) ps).toList = (vs.zipIdx 0).map fun p => (p.2, p.1) := hparts
    have hzero : ∀ w : World, (zeroValue e).run P w = .ok zv w := fun w => by simp [zeroValue, typeInfo, hi1, hi4]
    by_cases h0 : len * sz = 0
    · simp only [h0, if_true] at f1
      have hpz : ps.toList.map (fun p => (p.1, a.eval p.2)) = (vs.zipIdx 0).map fun p => (p.2, p.1) := partsOk_zip hp
      simp at f1
      simp [Instr.buildSlice, run_underlying (T.tyOk _ _ ht), sizeOf, typeInfo, hi1, hi2, h0, hpz, f1, newRow, newObj, Sem.run]
    · rw [if_neg h0] at f1
      have hpz : ps.toList.map (fun p => (p.1, a.eval p.2)) = (vs.zipIdx 0).map fun p => (p.2, p.1) := partsOk_zip hp
      simp [Instr.buildSlice, run_underlying (T.tyOk _ _ ht), sizeOf, hzero, typeInfo, hi1, hi2, h0, hle, hpz, f1, newRow, newObj, Sem.run]
  obtain ⟨X', h1, h2, h3, h4, h5⟩ := new_row (X := X) (F := F) (w' := { X.w with heap := X.w.heap.push (.cells cells' e) }) (cells := cells') (el := e) (fr := (0, 0)) (sz := sz) (cap := len) (rows := us.map AV.cells) rfl rfl rfl rfl hs.gb hs.fb (fun r hr => by
      obtain ⟨u, hu, rfl⟩ := List.mem_map.1 hr
      obtain ⟨q, hq⟩ := List.getElem?_of_mem hu
      exact (hcell q u hq).2) (by rw [f2]; simp [init]) (by simp [← hvl, hlv]) (fun q j r u hr hu => by
      simp only [List.getElem?_map, Option.map_eq_some_iff] at hr
      obtain ⟨u0, hu0, rfl⟩ := hr
      have hql : q < vs.length := by rw [hvl]; exact (List.getElem?_eq_some_iff.1 hu0).1
      obtain ⟨u1, k1, k2⟩ := hrel q vs[q] (List.getElem?_eq_getElem hql)
      rw [hu0] at k1; cases k1
      have hj : j < sz := by rw [← (hcell q u0 hu0).2]; exact (List.getElem?_eq_some_iff.1 hu).1
      have h6 := f3 q j vs[q] (List.getElem?_eq_getElem hql) hj
      have hsz := hvs vs[q] (List.getElem_mem hql)
      have hy : vs[q].cells[j]? = some vs[q].cells[j] := Array.getElem?_eq_getElem (by omega)
      rw [Nat.zero_add, hy] at h6
      exact ⟨_, h6, (hrc q u0 vs[q] hu0 k2).2 j u _ hu hy⟩) (fun j _ _ => by simp)
  refine runs_value hw ⟨X', h1, h2, h3, ?_, ?_⟩
  · have : (us.map AV.cells).length = len := by simp [← hvl, hlv]
    rw [this] at h4; exact h4
  · have : (us.map AV.cells).length = len := by simp [← hvl, hlv]
    rw [this] at h5; exact h5
end
end Go.Proofs.Ytophpbihcfdkcaa
