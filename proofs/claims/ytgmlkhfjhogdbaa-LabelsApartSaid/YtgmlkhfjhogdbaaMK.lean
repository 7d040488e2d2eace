-- slim: written by gen/slim.py from XMK.lean.tpl
/- make of a slice without elements, over abstract values. -/
import Derived.Test.YtgmlkhfjhogdbaaGE
import Derived.Laws.MakeOwn
namespace Go.Proofs.Ytgmlkhfjhogdbaa
open Go.RowKit P
set_option linter.unusedSimpArgs false
set_option linter.unusedVariables false
section
variable {P : Program} {T : Tys P} {σ : AS}
/-- A new box; what is yielded is a plain value that tells its number: a pointer, or a slice over its cells. -/
theorem eff_newboxV {o : Oper} {d : Nat} (vf : Nat → Value) {cs : List AV} (hdst : o.dst = some d) (hd : Nat.ble (d + 1) σ.n = true) (hp : Plain1 cs)
    (hrun : ∀ F X (a : Act), SimE F X σ a.tmps → ∃ (arr : Array Value) (el : TypeId), (execOp a.eval o).run P X.w = .ok (.value (vf X.w.heap.size)) (X.w.alloc (.cells arr el)) ∧ arr.size = cs.length ∧ ∀ (i : Nat) u x, cs[i]? = some u → arr[i]? = some x → Rel X u x)
    {R : AS → Prop} (hR : ∀ k, FreshK k σ.h → R ((σ.box k cs).put d (.v (vf k)))) : EffOp P o σ R := by
  intro F X a hs
  obtain ⟨arr, el, h1, h2, h3⟩ := hrun F X a hs
  have hn : New X ⟨X.w.alloc (.cells arr el), X.g⟩ := ⟨rfl, rfl, rfl, by show X.w.heap.size ≤ (X.w.heap.push _).size; simp, fun b hb => ⟨by show (X.w.heap.push _)[b]? = _; rw [Array.getElem?_push, if_neg (by omega)], rfl⟩⟩
  have hgb : ∀ b n, X.g b = some n → b < (X.w.alloc (.cells arr el)).heap.size := fun b n hb => by have := hs.gb b n hb; show b < (X.w.heap.push _).size; simp; omega
  have hnew := hs.new hn hgb
  have hgk : X.g X.w.heap.size = none := by
    cases hg : X.g X.w.heap.size with
    | none => rfl
    | some n => have := hs.gb _ _ hg; omega
  have hhk : (X.w.alloc (.cells arr el)).heap[X.w.heap.size]? = some (.cells arr el) := by show (X.w.heap.push _)[_]? = _; simp
  have hb : BoxOk F ⟨X.w.alloc (.cells arr el), X.g⟩ X.w.heap.size cs := by
    refine CellsOk.box ⟨hgk, fun hF => Nat.lt_irrefl _ (hs.fb _ hF), arr, el, (0, 0), hhk, h2, fun o => ?_, fun i u x hu hx => (h3 i u x hu hx).mono (hn.pres hs.gb)⟩
    show (X.w.alloc (.cells arr el)).frozen? ⟨X.w.heap.size, o, none⟩ = false
    simp only [World.frozen?, hhk]; simp
  refine runs_value h1 ⟨⟨X.w.alloc (.cells arr el), X.g⟩, _, rfl, hR X.w.heap.size (fun q hq e1 => ?_), ?_, hn.ext hs.gb hs.fb⟩
  · obtain ⟨k, cs'⟩ := q
    simp only at e1
    subst e1
    -- the key of a box is a block that is there
    have : ∀ {l : List (Nat × List AV)} {k : Nat} {c : List AV}, (k, c) ∈ l → ∃ c', look l k = some c' := by
      intro l
      induction l with
      | nil => intro k c h; cases h
      | cons p l ih =>
        intro k c h
        obtain ⟨k0, c0⟩ := p
        by_cases e2 : k = k0
        · exact ⟨c0, by rw [look_cons, if_pos e2]⟩
        · rcases List.mem_cons.1 h with h | h
          · cases h; exact absurd rfl e2
          · obtain ⟨c', h'⟩ := ih h
            exact ⟨c', by rw [look_cons, if_neg e2]; exact h'⟩
    obtain ⟨c', h'⟩ := this hq
    exact Nat.lt_irrefl _ (hs.box _ _ h').lt
  · rw [hdst]
    exact (hnew.box1 hb hp).put_new (lt_of_ble hd) (New.refl _) hgb (.v _) (FreshOk.plain rfl)
/-- makeSlice: its cells are a box. -/
theorem eff_make_box {x y : Operand} {t ty e : TypeId} {pos : String} {af : Array Edge} {g : Option (Nat × Bool)} {d : Nat} {sz by_ n c : Nat} {kx ky : IntKind} {zv : Value} (hx : opV σ x = some (.v (.int kx (n : Int)))) (hy : opV σ y = some (.v (.int ky (c : Int)))) (hn : n ≤ c) (ht : look T.ty t = some (.slice e)) (hz : look T.sz e = some (sz, by_)) (hzr : look T.zr e = some zv) (hfit : by_ * c ≤ 281474976710656) (hc : c ≤ 9223372036854775807) (hd : Nat.ble (d + 1) σ.n = true)
    {R : AS → Prop} (hR : ∀ k, FreshK k σ.h → R ((σ.box k ((madeCells zv.cells (c * sz)).toList.map .v)).put d (.v (.slice (some ⟨k, 0, none⟩) n c)))) : EffOp P ⟨some d, .makeSlice t x y, ty, pos, af, g⟩ σ R := by
  refine eff_newboxV (fun k => .slice (some ⟨k, 0, none⟩) n c) rfl hd (fun u hu => ?_) (fun F X a hs => ?_) hR
  · obtain ⟨v, _, rfl⟩ := List.mem_map.1 hu
    rfl
  · obtain ⟨i, hi1, hi2⟩ := T.zrOk _ _ hzr
    obtain ⟨i', hj1, hj2, hj3, _⟩ := T.szOk _ _ _ hz
    rw [hi1] at hj1; cases hj1
    have e1 := rel_v (opV_rel' hs hx)
    have e2 := rel_v (opV_rel' hs hy)
    have hb : (i.bytes : Int) * (c : Int) ≤ 281474976710656 := by
      rw [hj3]
      have h : ((by_ * c : Nat) : Int) ≤ 281474976710656 := by omega
      rwa [Int.natCast_mul] at h
    have hr := run_make (P := P) X.w t e i zv (T.tyOk _ _ ht) hi1 hi2 kx ky (n : Int) (c : Int) (by omega) (by omega) hb (by omega)
    simp only [Int.toNat_natCast] at hr
    refine ⟨madeCells zv.cells (c * i.size), e, ?_, by simp [hj2], fun q u v hu hv => ?_⟩
    · simp only [execOp, e1, e2]
      exact run_val hr
    · rw [List.getElem?_map, ← hj2, Array.getElem?_toList, hv] at hu
      cases hu; exact .v v
/-- The place of an element of a slice over a box. -/
theorem opv_index_box {x y : Operand} {t ty e : TypeId} {pos : String} {af : Array Edge} {g : Option (Nat × Bool)} {dd : Option Tmp} {sz by_ k o n c i : Nat} {ki : IntKind} (hx : opV σ x = some (.v (.slice (some ⟨k, o, none⟩) n c))) (hy : opV σ y = some (.v (.int ki (i : Int)))) (ht : look T.ty t = some (.slice e)) (hz : look T.sz e = some (sz, by_)) (hi : i < n) :
    OpV P ⟨dd, .indexAddr t x y, ty, pos, af, g⟩ σ (.v (.pointer (some ⟨k, o + i * sz, none⟩))) := by
  refine opv_same rfl fun F X a hs => ?_
  obtain ⟨it, hi1, hi2, hi3, _⟩ := T.szOk _ _ _ hz
  have e1 := rel_v (opV_rel hs (by simp [Op.operands]) hx)
  have e2 := rel_v (opV_rel hs (by simp [Op.operands]) hy)
  refine ⟨_, ?_, .v _⟩
  simp only [execOp, e1, e2]
  have hu := T.tyOk _ _ ht
  have h1 : ¬ ((i : Int) < 0) := by omega
  have h2 : (i : Int) < (n : Int) := by omega
  refine run_val ?_
  simp [Instr.indexAt, asIntOf, run_underlying hu, sizeOf, typeInfo, hi1, hi2, h1, h2, add_off]
  intro h; omega
theorem flat_one {α : Type} : ∀ {L : List (List α)}, (∀ r ∈ L, r.length = 1) → ∀ i : Nat, L.flatten[i]? = (L[i]?).bind fun r => r[0]?
  | [], _, i => by simp
  | r :: L, h, i => by
    have h1 := h r List.mem_cons_self
    match r, h1 with
    | [x], _ =>
      cases i with
      | zero => simp
      | succ i => simpa using flat_one (fun q hq => h q (List.mem_cons_of_mem _ hq)) i
theorem flat_one_len {α : Type} : ∀ {L : List (List α)}, (∀ r ∈ L, r.length = 1) → L.flatten.length = L.length
  | [], _ => rfl
  | r :: L, h => by
    have h1 := h r List.mem_cons_self
    have h2 := flat_one_len fun q hq => h q (List.mem_cons_of_mem _ hq)
    simp only [List.flatten_cons, List.length_append, List.length_cons, h2]; omega
/-- buildSlice of elements of one cell: its cells are a box. -/
theorem eff_build_box {ps : Array (Nat × Operand)} {t ty e : TypeId} {pos : String} {af : Array Edge} {g : Option (Nat × Bool)} {d len sz by_ : Nat} {us : List AV} (hsz1 : sz = 1) (ht : look T.ty t = some (.slice e)) (hz : look T.sz e = some (sz, by_)) (hp : partsOk ps.toList 0 = true) (hl : Nat.beq len ps.toList.length = true) (hx : opVs σ (ps.toList.map (·.2)) = some us)
    (hc : us.all (fun u => u.okc && Nat.beq u.cells.length sz) = true) (hpl : ∀ u ∈ (us.map AV.cells).flatten, own1 (some u) = none) (hm : Nat.ble (len * sz) 16777216 = true) (hd : Nat.ble (d + 1) σ.n = true) {R : AS → Prop} (hR : ∀ k, FreshK k σ.h → R ((σ.box k (us.map AV.cells).flatten).put d (.v (.slice (some ⟨k, 0, none⟩) len len)))) :
    EffOp P ⟨some d, .buildSlice t len ps, ty, pos, af, g⟩ σ R := by
  refine eff_newboxV (fun k => .slice (some ⟨k, 0, none⟩) len len) rfl hd (fun u hu => hpl u hu) (fun F X a hs => ?_) hR
  obtain ⟨i, hi1, hi2, hi3, zv, hi4, hi5⟩ := T.szOk _ _ _ hz
  have hlen := Nat.eq_of_beq_eq_true hl
  have hle := Nat.le_of_ble_eq_true hm
  obtain ⟨g1, g2⟩ := opVs_get hx
  simp only [List.length_map] at g1
  have hmem : ∀ p ∈ ps.toList, p.2 ∈ (Op.buildSlice t len ps).operands.toList := fun p hp => by simp only [Op.operands]; exact List.mem_map.2 ⟨p, hp, rfl⟩
  have hrel : ∀ (q : Nat) v, (ps.toList.map fun p => a.eval p.2)[q]? = some v → ∃ u, us[q]? = some u ∧ Rel X u v := by
    intro q v hv
    simp only [List.getElem?_map, Option.map_eq_some_iff] at hv
    obtain ⟨p, hpq, rfl⟩ := hv
    obtain ⟨u, h1, h2⟩ := g2 q p.2 (by simp [List.getElem?_map, hpq])
    exact ⟨u, h1, opV_rel' hs h2⟩
  have hcell : ∀ (q : Nat) u, us[q]? = some u → u.okc = true ∧ u.cells.length = sz := by
    intro q u hu
    have := List.all_eq_true.1 hc u (List.mem_of_getElem? hu)
    simp only [Bool.and_eq_true] at this
    exact ⟨this.1, Nat.eq_of_beq_eq_true this.2⟩
  have hrc : ∀ (q : Nat) u v, us[q]? = some u → Rel X u v → u.cells.length = v.cells.size ∧ ∀ (j : Nat) c y, u.cells[j]? = some c → v.cells[j]? = some y → Rel X c y := by
    intro q u v hu hr
    refine rel_cells hr fun xs hxs => ?_
    have hk := (hcell q u hu).1
    subst hxs
    cases hr with
    | ag us xs hl hr => exact ⟨us, rfl⟩
    | v => cases hk
  let vs := ps.toList.map fun p => a.eval p.2
  have hvl : vs.length = us.length := by simp [vs, g1]
  have hvs : ∀ v ∈ vs, v.cells.size = sz := by
    intro v hv
    obtain ⟨q, hq⟩ := List.getElem?_of_mem hv
    obtain ⟨u, h1, h2⟩ := hrel q v hq
    rw [← (hrc q u v h1 h2).1]; exact (hcell q u h1).2
  let z0 : Array Value := if len * sz = 0 then #[] else zv.cells
  let init : Array Value := (Array.range (len * sz)).map (z0[· % z0.size]!)
  obtain ⟨cells', f1, f2, f3, f4⟩ := fill_rows sz vs 0 init hvs (by simp [init, hvl, g1, hlen])
  have hlv : vs.length = len := by rw [hvl, g1, hlen]
  have hw : (execOp a.eval ⟨some d, .buildSlice t len ps, ty, pos, af, g⟩).run P X.w = .ok (.value (.slice (some ⟨X.w.heap.size, 0, none⟩) len len)) (X.w.alloc (.cells cells' e)) := by
    simp only [execOp]
    refine run_val ?_
    have hparts : (ps.map fun p => (p.1, a.eval p.2)).toList = (vs.zipIdx 0).map fun p => (p.2, p.1) := by
      rw [Array.toList_map]; exact partsOk_zip hp
    have hnot : ¬ len * sz > 16777216 := by omega
    simp only [init, z0] at f1
    have hparts' : (Array.map (fun x => match x with | (i, x) => (i, a.eval x)) ps).toList = (vs.zipIdx 0).map fun p => (p.2, p.1) := hparts
    have hzero : ∀ w : World, (zeroValue e).run P w = .ok zv w := fun w => by simp [zeroValue, typeInfo, hi1, hi4]
    by_cases h0 : len * sz = 0
    · simp only [h0, if_true] at f1
      have hpz : ps.toList.map (fun p => (p.1, a.eval p.2)) = (vs.zipIdx 0).map fun p => (p.2, p.1) := partsOk_zip hp
      simp at f1
      simp [Instr.buildSlice, run_underlying (T.tyOk _ _ ht), sizeOf, typeInfo, hi1, hi2, h0, hpz, f1, newRow, newObj, Sem.run]
    · rw [if_neg h0] at f1
      have hpz : ps.toList.map (fun p => (p.1, a.eval p.2)) = (vs.zipIdx 0).map fun p => (p.2, p.1) := partsOk_zip hp
      simp [Instr.buildSlice, run_underlying (T.tyOk _ _ ht), sizeOf, hzero, typeInfo, hi1, hi2, h0, hle, hpz, f1, newRow, newObj, Sem.run]
  have hrow : ∀ r ∈ us.map AV.cells, r.length = 1 := fun r hr => by
    obtain ⟨u, hu, rfl⟩ := List.mem_map.1 hr
    obtain ⟨q, hq⟩ := List.getElem?_of_mem hu
    rw [(hcell q u hq).2, hsz1]
  refine ⟨cells', e, hw, ?_, fun q u v hu hv => ?_⟩
  · rw [flat_one_len hrow, f2, List.length_map, ← hvl, hlv]
    simp [init, hsz1]
  · rw [flat_one hrow] at hu
    simp only [List.getElem?_map] at hu
    cases hq : us[q]? with
    | none => rw [hq] at hu; cases hu
    | some u0 =>
      rw [hq] at hu
      have hu' : u0.cells[0]? = some u := hu
      have hql : q < vs.length := by rw [hvl]; exact (List.getElem?_eq_some_iff.1 hq).1
      obtain ⟨u1, k1, k2⟩ := hrel q vs[q] (List.getElem?_eq_getElem hql)
      rw [hq] at k1; cases k1
      have h6 := f3 q 0 vs[q] (List.getElem?_eq_getElem hql) (by omega)
      have hsz := hvs vs[q] (List.getElem_mem hql)
      have hy : vs[q].cells[0]? = some vs[q].cells[0] := Array.getElem?_eq_getElem (by omega)
      have hix : q * sz + 0 = q := by rw [hsz1]; omega
      rw [Nat.zero_add, hy, hix] at h6
      rw [hv] at h6
      cases h6
      exact (hrc q u0 vs[q] hq k2).2 0 u _ hu' hy
/-- append to a slice over a box that has room: the box's next cells are written. -/
theorem eff_append_box {x y : Operand} {t u ty e : TypeId} {pos : String} {af : Array Edge} {g : Option (Nat × Bool)} {d by_ k n c : Nat} {cs : List AV} {m : List (List AV)} {du : TypeDesc} (hx : opV σ x = some (.v (.slice (some ⟨k, 0, none⟩) n c))) (hb : look σ.h k = some cs) (hmp : isMpB cs = false) (ht : look T.ty t = some (.slice e)) (hu : look T.ty u = some du) (hnz : du = .string ∨ ∃ e', du = .slice e') (hz : look T.sz e = some (1, by_))
    (hadd : ∀ F X (a : Act), SimE F X σ a.tmps → ∃ q, AddsA P X 1 m (a.eval y) q) (hroom : n + m.length ≤ c) (hfit : n + m.length ≤ cs.length) (hd : Nat.ble (d + 1) σ.n = true) (hpl : Plain1 m.flatten)
    {R : AS → Prop} (hR : R ((σ.setc k (splice cs n m.flatten)).put d (.v (.slice (some ⟨k, 0, none⟩) (n + m.length) c)))) :
    EffOp P ⟨some d, .call { callee := .builtin .append, args := #[x, y], argTypes := #[t, u] }, ty, pos, af, g⟩ σ R := by
  intro F X a hs
  obtain ⟨i, hi1, hi2, hi3, zv, hi4, hi5⟩ := T.szOk _ _ _ hz
  obtain ⟨q, hadd⟩ := hadd F X a hs
  have e1 := rel_v (opV_rel' hs hx)
  have hA : Adds P X.w i.size m.length (a.eval y) (rowCells 1 m.length q) := ⟨hadd.len, by rw [hi2]; exact hadd.first, by rw [hi2]; exact rowCells_length _ _ _⟩
  obtain ⟨b1, b2, arr, el, fr, b3, b4, b5, b6⟩ := (hs.box k cs hb).cells hmp
  have hrl := rowCells_length 1 m.length q
  rw [Nat.mul_one] at hrl
  have hcell : ∀ j, j < (rowCells 1 m.length q).length → (X.w.cell? ⟨k, n * i.size + j, none⟩).isSome = true := by
    intro j hj
    rw [hrl] at hj
    have : n * i.size + j < arr.size := by rw [hi2, b4]; omega
    simp [World.cell?, b3, this]
  have hrun := run_append_in (P := P) (ty := ty) (b := k) (sLen := n) (sCap := c) (T.tyOk _ _ ht) (T.tyOk _ _ hu) hnz hi1 hA hadd.one hroom hcell (fun j _ => b5 _)
  rw [hi2, Nat.mul_one] at hrun
  have hml : m.flatten.length = m.length := flat_one_len hadd.rows
  obtain ⟨s1, s2⟩ := SimE.setc (cs := cs) (us := m.flatten) (vs := rowCells 1 m.length q) (o := n) hs hb (by rw [hml]; exact hfit) (by rw [hrl, hml]) (fun j u v hu hv => by
    rw [flat_one hadd.rows] at hu
    cases hr : m[j]? with
    | none => rw [hr] at hu; cases hu
    | some r =>
      rw [hr] at hu
      have hj := (List.getElem?_eq_some_iff.1 hr).1
      have h0 := rowCells_get (sz := 1) (n := m.length) (c := q) (i := j) (j := 0) hj (by decide)
      rw [show j * 1 + 0 = j by omega, hv] at h0
      cases h0
      exact hadd.rel j 0 r u hr hu) (fun j sz l v ho => by
    cases hi : m.flatten[j]? with
    | none => rw [hi] at ho; cases ho
    | some u => rw [hi, hpl u (List.mem_of_getElem? hi)] at ho; cases ho) (fun j j' p q ho => by
    cases hi : m.flatten[j]? with
    | none => rw [hi] at ho; cases ho
    | some u => rw [hi, hpl u (List.mem_of_getElem? hi)] at ho; cases ho) hmp
  refine runs_value (x := .slice (some ⟨k, 0, none⟩) (n + m.length) c) (w' := X.w.setCells k n (rowCells 1 m.length q)) (run_builtin_append (by rw [e1]) rfl hrun) ⟨⟨X.w.setCells k n (rowCells 1 m.length q), X.g⟩, _, rfl, hR, ?_, s2⟩
  exact s1.put_new (lt_of_ble hd) (New.refl _) s1.gb (.v _) (FreshOk.plain rfl)
end
end Go.Proofs.Ytgmlkhfjhogdbaa
