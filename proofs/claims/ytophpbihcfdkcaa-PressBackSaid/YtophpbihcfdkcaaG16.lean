/- The layer of abstract values: boxes, structs by value, closures made; contracts of the two layers into each other. -/
import Derived.Test.YtophpbihcfdkcaaG15
namespace Go.Proofs.Ytophpbihcfdkcaa
open Go.RowKit P
set_option linter.unusedSimpArgs false
set_option linter.unusedVariables false
section
variable {P : Program} {Q : Exit → AS → Prop} {ks : List It} {T : Tys P} {σ : AS} {t u ty e : TypeId} {x y z : Operand} {pos : String} {af : Array Edge} {g : Option (Nat × Bool)} {F : Nat → Prop} {X : GW} {d : Nat}

def Plain1 (cs : List AV) : Prop := ∀ u ∈ cs, own1 (some u) = none
/-- A box more. -/
def AS.box (σ : AS) (k : Nat) (cs : List AV) : AS := { n := σ.n, t := σ.t, h := (k, cs) :: σ.h, e := σ.e }
theorem SimE.box1 {tm : Array Value} {k : Nat} {cs : List AV} (h : SimE F X σ tm) (hb : BoxOk F X k cs) (hp : Plain1 cs) : SimE F X (σ.box k cs) tm := by
  refine ⟨h.toSim.reown rfl h.slot (fun k' cs' hk => ?_) h.eqs id (fun r sz l ho => .inr ⟨?_, rfl⟩) (fun _ _ hne _ _ => hne), h.eqm⟩
  · simp only [AS.box, look_cons] at hk
    split at hk
    · rename_i e1; subst e1; cases hk; exact hb
    · exact h.box k' cs' hk
  · cases r with
    | s t => exact ho
    | c k' o =>
      simp only [AS.own, AS.box, look_cons, id] at ho ⊢
      by_cases e1 : k' = k
      · rw [if_pos e1] at ho
        simp only at ho
        cases hc : cs[o]? with
        | none => rw [hc] at ho; cases ho
        | some u => rw [hc, hp u (List.mem_of_getElem? hc)] at ho; cases ho
      · rw [if_neg e1] at ho; exact ho
def FreshK (k : Nat) (h : List (Nat × List AV)) : Prop := ∀ q ∈ h, q.1 ≠ k
theorem eff_newbox {o : Oper} {cs : List AV} (hdst : o.dst = some d) (hd : Nat.ble (d + 1) σ.n = true) (hp : Plain1 cs)
    (hrun : ∀ F X (a : Act), SimE F X σ a.tmps → ∃ (arr : Array Value) (el : TypeId), (execOp a.eval o).run P X.w = .ok (.value (.pointer (some ⟨X.w.heap.size, 0, none⟩))) (X.w.alloc (.cells arr el)) ∧ arr.size = cs.length ∧ ∀ (i : Nat) u x, cs[i]? = some u → arr[i]? = some x → Rel X u x)
    {R : AS → Prop} (hR : ∀ k, FreshK k σ.h → R ((σ.box k cs).put d (.v (.pointer (some ⟨k, 0, none⟩))))) : EffOp P o σ R := by
  intro F X a hs
  obtain ⟨arr, el, h1, h2, h3⟩ := hrun F X a hs
  have hn : New X ⟨X.w.alloc (.cells arr el), X.g⟩ := ⟨rfl, rfl, rfl, by show X.w.heap.size ≤ (X.w.heap.push _).size; simp, fun b hb => ⟨by show (X.w.heap.push _)[b]? = _; rw [Array.getElem?_push, if_neg (by omega)], rfl⟩⟩
  have hgb : ∀ b n, X.g b = some n → b < (X.w.alloc (.cells arr el)).heap.size := fun b n hb => by have := hs.gb b n hb; show b < (X.w.heap.push _).size; simp; omega
  have hnew := hs.new hn hgb
  have hgk : X.g X.w.heap.size = none := by
    cases hg : X.g X.w.heap.size with
    | none => rfl
    | some n => have := hs.gb _ _ hg; omega
  have hhk : (X.w.alloc (.cells arr el)).heap[X.w.heap.size]? = some (.cells arr el) := by show (X.w.heap.push _)[_]? = _; simp
  have hb : BoxOk F ⟨X.w.alloc (.cells arr el), X.g⟩ X.w.heap.size cs := by
    refine CellsOk.box ⟨hgk, fun hF => Nat.lt_irrefl _ (hs.fb _ hF), arr, el, (0, 0), hhk, h2, fun o => ?_, fun i u x hu hx => (h3 i u x hu hx).mono (hn.pres hs.gb)⟩
    show (X.w.alloc (.cells arr el)).frozen? ⟨X.w.heap.size, o, none⟩ = false
    simp only [World.frozen?, hhk]; simp
  refine runs_value h1 ⟨⟨X.w.alloc (.cells arr el), X.g⟩, _, rfl, hR X.w.heap.size (fun q hq e1 => ?_), ?_, hn.ext hs.gb hs.fb⟩
  · obtain ⟨k, cs'⟩ := q
    simp only at e1
    subst e1
    -- the key of a box is a block that is there
    have : ∀ {l : List (Nat × List AV)} {k : Nat} {c : List AV}, (k, c) ∈ l → ∃ c', look l k = some c' := by
      intro l
      induction l with
      | nil => intro k c h; cases h
      | cons p l ih =>
        intro k c h
        obtain ⟨k0, c0⟩ := p
        by_cases e2 : k = k0
        · exact ⟨c0, by rw [look_cons, if_pos e2]⟩
        · rcases List.mem_cons.1 h with h | h
          · cases h; exact absurd rfl e2
          · obtain ⟨c', h'⟩ := ih h
            exact ⟨c', by rw [look_cons, if_neg e2]; exact h'⟩
    obtain ⟨c', h'⟩ := this hq
    exact Nat.lt_irrefl _ (hs.box _ _ h').lt
  · rw [hdst]
    exact (hnew.box1 hb hp).put_new (lt_of_ble hd) (New.refl _) hgb (.v _) (FreshOk.plain rfl)
theorem eff_alloc {zv : Value} {el : TypeId} (hz : look T.zr el = some zv) (hd : Nat.ble (d + 1) σ.n = true) {R : AS → Prop} (hR : ∀ k, FreshK k σ.h → R ((σ.box k (zv.cells.toList.map .v)).put d (.v (.pointer (some ⟨k, 0, none⟩))))) : EffOp P ⟨some d, .alloc el, ty, pos, af, g⟩ σ R := by
  obtain ⟨i, h1, h2⟩ := T.zrOk _ _ hz
  refine eff_newbox rfl hd (fun u hu => by obtain ⟨x, _, rfl⟩ := List.mem_map.1 hu; rfl) (fun F X a hs => ⟨zv.cells, el, ?_, by simp, fun i u x hu hx => ?_⟩) hR
  · simp [execOp, Instr.alloc, zeroValue, typeInfo, h1, h2, newVar, newRow, newObj, Sem.run]
  · simp only [List.getElem?_map, Option.map_eq_some_iff] at hu
    obtain ⟨z, hz, rfl⟩ := hu
    have : z = x := by have : some z = some x := hz.symm.trans (by simpa using hx); exact Option.some.inj this
    subst this; exact .v _
theorem eff_box {el : TypeId} {u0 : AV} (hx : opV σ x = some u0) (hok : u0.okc = true) (hp : Plain1 u0.rd.cells) (hd : Nat.ble (d + 1) σ.n = true) {R : AS → Prop} (hR : ∀ k, FreshK k σ.h → R ((σ.box k u0.rd.cells).put d (.v (.pointer (some ⟨k, 0, none⟩))))) : EffOp P ⟨some d, .box el x, ty, pos, af, g⟩ σ R := by
  refine eff_newbox rfl hd hp (fun F X a hs => ?_) hR
  have h1 := (opV_rel' hs hx).rd
  have h2 := rel_cells h1 (fun xs hxs => by
    rw [hxs] at h1
    cases u0 with
    | ag cs => exact ⟨cs, rfl⟩
    | v z => cases h1; cases hok
    | sl _ _ _ => cases h1
    | tu _ => cases h1
    | el _ => cases h1
    | fn _ _ => cases h1
    | ifc _ _ => cases h1
    | mp _ => cases h1)
  refine ⟨(a.eval x).cells, el, ?_, h2.1.symm, fun i u y hu hy => h2.2 i u y hu hy⟩
  simp [execOp, Instr.box, newVar, newRow, newObj, Sem.run]

/-- Cells of a box are written. -/
def splice (cs : List AV) (o : Nat) (us : List AV) : List AV := cs.take o ++ us ++ cs.drop (o + us.length)
def AS.setc (σ : AS) (k : Nat) (cs : List AV) : AS := { n := σ.n, t := σ.t, h := (k, cs) :: σ.h, e := σ.dropC.e }
theorem setCells_shape {b : Nat} {el : TypeId} {fr : Nat × Nat} : ∀ (vs : List Value) (o : Nat) (w : World) (cs : Array Value), w.heap[b]? = some (.cells cs el fr) → ∃ cs' : Array Value, (w.setCells b o vs).heap[b]? = some (.cells cs' el fr) ∧ cs'.size = cs.size ∧ (w.setCells b o vs).heap.size = w.heap.size ∧ (w.setCells b o vs).os = w.os ∧ (w.setCells b o vs).tape = w.tape ∧ (w.setCells b o vs).output = w.output
  | [], o, w, cs, h => ⟨cs, h, rfl, rfl, rfl, rfl, rfl⟩
  | v :: r, o, w, cs, h => by
    simp only [World.setCells]
    have h2 : (w.setCell ⟨b, o, none⟩ v).heap[b]? = some (.cells (cs.setIfInBounds o v) el fr) := by
      have hlt := (Array.getElem?_eq_some_iff.1 h).1
      have hv : w.heap[b] = .cells cs el fr := by rw [Array.getElem?_eq_getElem hlt] at h; exact Option.some.inj h
      simp [World.setCell, Array.getElem_modify, hlt, hv]
    obtain ⟨cs', k1, k2, k3, k4, k5, k6⟩ := setCells_shape r (o + 1) _ _ h2
    exact ⟨cs', k1, by rw [k2]; simp, by rw [k3]; simp [World.setCell], k4, k5, k6⟩
theorem setCells_heap {b : Nat} : ∀ (vs : List Value) (o : Nat) (w : World) (k : Nat), k ≠ b → (w.setCells b o vs).heap[k]? = w.heap[k]?
  | [], _, _, _, _ => rfl
  | v :: r, o, w, k, hk => by simp only [World.setCells]; rw [setCells_heap r _ _ _ hk]; exact Below.heap_setCell _ _ _ _ hk

theorem run_storeAt {w : World} {a v : Value} {b o : Nat} {n by_ : Nat} (ha : a = .pointer (some ⟨b, o, none⟩)) (hz : look T.sz t = some (n, by_)) (hv : v.cells.size = n) (h1 : ∀ x ∈ v.cells.toList, x.oneCell' = true)
    (hc : ∀ j, j < n → (w.cell? ⟨b, o + j, none⟩).isSome = true) (hf : ∀ j, j < n → w.frozen? ⟨b, o + j, none⟩ = false) : (Instr.storeAt t a v).run P w = .ok () (w.setCells b o v.cells.toList) := by
  obtain ⟨i, hi1, hi2, hi3⟩ := T.szOk _ _ _ hz
  subst ha
  have hst := run_storeCells_cells (P := P) b o v.cells.toList 0 w (by simpa [hv] using hc) (by simpa [hv] using hf) h1
  simp only [Nat.add_zero] at hst
  simp [Instr.storeAt, Instr.sureAddr, storeVar, sizeOf, typeInfo, hi1, hi2, hv, hst]

/-- What becomes of the state where cells of a box are written. -/
theorem SimE.setc {tm : Array Value} {k o : Nat} {cs us : List AV} {vs : List Value} (h : SimE F X σ tm) (hb : look σ.h k = some cs) (hl : o + us.length ≤ cs.length) (hvl : vs.length = us.length) (hr : ∀ (i : Nat) u v, us[i]? = some u → vs[i]? = some v → Rel X u v)
    (hown : ∀ (i : Nat) sz l v, own1 us[i]? = some (sz, l) → vs[i]? = some v → OwnOk F X sz l v ∧ (∀ r sz' l' a n c a' n' c', σ.own r = some (sz', l') → rootV tm X.w r = some (.slice (some a) n c) → v = .slice (some a') n' c' → a.block ≠ a'.block))
    (hone : ∀ (i j : Nat) p q, own1 us[i]? = some p → own1 us[j]? = some q → i = j) (hm : isMpB cs = false) :
    SimE F ⟨X.w.setCells k o vs, X.g⟩ (σ.setc k (splice cs o us)) tm ∧ Ext F X ⟨X.w.setCells k o vs, X.g⟩ := by
  obtain ⟨b1, b2, arr, el, fr, b3, b4, b5, b6⟩ := (h.box k cs hb).cells hm
  obtain ⟨arr', k1, k2, k3, k4, k5, k6⟩ := setCells_shape vs o X.w arr b3
  have hheap := setCells_heap (b := k) vs o X.w
  have hpres : Pres X ⟨X.w.setCells k o vs, X.g⟩ := by
    intro b n hbn
    have hne : b ≠ k := fun e1 => by rw [e1, b1] at hbn; cases hbn
    exact ⟨n, Nat.le_refl _, hbn, fun j _ => cell_of_heap (hheap b hne)⟩
  have hext : Ext F X ⟨X.w.setCells k o vs, X.g⟩ := ⟨k4, k5, k6, by show _ ≤ (X.w.setCells k o vs).heap.size; rw [k3]; exact Nat.le_refl _, fun b hF => ⟨hheap b (fun e1 => b2 (by rw [← e1]; exact hF)), rfl⟩, hpres⟩
  refine ⟨?_, hext⟩
  have hsome : ∀ j, j < vs.length → (X.w.cell? ⟨k, o + j, none⟩).isSome = true := by
    intro j hj
    have : o + j < arr.size := by omega
    simp [World.cell?, b3, this]
  have hcellin : ∀ j (hj : j < vs.length), (X.w.setCells k o vs).cell? ⟨k, o + j, none⟩ = some vs[j] := World.cell?_setCells_in k vs o X.w hsome
  have hcellout : ∀ q, (q < o ∨ o + vs.length ≤ q) → (X.w.setCells k o vs).cell? ⟨k, q, none⟩ = X.w.cell? ⟨k, q, none⟩ := fun q hq => World.cell?_setCells_out k vs o X.w ⟨k, q, none⟩ (fun _ _ => hq)
  have harr : ∀ q, (X.w.setCells k o vs).cell? ⟨k, q, none⟩ = arr'[q]? := fun q => by simp [World.cell?, k1]
  have harr0 : ∀ q, X.w.cell? ⟨k, q, none⟩ = arr[q]? := fun q => by simp [World.cell?, b3]
  have hslen : (splice cs o us).length = cs.length := by simp [splice]; omega
  -- what stands in the spliced list
  have hsp : ∀ (q : Nat) u, (splice cs o us)[q]? = some u → (o ≤ q ∧ q < o + us.length ∧ us[q - o]? = some u) ∨ ((q < o ∨ o + us.length ≤ q) ∧ cs[q]? = some u) := by
    intro q u hq
    simp only [splice] at hq
    by_cases h1 : q < o
    · right
      rw [List.getElem?_append_left (by simp; omega), List.getElem?_append_left (by simp; omega), List.getElem?_take, if_pos h1] at hq
      exact ⟨.inl h1, hq⟩
    · by_cases h2 : q < o + us.length
      · left
        rw [List.getElem?_append_left (by simp; omega), List.getElem?_append_right (by simp; omega)] at hq
        have : (cs.take o).length = o := by simp; omega
        rw [this] at hq
        exact ⟨by omega, h2, hq⟩
      · right
        rw [List.getElem?_append_right (by simp; omega), List.getElem?_drop] at hq
        have : (cs.take o ++ us).length = o + us.length := by simp; omega
        rw [this] at hq
        refine ⟨.inr (by omega), ?_⟩
        rw [← hq]; congr 1; omega
  have hrootS : ∀ t, rootV tm (X.w.setCells k o vs) (.s t) = rootV tm X.w (.s t) := fun _ => rfl
  -- owners of the new state
  have howns : ∀ r sz l, (σ.setc k (splice cs o us)).own r = some (sz, l) → (∃ i, r = .c k (o + i) ∧ own1 us[i]? = some (sz, l) ∧ i < vs.length) ∨ (σ.own r = some (sz, l) ∧ rootV tm (X.w.setCells k o vs) r = rootV tm X.w r) := by
    intro r sz l ho
    cases r with
    | s t => exact .inr ⟨ho, rfl⟩
    | c k' o' =>
      simp only [AS.own, AS.setc, look_cons] at ho
      by_cases e1 : k' = k
      · rw [if_pos e1] at ho
        subst e1
        simp only at ho
        cases hq : (splice cs o us)[o']? with
        | none => rw [hq] at ho; cases ho
        | some u =>
          rw [hq] at ho
          rcases hsp o' u hq with ⟨g1, g2, g3⟩ | ⟨g1, g2⟩
          · exact .inl ⟨o' - o, by congr 1; omega, by rw [g3]; exact ho, by omega⟩
          · refine .inr ⟨by simp only [AS.own]; rw [hb]; simp only; rw [g2]; exact ho, ?_⟩
            simp only [rootV]; exact hcellout o' (by omega)
      · rw [if_neg e1] at ho
        refine .inr ⟨ho, ?_⟩
        simp only [rootV]; exact cell_of_heap (hheap k' e1)
  have hnewroot : ∀ i (hi : i < vs.length), rootV tm (X.w.setCells k o vs) (.c k (o + i)) = some vs[i] := fun i hi => hcellin i hi
  have toX' : ∀ {sz l y}, OwnOk F X sz l y → OwnOk F ⟨X.w.setCells k o vs, X.g⟩ sz l y := by
    intro sz l y hk
    refine hk.keep fun b n c hy => ?_
    have hbk : b ≠ k := fun e1 => by
      rcases hk with ⟨hk, _⟩ | ⟨b', cap, cs', e', fr', m1, m2, _⟩
      · rw [hk] at hy; cases hy
      · rw [m1] at hy; cases hy; rw [e1, b1] at m2; cases m2
    exact ⟨hheap b hbk, rfl, (hk.lt hy).2⟩
  have heq : EqsOk σ.dropC.e tm (X.w.setCells k o vs) := by
    intro p hp
    have h1 := h.eqm p (List.mem_filter.1 hp).1
    cases hr2 : p.2 with
    | s t => rw [hr2] at h1; exact h1
    | c b q => exact absurd hr2 (dropC_no p hp q)
  refine ⟨⟨h.size, fun b n hbn => by show b < (X.w.setCells k o vs).heap.size; rw [k3]; exact h.gb b n hbn, fun b hF => by show b < (X.w.setCells k o vs).heap.size; rw [k3]; exact h.fb b hF, fun t u hu => (h.slot t u hu).mono hpres, fun k' cs' hk => ?_, heq.look, fun r sz l ho => ?_, fun r r' sz l sz' l' a n c a' n' c' hne ho ho' hr1 hr2 => ?_⟩, heq⟩
  · simp only [AS.setc, look_cons] at hk
    by_cases e1 : k' = k
    · subst e1
      rw [if_pos rfl] at hk
      cases hk
      refine CellsOk.box ⟨b1, b2, arr', el, fr, k1, by rw [k2, b4, hslen], fun q => ?_, fun q u y hu hy => ?_⟩
      · show (X.w.setCells k' o vs).frozen? _ = false
        rw [World.frozen?_setCells]; exact b5 q
      · rw [← harr] at hy
        rcases hsp q u hu with ⟨g1, g2, g3⟩ | ⟨g1, g2⟩
        · have hi : q - o < vs.length := by omega
          have := hcellin (q - o) hi
          rw [show o + (q - o) = q by omega] at this
          rw [this] at hy; cases hy
          exact (hr (q - o) u _ g3 (List.getElem?_eq_getElem hi)).mono hpres
        · rw [hcellout q (by omega), harr0] at hy
          exact (b6 q u y g2 hy).mono hpres
    · rw [if_neg e1] at hk
      have hbx := h.box k' cs' hk
      exact hbx.keep ⟨hheap k' e1, rfl, hbx.nF⟩ hpres
  · rcases howns r sz l ho with ⟨i, rfl, h1, h2⟩ | ⟨h1, h2⟩
    · exact ⟨vs[i], hnewroot i h2, toX' (hown i sz l vs[i] h1 (List.getElem?_eq_getElem h2)).1⟩
    · obtain ⟨y, m1, m2⟩ := h.own r sz l h1
      exact ⟨y, by rw [h2]; exact m1, toX' m2⟩
  · rcases howns r sz l ho with ⟨i, rfl, h1, h2⟩ | ⟨h1, h2⟩
    · rcases howns r' sz' l' ho' with ⟨j, rfl, g1, g2⟩ | ⟨g1, g2⟩
      · exact absurd (by rw [hone i j _ _ h1 g1]) hne
      · rw [hnewroot i h2] at hr1
        rw [g2] at hr2
        exact ((hown i sz l vs[i] h1 (List.getElem?_eq_getElem h2)).2 r' sz' l' a' n' c' a n c g1 hr2 (Option.some.inj hr1)).symm
    · rcases howns r' sz' l' ho' with ⟨j, rfl, g1, g2⟩ | ⟨g1, g2⟩
      · rw [h2] at hr1
        rw [hnewroot j g2] at hr2
        exact (hown j sz' l' vs[j] g1 (List.getElem?_eq_getElem g2)).2 r sz l a n c a' n' c' h1 hr1 (Option.some.inj hr2)
      · rw [h2] at hr1; rw [g2] at hr2
        exact h.disj r r' sz l sz' l' a n c a' n' c' hne h1 g1 hr1 hr2

theorem cells_one {u : AV} {v : Value} (h : Rel X u v) (hv : ∀ xs, v = .agg xs → ∃ cs, u = .ag cs) (h1 : u.cells.all AV.one = true) : ∀ x ∈ v.cells.toList, x.oneCell' = true := by
  obtain ⟨hl, hr⟩ := rel_cells h hv
  intro x hx
  obtain ⟨i, hi⟩ := List.getElem?_of_mem hx
  have hi' : v.cells[i]? = some x := by simpa using hi
  have hil := (Array.getElem?_eq_some_iff.1 hi').1
  have hu : u.cells[i]? = some (u.cells[i]'(by omega)) := List.getElem?_eq_getElem (by omega)
  exact AV.one_rel (hr i _ x hu hi') (List.all_eq_true.1 h1 _ (List.mem_of_getElem? hu))
theorem okc_agg {u : AV} {v : Value} (h : Rel X u v) (hok : u.okc = true) : ∀ xs, v = .agg xs → ∃ cs, u = .ag cs := by
  intro xs hxs
  subst hxs
  cases h with
  | ag us xs hl hr => exact ⟨us, rfl⟩
  | v => cases hok
/-- *p = v: what is stored owns nothing there. -/
theorem eff_store {k o n by_ : Nat} {cs : List AV} {u0 : AV} (hx : opV σ x = some (.v (.pointer (some ⟨k, o, none⟩)))) (hb : look σ.h k = some cs) (hy : opV σ y = some u0) (hok : u0.okc = true) (hz : look T.sz t = some (n, by_)) (hn : Nat.beq u0.rd.cells.length n = true) (h1 : u0.rd.cells.all AV.one = true) (hp : Plain1 u0.rd.cells) (hl : Nat.ble (o + n) cs.length = true)
    {R : AS → Prop} (hR : R (σ.setc k (splice cs o u0.rd.cells))) (hm : isMpB cs = false) : EffOp P ⟨none, .store t x y, ty, pos, af, g⟩ σ R := by
  intro F X a hs
  have e1 := rel_v (opV_rel' hs hx)
  have e2 := (opV_rel' hs hy).rd
  have hokr : u0.rd.okc = true := by cases u0 <;> first | exact hok | rfl
  have hag := okc_agg e2 hokr
  obtain ⟨hcl, hcr⟩ := rel_cells e2 hag
  have hnn := Nat.eq_of_beq_eq_true hn
  have hle := Nat.le_of_ble_eq_true hl
  obtain ⟨b1, b2, arr, el, fr, b3, b4, b5, b6⟩ := (hs.box k cs hb).cells hm
  have hrun := run_storeAt (P := P) (T := T) (t := t) (w := X.w) (a := a.eval x) (v := a.eval y) (n := n) (by_ := by_) (b := k) (o := o) e1 hz (by rw [← hcl, hnn]) (cells_one e2 hag h1) (fun j hj => by
    have : o + j < arr.size := by rw [b4]; omega
    simp [World.cell?, b3, this]) (fun j hj => b5 _)
  have hfit : o + u0.rd.cells.length ≤ cs.length := by omega
  obtain ⟨s1, s2⟩ := SimE.setc (cs := cs) (us := u0.rd.cells) (vs := (a.eval y).cells.toList) hs hb hfit (by simp [hcl]) (fun i u v hu hv => hcr i u v hu (by simpa using hv)) (fun i sz l v ho => by
    cases hi : u0.rd.cells[i]? with
    | none => rw [hi] at ho; cases ho
    | some u => rw [hi, hp u (List.mem_of_getElem? hi)] at ho; cases ho) (fun i j p q ho => by
    cases hi : u0.rd.cells[i]? with
    | none => rw [hi] at ho; cases ho
    | some u => rw [hi, hp u (List.mem_of_getElem? hi)] at ho; cases ho) hm
  have hex : (execOp a.eval ⟨none, .store t x y, ty, pos, af, g⟩).run P X.w = .ok .skip (X.w.setCells k o (a.eval y).cells.toList) := by
    simp only [execOp]
    simp [hrun]
  unfold Runs
  rw [hex]
  exact ⟨_, _, rfl, hR, s1, s2⟩
/-- *p = xs: the row goes with it. -/
theorem eff_store_own {k o s sz by_ : Nat} {cs : List AV} {r : Root} {L : List (List AV)} (hx : opV σ x = some (.v (.pointer (some ⟨k, o, none⟩)))) (hr : rootOf σ s = some r) (ho : σ.own r = some (sz, L)) (hb : look (σ.lay r).h k = some cs) (hz : look T.sz t = some (1, by_)) (hl : Nat.ble (o + 1) cs.length = true)
    {R : AS → Prop} (hR : R ((σ.lay r).setc k (splice cs o [.sl true sz L]))) (hm : isMpB cs = false) : EffOp P ⟨none, .store t x (.tmp s), ty, pos, af, g⟩ σ R := by
  intro F X a hs
  have e1 := rel_v (opV_rel' hs hx)
  have hxv := rootOf_val hs hr
  have hrel := own_rel hs ho hxv
  obtain ⟨v0, hv1, hown⟩ := hs.own r sz L ho
  rw [hxv] at hv1
  have hv1' : a.tmps.getD s undef = v0 := Option.some.inj hv1
  have hev : a.eval (.tmp s) = v0 := hv1'
  rw [hv1'] at hrel
  have hs1 := hs.lay r
  have hle := Nat.le_of_ble_eq_true hl
  obtain ⟨b1, b2, arr, el, fr, b3, b4, b5, b6⟩ := (hs1.box k cs hb).cells hm
  have hvc : v0.cells.toList = [v0] ∧ v0.cells.size = 1 := by
    obtain ⟨q, c, rfl⟩ := rel_sl_form hrel
    exact ⟨rfl, rfl⟩
  have hrun := run_storeAt (P := P) (T := T) (t := t) (w := X.w) (a := a.eval x) (v := v0) (n := 1) (by_ := by_) (b := k) (o := o) e1 hz hvc.2 (by rw [hvc.1]; intro q hq; simp at hq; subst hq; obtain ⟨_, _, rfl⟩ := rel_sl_form hrel; rfl) (fun j hj => by
    have : o + j < arr.size := by omega
    simp [World.cell?, b3, this]) (fun j hj => b5 _)
  obtain ⟨s1, s2⟩ := SimE.setc (cs := cs) (us := [.sl true sz L]) (vs := [v0]) hs1 hb (by simpa using hle) rfl (fun i u v hu hv => by
    cases i with
    | zero => simp at hu hv; subst hu hv; exact hrel
    | succ i => simp at hu) (fun i sz' l' v hu hv => by
    cases i with
    | zero =>
      simp at hu hv; subst hv
      simp only [own1, Option.some.injEq, Prod.mk.injEq] at hu
      obtain ⟨rfl, rfl⟩ := hu
      refine ⟨hown, fun r' sz2 l2 q n c q' n' c' ho2 hr2 hvq => ?_⟩
      obtain ⟨h1, h2⟩ := own_lay ho2
      exact hs.disj r' r sz2 l2 sz L q n c q' n' c' h1 h2 ho hr2 (by rw [hxv, hv1', hvq])
    | succ i => simp at hv) (fun i j p q hi hj => by
    have h1 : ∀ m : Nat, ∀ z, own1 ([AV.sl true sz L][m]?) = some z → m = 0 := fun m z h => by
      cases m with
      | zero => rfl
      | succ m => simp [own1] at h
    rw [h1 i p hi, h1 j q hj]) hm
  have hex : (execOp a.eval ⟨none, .store t x (.tmp s), ty, pos, af, g⟩).run P X.w = .ok .skip (X.w.setCells k o [v0]) := by
    simp only [execOp, hev]
    rw [hvc.1] at hrun
    simp [hrun]
  unfold Runs
  rw [hex]
  exact ⟨_, _, rfl, hR, s1, s2⟩

theorem opv_mkfunc {f : FuncId} {caps : Array Operand} {us : List AV} {dd : Option Tmp} (hx : opVs σ caps.toList = some us) : OpV P ⟨dd, .makeFunc (.func f) #[] caps, ty, pos, af, g⟩ σ (.fn f us) := by
  refine opv_same rfl fun F X a hs => ⟨.func (.func f) #[] (caps.map a.eval), by simp [execOp, Instr.makeFunc], ?_⟩
  obtain ⟨g1, g2⟩ := opVs_get hx
  refine .fn f us _ (by simp [g1]) (fun i u v hu hv => ?_)
  have hil := (List.getElem?_eq_some_iff.1 hu).1
  have hic : i < caps.size := by rw [g1] at hil; simpa using hil
  have hc : caps.toList[i]? = some caps[i] := by simp [hic]
  obtain ⟨u', k1, k2⟩ := g2 i caps[i] hc
  rw [hu] at k1; cases k1
  simp [hic] at hv
  subst hv
  exact opV_rel hs (by simp [Op.operands]) k2

/-! ### The two layers -/
/-- A contract over worlds that hands back a plain value. -/
theorem acalls_of_calls {f : FuncId} {vs : List Value} {v : Value} (hf : FnOk P f) (h : ∀ w, Calls P f vs.toArray w fun e w' => e = .returned v ∧ Below w.heap.size w w') : ACalls P f (vs.map .v) [] (fun out H => out = .ret (.v v) ∧ H = []) := by
  refine ⟨hf, fun F X xs hs => ?_⟩
  have hxs : xs = vs.toArray := by
    have hsz : xs.size = vs.length := by have := hs.size; simpa using this
    apply Array.ext
    · simp [hsz]
    · intro i h1 h2
      have hi : i < vs.length := by omega
      have hlk : look (slotsOf 0 (vs.map AV.v)) i = some (.v vs[i]) := by
        have : ∀ (us : List AV) (k i : Nat) u, us[i]? = some u → look (slotsOf k us) (k + i) = some u := by
          intro us
          induction us with
          | nil => intro k i u h; simp at h
          | cons u0 us ih =>
            intro k i u h
            simp only [slotsOf, look_cons]
            cases i with
            | zero => simp at h; subst h; simp
            | succ i => rw [if_neg (by omega), show k + (i + 1) = (k + 1) + i by omega]; exact ih (k + 1) i u (by simpa using h)
        have := this (vs.map AV.v) 0 i (.v vs[i]) (by simp [hi])
        simpa using this
      have := rel_v (hs.slot i _ hlk)
      simp [h1] at this
      simp [this]
  subst hxs
  refine (h X.w).mono fun e w' ⟨he, hb⟩ => ?_
  have hn : New X ⟨w', X.g⟩ := ⟨hb.os, hb.tape, hb.output, hb.size, fun b hlt => ⟨hb.block b hlt, rfl⟩⟩
  have hgb : ∀ b n, X.g b = some n → b < w'.heap.size := fun b n hg => Nat.lt_of_lt_of_le (hs.gb b n hg) hb.size
  refine ⟨⟨w', X.g⟩, .ret (.v v), [], rfl, ⟨rfl, rfl⟩, ⟨v, he, ?_⟩, hn.ext hs.gb hs.fb⟩
  refine ⟨⟨rfl, hgb, fun b hF => Nat.lt_of_lt_of_le (hs.fb b hF) hb.size, fun t u hu => ?_, fun k cs hk => by simp [look_nil] at hk, fun x r hx => by simp [look_nil] at hx, fun r sz l ho => ?_, fun r r' sz l sz' l' a n c a' n' c' _ ho => ?_⟩, fun p hp => by cases hp⟩
  · simp only [look_cons, look_nil] at hu
    split at hu
    · rename_i e1; subst e1; cases hu; exact .v _
    · cases hu
  · cases r with
    | s t => obtain ⟨_, h2⟩ := own_one ho; cases h2
    | c k o => simp [AS.own, look_nil] at ho
  · cases r with
    | s t => obtain ⟨_, h2⟩ := own_one ho; cases h2
    | c k o => simp [AS.own, look_nil] at ho

/-- All that lies in the world w stays. -/
def allW (w : World) : GW := ⟨w, fun b => match w.heap[b]? with | some (.cells cs _ _) => some cs.size | _ => none⟩
/-- A contract over abstract values, as one over worlds. -/
theorem calls_of_acalls {f : FuncId} {us : List AV} {v : Value} {vs : List Value} {w : World} (h : ACalls P f us [] (fun out H => out = .ret (.v v) ∧ H = [])) (hl : vs.length = us.length) (hr : ∀ (i : Nat) u x, us[i]? = some u → vs[i]? = some x → Rel (allW w) u x ∧ own1 (some u) = none) : Calls P f vs.toArray w fun e w' => e = .returned v ∧ Below w.heap.size w w' := by
  have hnown : ∀ r, AS.own ⟨us.length, slotsOf 0 us, [], []⟩ r = none := by
    intro r
    cases r with
    | c k o => rfl
    | s t =>
      simp only [AS.own]
      cases hlk : look (slotsOf 0 us) t with
      | none => rfl
      | some u =>
        obtain ⟨_, h2⟩ := look_slotsOf us 0 t u hlk
        rw [Nat.sub_zero] at h2
        have ht : t < vs.length := by rw [hl]; exact (List.getElem?_eq_some_iff.1 h2).1
        exact (hr t u vs[t] h2 (List.getElem?_eq_getElem ht)).2
  have hs : SimE (fun b => b < w.heap.size) (allW w) ⟨us.length, slotsOf 0 us, [], []⟩ vs.toArray := by
    refine ⟨⟨by simp [hl], fun b n hb => ?_, fun b hb => hb, fun t u hu => ?_, fun k cs hk => by simp [look_nil] at hk, fun x r hx => by simp [look_nil] at hx, (fun r sz l ho => by rw [hnown r] at ho; cases ho), (fun r r' sz l sz' l' a n c a' n' c' _ ho => by rw [hnown r] at ho; cases ho)⟩, (fun p hp => by cases hp)⟩
    · show b < w.heap.size
      simp only [allW] at hb
      split at hb
      · rename_i cs _ _ heq; exact (Array.getElem?_eq_some_iff.1 heq).1
      · cases hb
    · obtain ⟨_, h2⟩ := look_slotsOf us 0 t u hu
      rw [Nat.sub_zero] at h2
      have ht : t < vs.length := by rw [hl]; exact (List.getElem?_eq_some_iff.1 h2).1
      have : vs.toArray.getD t undef = vs[t] := by simp [ht]
      rw [this]
      exact (hr t u vs[t] h2 (List.getElem?_eq_getElem ht)).1
  refine (h.2 _ (allW w) vs.toArray hs).mono fun e w' ⟨X', out, H', p1, p2, p3, p4⟩ => ?_
  obtain ⟨rfl, rfl⟩ := p2
  obtain ⟨y, rfl, hy⟩ := p3
  have := rel_v (hy.slot 0 (.v v) (by simp [look_cons]))
  have hyv : y = v := by simpa using this
  subst hyv p1
  exact ⟨rfl, p4.os, p4.tape, p4.output, p4.size, fun b hb => (p4.frame b hb).1⟩
end
end Go.Proofs.Ytophpbihcfdkcaa
