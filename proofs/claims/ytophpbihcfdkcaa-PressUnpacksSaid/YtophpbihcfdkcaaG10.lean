/- The layer of abstract values: append as an operation. -/
import Derived.Test.YtophpbihcfdkcaaG9
namespace Go.Proofs.Ytophpbihcfdkcaa
open Go.RowKit P
set_option linter.unusedSimpArgs false
set_option linter.unusedVariables false
section
variable {P : Program} {Q : Exit → AS → Prop} {ks : List It} {T : Tys P} {σ : AS} {t u ty e : TypeId} {x y z : Operand} {pos : String} {af : Array Edge} {g : Option (Nat × Bool)} {F : Nat → Prop} {X : GW}

theorem own1_sl {o : Option AV} {sz : Nat} {l : List (List AV)} (h : own1 o = some (sz, l)) : o = some (.sl true sz l) := by
  unfold own1 at h
  split at h
  · cases h; rfl
  · cases h
theorem own_rel {tm : Array Value} {r : Root} {sz : Nat} {l : List (List AV)} {v : Value} (hs : SimE F X σ tm) (ho : σ.own r = some (sz, l)) (hv : rootV tm X.w r = some v) : Rel X (.sl true sz l) v := by
  cases r with
  | s t =>
    have := own1_sl ho
    have h1 := hs.slot t _ this
    simp only [rootV, Option.some.injEq] at hv
    rw [← hv]; exact h1
  | c k o =>
    obtain ⟨cs, hc, h1⟩ := own_c_box ho
    have h2 := own1_sl h1
    obtain ⟨b1, b2, arr, e, fr, b3, b4, b5, b6⟩ := (hs.box k cs hc).own h1
    simp only [rootV, World.cell?, b3] at hv
    exact b6 o _ v h2 (by simpa using hv)

/-- One list behind another one, as cells. -/
theorem rows_two {sz : Nat} {L m : List (List AV)} {c c' : Nat → Nat → Value} {rest : Array Value} (hL : ∀ r ∈ L, r.length = sz) (hm : ∀ r ∈ m, r.length = sz) (rL : ∀ (i j : Nat) (r : List AV) (u : AV), L[i]? = some r → r[j]? = some u → Rel X u (c i j)) (rm : ∀ (i j : Nat) (r : List AV) (u : AV), m[i]? = some r → r[j]? = some u → Rel X u (c' i j)) :
    ∀ (i j : Nat) (r : List AV) (u : AV), (L ++ m)[i]? = some r → r[j]? = some u → ∃ v, ((rowCells sz L.length c).toArray ++ (rowCells sz m.length c').toArray ++ rest)[i * sz + j]? = some v ∧ Rel X u v := by
  intro i j r u hr hu
  have hj : j < r.length := (List.getElem?_eq_some_iff.1 hu).1
  have hsz : r.length = sz := by
    rcases List.mem_append.1 (List.mem_of_getElem? hr) with h | h
    · exact hL r h
    · exact hm r h
  have s1 : (rowCells sz L.length c).toArray.size = L.length * sz := by simp [rowCells_length]
  have s2 : (rowCells sz m.length c').toArray.size = m.length * sz := by simp [rowCells_length]
  by_cases hi : i < L.length
  · rw [List.getElem?_append_left hi] at hr
    refine ⟨c i j, ?_, rL i j r u hr hu⟩
    have hlt : i * sz + j < L.length * sz := by
      have : i * sz + sz ≤ L.length * sz := by rw [← Nat.succ_mul]; exact Nat.mul_le_mul_right _ hi
      omega
    rw [Array.getElem?_append_left (by simp only [Array.size_append, s1]; omega), Array.getElem?_append_left (by omega)]
    simpa using rowCells_get hi (by omega)
  · rw [List.getElem?_append_right (by omega)] at hr
    refine ⟨c' (i - L.length) j, ?_, rm _ j r u hr hu⟩
    have hi2 : i - L.length < m.length := (List.getElem?_eq_some_iff.1 hr).1
    have hlt : (i - L.length) * sz + j < m.length * sz := by
      have : (i - L.length) * sz + sz ≤ m.length * sz := by rw [← Nat.succ_mul]; exact Nat.mul_le_mul_right _ hi2
      omega
    have he : i * sz + j = L.length * sz + ((i - L.length) * sz + j) := by
      have : i * sz = L.length * sz + (i - L.length) * sz := by rw [← Nat.add_mul]; congr 1; omega
      omega
    rw [Array.getElem?_append_left (by simp only [Array.size_append, s1, s2]; omega), Array.getElem?_append_right (by omega), s1, he, Nat.add_sub_cancel_left]
    simpa using rowCells_get hi2 (by omega)

/-- What append leaves: X' with the longer row y. -/
structure Appended (F : Nat → Prop) (X X' : GW) (σ : AS) (tm : Array Value) (sz : Nat) (l : List (List AV)) (y : Value) : Prop where
  sim : SimE F X' σ tm
  ext : Ext F X X'
  rel : Rel X' (.sl true sz l) y
  own : OwnOk F X' sz l y
  apart : ∀ r sz l a n c a' n' c', σ.own r = some (sz, l) → rootV tm X'.w r = some (.slice (some a) n c) → y = .slice (some a') n' c' → a.block ≠ a'.block
theorem appended_new {X' : GW} {tm : Array Value} {sz : Nat} {l : List (List AV)} {y : Value} (hs : SimE F X σ tm) (hn : New X X') (hg : ∀ b n, X'.g b = some n → b < X'.w.heap.size) (hr : Rel X' (.sl true sz l) y) (hf : FreshOk F X.w.heap.size X' (.sl true sz l) y) : Appended F X X' σ tm sz l y := by
  have h1 := hf sz l rfl
  refine ⟨hs.new hn hg, hn.ext hs.gb hs.fb, hr, h1.1, fun r sz' l' a n c a' n' c' ho hrv hy => ?_⟩
  have h2 := h1.2 a' n' c' hy
  obtain ⟨v, k1, k2⟩ := hs.own r sz' l' ho
  rw [rootV_new hn k1] at hrv; cases hrv
  rcases k2 with ⟨k2, _⟩ | ⟨b, cap, cs, e, fr, k2, _, k3, _⟩
  · cases k2
  · cases k2
    have := (Array.getElem?_eq_some_iff.1 k3).1
    simp only; omega

set_option maxHeartbeats 1000000 in
theorem append_core {tm : Array Value} {i : TypeInfo} {zv : Value} {du : TypeDesc} {sz : Nat} {L m : List (List AV)} {xv yv : Value} {c' : Nat → Nat → Value} (hs : SimE F X σ tm) (ht : P.underlying t = some (.slice e)) (hu : P.underlying u = some du) (hnz : du = .string ∨ ∃ e', du = .slice e') (hi : P.info? e = some i) (hz : i.zero = some zv) (hzs : zv.cells.size = sz) (his : i.size = sz)
    (hrel : Rel X (.sl true sz L) xv) (hown : OwnOk F X sz L xv) (hL : ∀ r ∈ L, r.length = sz) (hadd : AddsA P X sz m yv c') (hfit : (L.length + m.length) * i.bytes ≤ 140737488355328) (hb : 1 ≤ i.bytes)
    (hap : ∀ r sz l a n c a' n' c', σ.own r = some (sz, l) → rootV tm X.w r = some (.slice (some a) n c) → xv = .slice (some a') n' c' → a.block ≠ a'.block) (hal : ∀ b, ∀ p ∈ σ.e, ∀ o, p.2 ≠ .c b o) :
    ∃ X' y, (Builtin.append_ #[t, u] ty #[xv, yv]).run P X.w = .ok y X'.w ∧ Appended F X X' σ tm sz (L ++ m) y := by
  have hA : Adds P X.w i.size m.length yv (rowCells sz m.length c') := ⟨hadd.len, by rw [his]; exact hadd.first, by rw [his]; exact rowCells_length _ _ _⟩
  rcases hown with ⟨rfl, rfl⟩ | ⟨b, cap, cs, el, fr, rfl, hg, hh, hcs, hfr, hF⟩
  · by_cases hm0 : m = []
    · subst hm0
      refine ⟨X, .slice none 0 0, run_append_none ht hu hnz hi hA, hs, Ext.refl F X, .nil _ _, .inl ⟨rfl, rfl⟩, fun r sz' l' a n c a' n' c' _ _ h => by cases h⟩
    · have hmp : 0 < m.length := List.length_pos_iff.2 hm0
      have hrun := run_append_out (P := P) (ty := ty) (sLen := 0) (sCap := 0) (a := none) (olds := []) ht hu hnz hi hz hA (fun w' _ => by simp [Builtin.firstCells]) (by omega) (by simpa using hfit) hb
      have hcge := grownCap_ge X.w (0 + m.length) 0 e
      obtain ⟨X', h1, h2, h3, h4, h5⟩ := new_row (X := X) (F := F) (w' := X.w.drew.alloc (.cells ((rowCells sz ([] : List (List AV)).length c').toArray ++ (rowCells sz m.length c').toArray ++ Builtin.zeroCells zv.cells (grownCap X.w (0 + m.length) 0 e - (0 + m.length))) e)) (cap := grownCap X.w (0 + m.length) 0 e) (sz := sz) (rows := [] ++ m) rfl rfl rfl rfl hs.gb hs.fb (by simpa using hadd.rows)
        (by simp only [Array.size_append, size_zeroCells, List.size_toArray, rowCells_length, hzs]; simp only [List.length_nil, Nat.zero_mul, Nat.zero_add] at hcge ⊢; rw [← Nat.add_mul]; congr 1; omega) (by simpa using hcge) (rows_two (by simp) hadd.rows (by simp) hadd.rel) (fun j _ _ => by simp)
      refine ⟨X', _, ?_, appended_new hs h2 h3 h4 h5⟩
      rw [hrun, h1]
      simp [rowCells]
  · rcases rel_sl hrel with ⟨h, _⟩ | ⟨b', off, cap', n, h, hg', hn, hc, c, c1, c2, c3⟩
    · cases h
    · cases h
      by_cases hroom : L.length + m.length ≤ cap
      · have hle : (L.length + m.length) * sz ≤ cap * sz := Nat.mul_le_mul_right _ hroom
        rw [Nat.add_mul] at hle
        have hcell : ∀ j, j < (rowCells sz m.length c').length → (X.w.cell? ⟨b, L.length * i.size + j, none⟩).isSome = true := by
          intro j hj
          rw [rowCells_length] at hj
          have : L.length * i.size + j < cs.size := by rw [his, hcs]; omega
          simp [World.cell?, hh, this]
        have hfro : ∀ j, j < (rowCells sz m.length c').length → X.w.frozen? ⟨b, L.length * i.size + j, none⟩ = false := by
          intro j hj
          rw [rowCells_length] at hj
          exact hfr _ (by rw [his]; omega) (by rw [his, hcs]; omega)
        have hrun := run_append_in (P := P) (ty := ty) (b := b) (sLen := L.length) (sCap := cap) ht hu hnz hi hA hadd.one hroom hcell hfro
        let w' := X.w.setCells b (L.length * i.size) (rowCells sz m.length c')
        have hkept : ∀ q, q < L.length * sz → w'.cell? ⟨b, q, none⟩ = X.w.cell? ⟨b, q, none⟩ := fun q hq => World.cell?_setCells_out b _ _ _ _ (fun _ _ => .inl (by rw [his]; exact hq))
        have hheap : ∀ k, k ≠ b → w'.heap[k]? = X.w.heap[k]? := by
          have : ∀ (vs : List Value) (o : Nat) (w : World) (k : Nat), k ≠ b → (w.setCells b o vs).heap[k]? = w.heap[k]? := by
            intro vs
            induction vs with
            | nil => intros; rfl
            | cons v r ih => intro o w k hk; simp only [World.setCells]; rw [ih _ _ _ hk]; exact Below.heap_setCell _ _ _ _ hk
          exact fun k hk => this _ _ _ k hk
        have hshape : ∀ (vs : List Value) (o : Nat) (w : World) (cs : Array Value), w.heap[b]? = some (.cells cs el fr) → ∃ cs' : Array Value, (w.setCells b o vs).heap[b]? = some (.cells cs' el fr) ∧ cs'.size = cs.size ∧ (w.setCells b o vs).heap.size = w.heap.size ∧ (w.setCells b o vs).os = w.os ∧ (w.setCells b o vs).tape = w.tape ∧ (w.setCells b o vs).output = w.output := by
          intro vs
          induction vs with
          | nil => intro o w cs h; exact ⟨cs, h, rfl, rfl, rfl, rfl, rfl⟩
          | cons v r ih =>
            intro o w cs h
            simp only [World.setCells]
            have h2 : (w.setCell ⟨b, o, none⟩ v).heap[b]? = some (.cells (cs.setIfInBounds o v) el fr) := by
              have hlt := (Array.getElem?_eq_some_iff.1 h).1
              have hv : w.heap[b] = .cells cs el fr := by rw [Array.getElem?_eq_getElem hlt] at h; exact Option.some.inj h
              simp [World.setCell, Array.getElem_modify, hlt, hv]
            obtain ⟨cs', k1, k2, k3, k4, k5, k6⟩ := ih (o + 1) _ _ h2
            exact ⟨cs', k1, by rw [k2]; simp, by rw [k3]; simp [World.setCell], k4, k5, k6⟩
        obtain ⟨cs', k1, k2, k3, k4, k5, k6⟩ := hshape (rowCells sz m.length c') (L.length * i.size) X.w cs hh
        have hlt := (Array.getElem?_eq_some_iff.1 hh).1
        have hpres : Pres X (X.with w' b ((L.length + m.length) * sz)) := by
          intro q n hq
          by_cases e1 : q = b
          · subst e1
            rw [hg] at hq; cases hq
            exact ⟨_, Nat.mul_le_mul_right _ (by omega), with_self, fun j hj => hkept j hj⟩
          · exact ⟨n, Nat.le_refl _, by rw [with_ne e1]; exact hq, fun j _ => cell_of_heap (hheap q e1)⟩
        have hsim : SimE F (X.with w' b ((L.length + m.length) * sz)) σ tm := by
          refine hs.turn b (fun k hk _ => ⟨hheap k hk, with_ne hk⟩) (by show X.w.heap.size ≤ w'.heap.size; rw [k3]; exact Nat.le_refl _) hpres (fun q n hq => ?_) (fun r sz' l' a n c ho hrv => hap r sz' l' a n c _ _ _ ho hrv rfl) (fun k cs0 hk e1 => ?_) (hal b)
          · show q < w'.heap.size
            rw [k3]
            by_cases e1 : q = b
            · rw [e1]; exact hlt
            · rw [with_ne e1] at hq; exact hs.gb q n hq
          · have := (hs.box k cs0 hk).gn
            rw [e1, hg] at this; cases this
        have hrw : (X.with w' b ((L.length + m.length) * sz)).w = w' := rfl
        refine ⟨X.with w' b ((L.length + m.length) * sz), _, hrun, hsim, ⟨k4, k5, k6, by rw [hrw, k3]; exact Nat.le_refl _, fun q hq => ?_, hpres⟩, ?_, .inr ⟨b, cap, cs', el, fr, by rw [List.length_append], by rw [List.length_append]; exact with_self, k1, by rw [k2, hcs], fun j h1 h2 => ?_, hF⟩, fun r sz' l' a n c a' n' c' ho hrv hy => ?_⟩
        · have hne : q ≠ b := fun e1 => hF (by rw [← e1]; exact hq)
          exact ⟨hheap q hne, with_ne hne⟩
        · suffices hR : Rel (X.with w' b ((L.length + m.length) * sz)) (.sl true sz (L ++ m)) (.slice (some ⟨b, 0, none⟩) (L ++ m).length cap) by
            rw [List.length_append] at hR; exact hR
          refine .sl true sz (L ++ m) b 0 cap _ (fun q j => if q < L.length then c q j else c' (q - L.length) j) with_self (by simp) (by simpa using hroom) (fun q r hr => ?_) (fun q j r v hr hv => ?_) (fun q j r v hr hv => ?_)
          · rcases List.mem_append.1 (List.mem_of_getElem? hr) with h | h
            · exact hL r h
            · exact hadd.rows r h
          · have hj : j < r.length := (List.getElem?_eq_some_iff.1 hv).1
            by_cases hq : q < L.length
            · rw [List.getElem?_append_left hq] at hr
              rw [if_pos hq, ← c2 q j r v hr hv]
              have hsr := c1 q r hr
              have : q * sz + sz ≤ L.length * sz := by rw [← Nat.succ_mul]; exact Nat.mul_le_mul_right _ hq
              exact hkept _ (by omega)
            · rw [List.getElem?_append_right (by omega)] at hr
              rw [if_neg hq]
              have hq2 : q - L.length < m.length := (List.getElem?_eq_some_iff.1 hr).1
              have hsr := hadd.rows r (List.mem_of_getElem? hr)
              have he : 0 + q * sz + j = L.length * i.size + ((q - L.length) * sz + j) := by
                have : q * sz = L.length * sz + (q - L.length) * sz := by rw [← Nat.add_mul]; congr 1; omega
                rw [his]; omega
              have hin : (q - L.length) * sz + j < (rowCells sz m.length c').length := by
                rw [rowCells_length]
                have : (q - L.length) * sz + sz ≤ m.length * sz := by rw [← Nat.succ_mul]; exact Nat.mul_le_mul_right _ hq2
                omega
              rw [he]
              show w'.cell? _ = _
              rw [World.cell?_setCells_in b _ _ _ hcell _ hin]
              have := rowCells_get (sz := sz) (c := c') hq2 (j := j) (by omega)
              rw [List.getElem?_eq_getElem hin] at this
              exact this
          · by_cases hq : q < L.length
            · rw [List.getElem?_append_left hq] at hr
              rw [if_pos hq]; exact (c3 q j r v hr hv).mono hpres
            · rw [List.getElem?_append_right (by omega)] at hr
              rw [if_neg hq]; exact (hadd.rel _ j r v hr hv).mono hpres
        · show w'.frozen? _ = false
          rw [World.frozen?_setCells]
          rw [List.length_append, Nat.add_mul] at h1
          rw [k2] at h2
          exact hfr j (by omega) h2
        · cases hy
          have : rootV tm X.w r = some (.slice (some a) n c) := by
            obtain ⟨v, v1, v2⟩ := hs.own r sz' l' ho
            cases r with
            | s t0 => exact hrv
            | c k0 o0 =>
              obtain ⟨cs0, hc0, _⟩ := own_c_box ho
              have hk0 : k0 ≠ b := fun e1 => by
                have := (hs.box k0 cs0 hc0).gn
                rw [e1, hg] at this; cases this
              simp only [rootV] at hrv ⊢
              rw [← cell_of_heap (w' := w') (hheap k0 hk0)]; exact hrv
          exact hap r sz' l' a n c _ _ _ ho this rfl
      · have hcell := rows_cell (X := X) c1 c2
        have hcell' : ∀ q, q < L.length * sz → X.w.cell? ⟨b, q, none⟩ = some (c (q / sz) (q % sz)) := by simpa using hcell
        have hrun := run_append_out (P := P) (ty := ty) (sLen := L.length) (sCap := cap) (a := some ⟨b, 0, none⟩) (olds := rowCells sz L.length c) ht hu hnz hi hz hA (fun w' hw => by
          rw [his]
          refine run_firstCells_some (P := P) w' sz L.length ⟨b, 0, none⟩ L.length cap _ (rowCells_length _ _ _) (fun j v hv => ?_)
          rw [add_off]
          simp only [rowCells, List.getElem?_map, Option.map_eq_some_iff] at hv
          obtain ⟨q, hq, rfl⟩ := hv
          obtain ⟨hlt, he⟩ := List.getElem?_eq_some_iff.1 hq
          simp only [List.getElem_range] at he
          subst he
          simp only [List.length_range] at hlt
          rw [show w'.cell? ⟨b, 0 + j, none⟩ = X.w.cell? ⟨b, j, none⟩ by simp only [World.cell?, hw, Nat.zero_add]]
          exact hcell' j hlt) (by omega) hfit hb
        have hcge := grownCap_ge X.w (L.length + m.length) cap e
        obtain ⟨X', h1, h2, h3, h4, h5⟩ := new_row (X := X) (F := F) (w' := X.w.drew.alloc (.cells ((rowCells sz L.length c).toArray ++ (rowCells sz m.length c').toArray ++ Builtin.zeroCells zv.cells (grownCap X.w (L.length + m.length) cap e - (L.length + m.length))) e)) (cap := grownCap X.w (L.length + m.length) cap e) (sz := sz) (rows := L ++ m) rfl rfl rfl rfl hs.gb hs.fb
          (fun r hr => by
            rcases List.mem_append.1 hr with h | h
            · exact hL r h
            · exact hadd.rows r h)
          (by simp only [Array.size_append, size_zeroCells, List.size_toArray, rowCells_length, hzs]; rw [← Nat.add_mul, ← Nat.add_mul]; congr 1; omega) (by simpa using hcge) (rows_two hL hadd.rows c3 hadd.rel) (fun j _ _ => by simp)
        refine ⟨X', _, ?_, appended_new hs h2 h3 h4 h5⟩
        rw [hrun, h1, List.length_append]

end
end Go.Proofs.Ytophpbihcfdkcaa
