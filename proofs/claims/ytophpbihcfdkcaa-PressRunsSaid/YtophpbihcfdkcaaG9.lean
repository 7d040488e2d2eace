/- The layer of abstract values: appending. -/
import Derived.Test.YtophpbihcfdkcaaG8
import Derived.Laws.AppendOwn
namespace Go.Proofs.Ytophpbihcfdkcaa
open Go.RowKit P
set_option linter.unusedSimpArgs false
set_option linter.unusedVariables false
section
variable {P : Program} {Q : Exit → AS → Prop} {ks : List It} {T : Tys P} {σ : AS} {t u ty e : TypeId} {x y z : Operand} {pos : String} {af : Array Edge} {g : Option (Nat × Bool)} {F : Nat → Prop} {X : GW}

/-- What may be appended: its length, its cells. -/
structure Adds (P : Program) (w : World) (size m : Nat) (x : Value) (news : List Value) : Prop where
  len : (Builtin.lenOf x).run P w = .ok m w
  first : ∀ w', w'.heap = w.heap → (Builtin.firstCells size m x).run P w' = .ok news.toArray w'
  length : news.length = m * size

theorem run_append_in {w : World} {i : TypeInfo} {du : TypeDesc} {x : Value} {m b sLen sCap : Nat} {news : List Value} (ht : P.underlying t = some (.slice e)) (hu : P.underlying u = some du) (hnz : du = .string ∨ ∃ e', du = .slice e') (hi : P.info? e = some i)
    (hx : Adds P w i.size m x news) (h1 : ∀ v ∈ news, v.oneCell' = true) (hroom : sLen + m ≤ sCap)
    (hc : ∀ j, j < news.length → (w.cell? ⟨b, sLen * i.size + j, none⟩).isSome = true) (hf : ∀ j, j < news.length → w.frozen? ⟨b, sLen * i.size + j, none⟩ = false) :
    (Builtin.append_ #[t, u] ty #[.slice (some ⟨b, 0, none⟩) sLen sCap, x]).run P w = .ok (.slice (some ⟨b, 0, none⟩) (sLen + m) sCap) (w.setCells b (sLen * i.size) news) := by
  have hst := run_storeCells_cells (P := P) b (sLen * i.size) news 0 w (by simpa using hc) (by simpa using hf) h1
  simp only [Nat.add_zero] at hst
  have hfi := hx.first w rfl
  rcases hnz with rfl | ⟨e', rfl⟩ <;> simp [Builtin.append_, run_underlying ht, run_underlying hu, sizeOf, typeInfo, hi, hx.len, hroom, hfi, Addr.add_lit, hst]
theorem run_append_none {w : World} {i : TypeInfo} {du : TypeDesc} {x : Value} {news : List Value} (ht : P.underlying t = some (.slice e)) (hu : P.underlying u = some du) (hnz : du = .string ∨ ∃ e', du = .slice e') (hi : P.info? e = some i)
    (hx : Adds P w i.size 0 x news) : (Builtin.append_ #[t, u] ty #[.slice none 0 0, x]).run P w = .ok (.slice none 0 0) w := by
  have hfi := hx.first w rfl
  rcases hnz with rfl | ⟨e', rfl⟩ <;> simp [Builtin.append_, run_underlying ht, run_underlying hu, sizeOf, typeInfo, hi, hx.len, hfi]
theorem run_append_out {w : World} {i : TypeInfo} {zv : Value} {du : TypeDesc} {x : Value} {m sLen sCap : Nat} {a : Option Addr} {olds news : List Value} (ht : P.underlying t = some (.slice e)) (hu : P.underlying u = some du) (hnz : du = .string ∨ ∃ e', du = .slice e') (hi : P.info? e = some i) (hz : i.zero = some zv)
    (hx : Adds P w i.size m x news) (hold : ∀ w', w'.heap = w.heap → (Builtin.firstCells i.size sLen (.slice a sLen sCap)).run P w' = .ok olds.toArray w') (hg : sCap < sLen + m) (hfit : (sLen + m) * i.bytes ≤ 140737488355328) (hb : 1 ≤ i.bytes) :
    (Builtin.append_ #[t, u] ty #[.slice a sLen sCap, x]).run P w = .ok (.slice (some ⟨w.heap.size, 0, none⟩) (sLen + m) (grownCap w (sLen + m) sCap e))
      (w.drew.alloc (.cells (olds.toArray ++ news.toArray ++ Builtin.zeroCells zv.cells (grownCap w (sLen + m) sCap e - (sLen + m))) e)) := by
  have hfi := hx.first w.drew rfl
  have hol := hold w.drew rfl
  have hn : ¬ (sLen + m ≤ sCap) := by omega
  have hle : (sLen + m) * 1 ≤ (sLen + m) * i.bytes := Nat.mul_le_mul_left _ hb
  have h63 : ¬ (9223372036854775807 < ((sLen : Int) + (m : Int))) := by omega
  have h48 := growslice_fits hg hfit
  have h48' : ¬ (281474976710656 < Builtin.nextslicecap (sLen + m) sCap * i.bytes) := by omega
  rcases hnz with rfl | ⟨e', rfl⟩ <;>
  (simp [Builtin.append_, run_underlying ht, run_underlying hu, sizeOf, typeInfo, zeroValue, hi, hz, hx.len, hn, h63, h48', Question.forced, hfi, hol, newRow, grownCap]
   try (congr 2; apply Array.ext'; simp [List.append_assoc]))

/-- The slots' and boxes' aliases fall. -/
def AS.dropC (σ : AS) : AS := { n := σ.n, t := σ.t, h := σ.h, e := σ.e.filter fun p => match p.2 with | .s _ => true | .c _ _ => false }
theorem SimE.dropC {tm : Array Value} (h : SimE F X σ tm) : SimE F X σ.dropC tm := h.sub rfl (fun _ _ h => h) (fun _ _ h => h) (fun _ hp => (List.mem_filter.1 hp).1)
theorem dropC_no {σ : AS} {b : Nat} : ∀ p ∈ σ.dropC.e, ∀ o, p.2 ≠ .c b o := by
  intro p hp o he
  have := (List.mem_filter.1 hp).2
  rw [he] at this; cases this

/-- A slice's cells, as readers have them. -/
theorem rows_cell {l : List (List AV)} {sz off b : Nat} {c : Nat → Nat → Value} (c1 : ∀ (i : Nat) (r : List AV), l[i]? = some r → r.length = sz) (c2 : ∀ (i j : Nat) (r : List AV) (u : AV), l[i]? = some r → r[j]? = some u → X.w.cell? ⟨b, off + i * sz + j, none⟩ = some (c i j)) :
    ∀ q, q < l.length * sz → X.w.cell? ⟨b, off + q, none⟩ = some (c (q / sz) (q % sz)) := by
  intro q hq
  have hsz : 0 < sz := by
    rcases Nat.eq_zero_or_pos sz with h | h
    · subst h; omega
    · exact h
  have hi : q / sz < l.length := Nat.div_lt_of_lt_mul (by rw [Nat.mul_comm]; exact hq)
  have hj : q % sz < sz := Nat.mod_lt _ hsz
  have hr := c1 _ _ (List.getElem?_eq_getElem hi)
  have := c2 (q / sz) (q % sz) _ (l[q / sz][q % sz]'(by omega)) (List.getElem?_eq_getElem hi) (List.getElem?_eq_getElem (by omega))
  rw [← this]
  congr 2
  have := Nat.div_add_mod q sz
  rw [Nat.mul_comm] at this
  omega
/-- The cells in a row. -/
def rowCells (sz n : Nat) (c : Nat → Nat → Value) : List Value := (List.range (n * sz)).map fun q => c (q / sz) (q % sz)
theorem rowCells_length (sz n : Nat) (c : Nat → Nat → Value) : (rowCells sz n c).length = n * sz := by simp [rowCells]
theorem rowCells_get {sz n : Nat} {c : Nat → Nat → Value} {i j : Nat} (hi : i < n) (hj : j < sz) : (rowCells sz n c)[i * sz + j]? = some (c i j) := by
  have hlt : i * sz + j < n * sz := by
    have : i * sz + sz ≤ n * sz := by rw [← Nat.succ_mul]; exact Nat.mul_le_mul_right _ hi
    omega
  have h1 : (i * sz + j) / sz = i := by rw [Nat.mul_comm, Nat.mul_add_div (by omega), Nat.div_eq_of_lt hj, Nat.add_zero]
  have h2 : (i * sz + j) % sz = j := by rw [Nat.mul_comm, Nat.mul_add_mod, Nat.mod_eq_of_lt hj]
  simp [rowCells, hlt, h1, h2]

/-- What may be appended reads as rows. -/
structure AddsA (P : Program) (X : GW) (sz : Nat) (m : List (List AV)) (x : Value) (c : Nat → Nat → Value) : Prop where
  len : (Builtin.lenOf x).run P X.w = .ok m.length X.w
  first : ∀ w', w'.heap = X.w.heap → (Builtin.firstCells sz m.length x).run P w' = .ok (rowCells sz m.length c).toArray w'
  rows : ∀ r ∈ m, r.length = sz
  rel : ∀ (i j : Nat) (r : List AV) (u : AV), m[i]? = some r → r[j]? = some u → Rel X u (c i j)
  one : ∀ v ∈ rowCells sz m.length c, v.oneCell' = true
/-- Values of one cell. -/
def AV.one : AV → Bool
  | .v x => x.oneCell'
  | .sl _ _ _ => true
  | .el _ => true
  | .fn _ _ => true
  | .ifc _ _ => true
  | _ => false
theorem AV.one_rel {u : AV} {v : Value} (h : Rel X u v) (ho : u.one = true) : v.oneCell' = true := by
  cases h <;> first | exact ho | rfl | cases ho
theorem addsA_sl {o : Bool} {sz : Nat} {m : List (List AV)} {v : Value} (h : Rel X (.sl o sz m) v) (h1 : ∀ r ∈ m, r.length = sz ∧ ∀ u ∈ r, u.one = true) : ∃ c, AddsA P X sz m v c := by
  rcases rel_sl h with ⟨rfl, rfl⟩ | ⟨b, off, cap, n, rfl, hg, hn, hc, c, c1, c2, c3⟩
  · exact ⟨fun _ _ => undef, ⟨rfl, fun w' _ => by simp [Builtin.firstCells, rowCells], by simp, by simp, by simp [rowCells]⟩⟩
  · have hcell := rows_cell (X := X) c1 c2
    refine ⟨c, ⟨rfl, fun w' hw => ?_, fun r hr => (h1 r hr).1, c3, fun v hv => ?_⟩⟩
    · refine run_firstCells_some (P := P) w' sz m.length ⟨b, off, none⟩ m.length cap _ (rowCells_length _ _ _) (fun j v hv => ?_)
      rw [add_off]
      simp only [rowCells, List.getElem?_map, Option.map_eq_some_iff] at hv
      obtain ⟨q, hq, rfl⟩ := hv
      have hq' := List.getElem?_eq_some_iff.1 hq
      obtain ⟨hlt, he⟩ := hq'
      simp only [List.getElem_range] at he
      subst he
      simp only [List.length_range] at hlt
      rw [show w'.cell? ⟨b, off + j, none⟩ = X.w.cell? ⟨b, off + j, none⟩ by simp only [World.cell?, hw]]
      exact hcell j hlt
    · simp only [rowCells, List.mem_map, List.mem_range] at hv
      obtain ⟨q, hq, rfl⟩ := hv
      have hsz : 0 < sz := by
        rcases Nat.eq_zero_or_pos sz with h | h
        · subst h; omega
        · exact h
      have hi : q / sz < m.length := Nat.div_lt_of_lt_mul (by rw [Nat.mul_comm]; exact hq)
      have hj : q % sz < sz := Nat.mod_lt _ hsz
      have hr := c1 _ _ (List.getElem?_eq_getElem hi)
      exact AV.one_rel (c3 (q / sz) (q % sz) _ (m[q / sz][q % sz]'(by omega)) (List.getElem?_eq_getElem hi) (List.getElem?_eq_getElem (by omega))) ((h1 _ (List.getElem_mem hi)).2 _ (List.getElem_mem (by omega)))

end
end Go.Proofs.Ytophpbihcfdkcaa
