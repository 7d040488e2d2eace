/- The layer of abstract values: rows of bytes that are written in place. -/
import Derived.Test.YtophpbihcfdkcaaG21
import Derived.Laws.MakeOwn
namespace Go.Proofs.Ytophpbihcfdkcaa
open Go.RowKit P
set_option linter.unusedSimpArgs false
set_option linter.unusedVariables false
section
variable {P : Program} {T : Tys P} {σ : AS} {F : Nat → Prop} {X : GW} {t yt ty e : TypeId} {x y z : Operand} {pos : String} {af : Array Edge} {g : Option (Nat × Bool)}

/-- The cells of a row of bytes. -/
def byteV (l : List UInt8) : List AV := l.map fun b => AV.v (.int .u8 b.toNat)
theorem byteV_length (l : List UInt8) : (byteV l).length = l.length := by simp [byteV]
theorem byteV_get (l : List UInt8) (i : Nat) (h : i < l.length) : (byteV l)[i]? = some (.v (.int .u8 (l.getD i 0).toNat)) := by simp [byteV, h]
theorem byteV_mp (l : List UInt8) : isMpB (byteV l) = false := by
  match l with
  | [] => rfl
  | [b] => rfl
  | b :: c :: r => rfl
theorem byteV_set (l : List UInt8) (o : Nat) (b : UInt8) (h : o < l.length) : splice (byteV l) o [.v (.int .u8 b.toNat)] = byteV (l.set o b) := by
  apply List.ext_getElem?
  intro j
  rw [splice_get (by simp [byteV]; omega)]
  simp only [List.length_cons, List.length_nil, byteV, List.getElem?_map, List.getElem?_set]
  by_cases hj : j = o
  · subst hj
    rw [if_pos (by omega), Nat.sub_self]
    simp [h]
  · rw [if_neg (by omega), if_neg (by omega)]
/-- make([]byte, n) -/
theorem eff_makebytes {d : Nat} {k1 k2 : IntKind} {n : Int} {by_ : Nat} (hx : opV σ x = some (.v (.int k1 n))) (hy : opV σ y = some (.v (.int k2 n))) (ht : look T.ty t = some (.slice e)) (hz : look T.zr e = some (.int .u8 0)) (hs : look T.sz e = some (1, by_)) (hb : Nat.ble by_ 8 = true) (h0 : 0 ≤ n ∧ n ≤ 1099511627776) (hd : Nat.ble (d + 1) σ.n = true)
    {R : AS → Prop} (hR : ∀ k, FreshK k σ.h → R ((σ.box k (byteV (List.replicate n.toNat 0))).put d (.v (.slice (some ⟨k, 0, none⟩) n.toNat n.toNat)))) : EffOp P ⟨some d, .makeSlice t x y, ty, pos, af, g⟩ σ R := by
  obtain ⟨i, hi1, hi2, hi3, zv, hi4, hi5⟩ := T.szOk _ _ _ hs
  obtain ⟨i', hj1, hj2⟩ := T.zrOk _ _ hz
  rw [hi1] at hj1; cases hj1
  have hb8 := Nat.le_of_ble_eq_true hb
  intro F X a hs0
  have e1 := rel_v (opV_rel' hs0 hx)
  have e2 := rel_v (opV_rel' hs0 hy)
  have hbytes : (i.bytes : Int) * n ≤ 281474976710656 := by
    rw [hi3]
    have : (by_ : Int) * n ≤ 8 * n := Int.mul_le_mul_of_nonneg_right (by omega) h0.1
    omega
  have hrun := run_make (P := P) X.w t e i (.int .u8 0) (T.tyOk _ _ ht) hi1 hj2 k1 k2 n n h0.1 (Int.le_refl _) hbytes (by omega)
  have hcells : madeCells (Value.int .u8 0).cells (n.toNat * i.size) = Array.replicate n.toNat (.int .u8 0) := by
    rw [hi2, Nat.mul_one]
    apply Array.ext
    · simp [madeCells]
    · intro j h1 h2
      have hm : j % 1 = 0 := Nat.mod_one j
      simp [madeCells, Value.cells, hm]
  rw [hcells] at hrun
  have hnew : New X ⟨X.w.alloc (.cells (Array.replicate n.toNat (.int .u8 0)) e), X.g⟩ := ⟨rfl, rfl, rfl, by show X.w.heap.size ≤ (X.w.heap.push _).size; simp, fun b hb => ⟨by show (X.w.heap.push _)[b]? = _; rw [Array.getElem?_push, if_neg (by omega)], rfl⟩⟩
  have hgb : ∀ b n', X.g b = some n' → b < (X.w.alloc (.cells (Array.replicate n.toNat (.int .u8 0)) e)).heap.size := fun b n' hb => by have := hs0.gb b n' hb; show b < (X.w.heap.push _).size; simp; omega
  have hsim := hs0.new hnew hgb
  have hgk : X.g X.w.heap.size = none := by
    cases hg : X.g X.w.heap.size with
    | none => rfl
    | some n => have := hs0.gb _ _ hg; omega
  have hhk : (X.w.alloc (.cells (Array.replicate n.toNat (.int .u8 0)) e)).heap[X.w.heap.size]? = some (.cells (Array.replicate n.toNat (.int .u8 0)) e) := by show (X.w.heap.push _)[_]? = _; simp
  have hbx : BoxOk F ⟨X.w.alloc (.cells (Array.replicate n.toNat (.int .u8 0)) e), X.g⟩ X.w.heap.size (byteV (List.replicate n.toNat 0)) := by
    refine CellsOk.box ⟨hgk, fun hF => Nat.lt_irrefl _ (hs0.fb _ hF), _, e, (0, 0), hhk, by simp [byteV], fun o => ?_, fun i u x hu hx => ?_⟩
    · show (X.w.alloc _).frozen? ⟨X.w.heap.size, o, none⟩ = false
      simp only [World.frozen?, hhk]; simp
    · simp only [byteV, List.map_replicate, List.getElem?_replicate] at hu
      split at hu
      · cases hu
        have hx2 : x = .int .u8 0 := by
          obtain ⟨h1, h2⟩ := Array.getElem?_eq_some_iff.1 hx
          simp at h2
          exact h2.symm
        subst hx2
        exact Rel.v (Value.int .u8 0)
      · cases hu
  refine runs_value (x := .slice (some ⟨X.w.heap.size, 0, none⟩) n.toNat n.toNat) (w' := X.w.alloc (.cells (Array.replicate n.toNat (.int .u8 0)) e)) (by simp only [execOp, e1, e2]; exact run_val hrun) ⟨⟨_, X.g⟩, _, rfl, hR X.w.heap.size (fun q hq e1 => ?_), ?_, hnew.ext hs0.gb hs0.fb⟩
  · obtain ⟨k, cs'⟩ := q
    simp only at e1
    subst e1
    have : ∀ {l : List (Nat × List AV)} {k : Nat} {c : List AV}, (k, c) ∈ l → ∃ c', look l k = some c' := by
      intro l
      induction l with
      | nil => intro k c h; cases h
      | cons p l ih =>
        intro k c h
        obtain ⟨k0, c0⟩ := p
        by_cases e2 : k = k0
        · exact ⟨c0, by rw [look_cons, if_pos e2]⟩
        · rcases List.mem_cons.1 h with h | h
          · cases h; exact absurd rfl e2
          · obtain ⟨c', h'⟩ := ih h
            exact ⟨c', by rw [look_cons, if_neg e2]; exact h'⟩
    obtain ⟨c', h'⟩ := this hq
    exact Nat.lt_irrefl _ (hs0.box _ _ h').lt
  · exact (hsim.box1 hbx (by intro u hu; obtain ⟨b, _, rfl⟩ := List.mem_map.1 hu; rfl)).put_new (lt_of_ble hd) (New.refl _) hgb (.v _) (FreshOk.plain rfl)
/-- &b[i], of a row that is written in place -/
theorem opv_indexaddr_box {d : Option Tmp} {k : IntKind} {b off n c sz by_ : Nat} {i : Int} (hx : opV σ x = some (.v (.slice (some ⟨b, off, none⟩) n c))) (hy : opV σ y = some (.v (.int k i))) (h0 : look T.ty t = some (.slice e)) (hsz : look T.sz e = some (sz, by_)) (h1 : 0 ≤ i) (h2 : i < n) :
    OpV P ⟨d, .indexAddr t x y, ty, pos, af, g⟩ σ (.v (.pointer (some ⟨b, off + i.toNat * sz, none⟩))) := by
  refine opv_same rfl fun F X ac hs => ⟨_, ?_, .v _⟩
  have e1 := opV_val hs (by simp [Op.operands]) hx
  have e2 := opV_val hs (by simp [Op.operands]) hy
  have hu := T.tyOk _ _ h0
  obtain ⟨inf, hi1, hi2, hi3⟩ := T.szOk _ _ _ hsz
  simp only [execOp, e1, e2]
  refine run_val ?_
  simp [Instr.indexAt, asIntOf, run_underlying hu, sizeOf, typeInfo, hi1, hi2, h1, h2, add_off]
/-- b[i] = c -/
theorem eff_setbyte {k o by_ : Nat} {l : List UInt8} {i : Int} (b : UInt8) (hx : opV σ x = some (.v (.pointer (some ⟨k, o, none⟩)))) (hb : look σ.h k = some (byteV l)) (hy : opV σ y = some (.v (.int .u8 i))) (hz : look T.sz t = some (1, by_)) (hi : i = (b.toNat : Int)) (hl : o < l.length)
    {R : AS → Prop} (hR : R (σ.setc k (byteV (l.set o b)))) : EffOp P ⟨none, .store t x y, ty, pos, af, g⟩ σ R := by
  subst hi
  refine eff_store (T := T) hx hb hy rfl hz rfl rfl (by intro u hu; simp [AV.rd, AV.cells] at hu; subst hu; rfl) ?_ ?_ (byteV_mp l)
  · exact Nat.ble_eq_true_of_le (by rw [byteV_length]; omega)
  · simp only [AV.rd, AV.cells]
    rw [byteV_set l o b hl]
    exact hR
/-- string(b), of a row that is written in place -/
theorem opv_box_str {dd : Option Tmp} {u : TypeId} {k c : Nat} {L : List UInt8} (hx : opV σ x = some (.v (.slice (some ⟨k, 0, none⟩) L.length c))) (hb : look σ.h k = some (byteV L)) (ht : look T.ty t = some (.slice e)) (he : look T.ty e = some (.int .u8)) (hu : look T.ty u = some .string) :
    OpV P ⟨dd, .convert t u x, ty, pos, af, g⟩ σ (.v (.string (mkB L))) := by
  refine opv_same rfl fun F X a hs => ⟨.string (mkB L), ?_, .v _⟩
  have e1 := opV_val hs (by simp [Op.operands]) hx
  obtain ⟨b1, b2, arr, el, fr, b3, b4, b5, b6⟩ := (hs.box k _ hb).cells (byteV_mp L)
  simp only [execOp, e1]
  refine run_val ?_
  refine run_convert_bytes_back X.w t u e ⟨k, 0, none⟩ c L (T.tyOk _ _ ht) (T.tyOk _ _ he) (T.tyOk _ _ hu) (fun j hj => ?_)
  have hlt : j < arr.size := by rw [b4, byteV_length]; exact hj
  have h1 := b6 j _ arr[j] (byteV_get L j hj) (Array.getElem?_eq_getElem hlt)
  have h2 := rel_v h1
  rw [add_off]
  simp only [World.cell?, b3, Nat.zero_add, Array.getElem?_eq_getElem hlt, h2]
  simp [hj]
end
end Go.Proofs.Ytophpbihcfdkcaa
