/- copy into a row of bytes that is written in place; the table of a replacer. -/
import Derived.Test.YtgmlkhfjhogdbaaTC
import Derived.Laws.IdiomCopy
namespace Go.Proofs.Ytgmlkhfjhogdbaa
open Go.RowKit P
set_option linter.unusedVariables false
set_option linter.unusedSimpArgs false
section
variable {P : Program} {T : Tys P} {σ : AS} {t u ty e : TypeId} {x y : Operand} {pos : String} {af : Array Edge} {g : Option (Nat × Bool)}
theorem run_builtin_copy {a : Act} {w w' : World} {v1 v2 v : Value} {d : Nat} (h1 : a.eval x = v1) (h2 : a.eval y = v2) (h : (Builtin.copy_ #[t, u] ty #[v1, v2]).run P w = .ok v w') :
    (execOp a.eval ⟨some d, .call { callee := .builtin .copy, args := #[x, y], argTypes := #[t, u] }, ty, pos, af, g⟩).run P w = .ok (.value v) w' := by
  subst h1 h2
  simp [execOp, resolve, invoke, builtin, h]
/-- Rows of bytes, as a slice that is read has them. -/
def bytesR (m : List UInt8) : List (List AV) := m.map fun b => [AV.v (.int .u8 b.toNat)]
theorem rel_bytes {X : GW} {m : List UInt8} (hm : m ≠ []) {v : Value} (h : Rel X (.sl false 1 (bytesR m)) v) : ∃ a c, v = .slice (some a) m.length c ∧ ∀ (j : Nat) (b : UInt8), m[j]? = some b → X.w.cell? (a.add j) = some (.int .u8 b.toNat) := by
  have hl : (bytesR m).length = m.length := by simp [bytesR]
  generalize hL : bytesR m = L at h hl
  cases h with
  | nl =>
    exact absurd (List.length_eq_zero_iff.1 hl.symm) hm
  | sl o sz l b off cap n c hg hn hc hs hm2 hr =>
    refine ⟨⟨b, off, none⟩, cap, by rw [hl], fun j q hj => ?_⟩
    have h1 : L[j]? = some [AV.v (.int .u8 q.toNat)] := by rw [← hL]; simp [bytesR, hj]
    have h2 := hm2 j 0 _ _ h1 rfl
    have h3 := rel_v (hr j 0 _ _ h1 rfl)
    rw [add_off, h3.symm]
    simpa using h2
theorem splice_bytes (l m : List UInt8) (o : Nat) : splice (byteV l) o (byteV m) = byteV (l.take o ++ m ++ l.drop (o + m.length)) := by
  simp [splice, byteV, List.map_take, List.map_drop]
/-- copy(b[o:], m), of texts that are not empty. -/
theorem eff_copy {d k off n c by_ : Nat} {l m : List UInt8} (hx : opV σ x = some (.v (.slice (some ⟨k, off, none⟩) n c))) (hb : look σ.h k = some (byteV l)) (hy : opV σ y = some (.sl false 1 (bytesR m))) (ht : look T.ty t = some (.slice e)) (hz : look T.sz e = some (1, by_)) (hm : m ≠ []) (hn : m.length ≤ n) (hl : off + m.length ≤ l.length) (hd : Nat.ble (d + 1) σ.n = true)
    {R : AS → Prop} (hR : R ((σ.setc k (byteV (l.take off ++ m ++ l.drop (off + m.length)))).put d (.v (.int .i64 m.length)))) : EffOp P ⟨some d, .call { callee := .builtin .copy, args := #[x, y], argTypes := #[t, u] }, ty, pos, af, g⟩ σ R := by
  intro F X a hs
  have e1 := rel_v (opV_rel' hs hx)
  obtain ⟨ad, cc, e2, hcell⟩ := rel_bytes hm (opV_rel' hs hy)
  obtain ⟨i, hi1, hi2, hi3, zv, hi4, hi5⟩ := T.szOk _ _ _ hz
  obtain ⟨b1, b2, arr, el, fr, b3, b4, b5, b6⟩ := (hs.box k _ hb).cells (byteV_mp l)
  have hcl : (m.map fun b => Value.int .u8 (b.toNat : Int)).length = m.length := by simp
  have hrun := run_copy_cells (P := P) X.w t u ty e k off n c ad m.length cc (m.map fun b => Value.int .u8 (b.toNat : Int)) (T.tyOk _ _ ht) (by rw [hi1]; simp [hi2]) (by rw [hcl]; exact (Nat.min_eq_left hn).symm) (fun j v hj => by
    rw [List.getElem?_map] at hj
    cases hq : m[j]? with
    | none => rw [hq] at hj; cases hj
    | some b => rw [hq] at hj; cases hj; exact hcell j b hq) (fun j hj => by
    rw [hcl] at hj
    have : off + j < arr.size := by rw [b4, byteV_length]; omega
    simp [World.cell?, b3, this]) (fun j hj => b5 _) (fun v hv => by
    obtain ⟨b, _, rfl⟩ := List.mem_map.1 hv
    rfl)
  obtain ⟨s1, s2⟩ := SimE.setc (cs := byteV l) (us := byteV m) (vs := m.map fun b => Value.int .u8 (b.toNat : Int)) hs hb (by rw [byteV_length, byteV_length]; exact hl) (by simp [byteV]) (fun i u v hu hv => by
    simp only [byteV, List.getElem?_map] at hu hv
    cases hq : m[i]? with
    | none => rw [hq] at hu; cases hu
    | some b => rw [hq] at hu hv; cases hu; cases hv; exact .v _) (fun i sz l v ho => by
    simp only [byteV, List.getElem?_map] at ho
    cases hq : m[i]? with
    | none => rw [hq] at ho; cases ho
    | some b => rw [hq] at ho; cases ho) (fun i j p q ho => by
    simp only [byteV, List.getElem?_map] at ho
    cases hq : m[i]? with
    | none => rw [hq] at ho; cases ho
    | some b => rw [hq] at ho; cases ho) (byteV_mp l)
  rw [hcl] at hrun
  refine runs_value (x := .int .i64 (m.length : Int)) (w' := X.w.setCells k off _) (run_builtin_copy e1 e2 hrun) ⟨_, _, rfl, hR, ?_, s2⟩
  rw [splice_bytes] at s1
  exact s1.put' (by show d < σ.n; exact lt_of_ble hd) (.v _) (fun sz l h => by cases h) (fun r sz l sz' l' q n c q' n' c' h1 h2 => by cases h2)
end
set_option maxRecDepth 10000 in
theorem tab_at (r : Nat) : (tabA r)[10]? = some (.sl true 1 (bytesR [92, 110])) ∧ (tabA r)[34]? = some (.sl true 1 (bytesR [92, 34])) ∧ (tabA r)[92]? = some (.sl true 1 (bytesR [92, 92])) ∧ (tabA r)[256]? = some (.v (.slice (some ⟨r, 0, none⟩) 3 3)) := ⟨rfl, rfl, rfl, rfl⟩
set_option maxRecDepth 10000 in
theorem tab_else (r n : Nat) (h : n < 256) (h1 : n ≠ 10) (h2 : n ≠ 34) (h3 : n ≠ 92) : (tabA r)[n]? = some (.v (.slice none 0 0)) := by
  have hn : ∀ k i, i < k → (List.replicate k (AV.v (.slice none 0 0)))[i]? = some (AV.v (.slice none 0 0)) := fun k i hi => by rw [List.getElem?_replicate, if_pos hi]
  have e : tabA r = List.replicate 10 (AV.v (.slice none 0 0)) ++ ([.sl true 1 (bytesR [92, 110])] ++ (List.replicate 23 (AV.v (.slice none 0 0)) ++ ([.sl true 1 (bytesR [92, 34])] ++ (List.replicate 57 (AV.v (.slice none 0 0)) ++ ([.sl true 1 (bytesR [92, 92])] ++ (List.replicate 163 (AV.v (.slice none 0 0)) ++ [.v (.slice (some ⟨r, 0, none⟩) 3 3)])))))) := rfl
  rw [e]
  by_cases a1 : n < 10
  · rw [List.getElem?_append_left (by simpa using a1), hn _ _ a1]
  rw [List.getElem?_append_right (by simp; omega), List.length_replicate]
  rw [List.getElem?_append_right (by simp; omega)]
  simp only [List.length_singleton]
  by_cases a2 : n < 34
  · rw [List.getElem?_append_left (by simp; omega), hn _ _ (by omega)]
  rw [List.getElem?_append_right (by simp; omega), List.length_replicate]
  rw [List.getElem?_append_right (by simp; omega)]
  simp only [List.length_singleton]
  by_cases a3 : n < 92
  · rw [List.getElem?_append_left (by simp; omega), hn _ _ (by omega)]
  rw [List.getElem?_append_right (by simp; omega), List.length_replicate]
  rw [List.getElem?_append_right (by simp; omega)]
  simp only [List.length_singleton]
  rw [List.getElem?_append_left (by simp; omega), hn _ _ (by omega)]
end Go.Proofs.Ytgmlkhfjhogdbaa
