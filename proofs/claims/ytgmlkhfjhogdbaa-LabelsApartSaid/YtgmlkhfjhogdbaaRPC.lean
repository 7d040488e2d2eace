/- What replaces bytes by texts, of any text: walked over abstract values. -/
import Derived.Test.YtgmlkhfjhogdbaaRPB
import Derived.Test.YtgmlkhfjhogdbaaRU
namespace Go.Proofs.Ytgmlkhfjhogdbaa
open Go.RowKit P
set_option linter.unusedVariables false
set_option linter.unusedSimpArgs false
/-! ### Plain -/
def esc1 (c : UInt8) : List UInt8 := if c.toNat = 10 then [92, 110] else if c.toNat = 34 then [92, 34] else if c.toNat = 92 then [92, 92] else [c]
def escB (s : List UInt8) : List UInt8 := s.flatMap esc1
theorem row_at : rowA[0]? = some (.v (.string (mkB [10]))) ∧ rowA[1]? = some (.v (.string (mkB [34]))) ∧ rowA[2]? = some (.v (.string (mkB [92]))) := ⟨rfl, rfl, rfl⟩
def cn (s : List UInt8) : Nat → Nat
  | 0 => 0
  | 1 => Lib.countByte s 10
  | 2 => Lib.countByte s 10 + Lib.countByte s 34
  | _ => Lib.countByte s 10 + Lib.countByte s 34 + Lib.countByte s 92
theorem bytesR_len (m : List UInt8) : (bytesR m).length = m.length := by simp [bytesR]
theorem esc_one (c : UInt8) : (∃ m : List UInt8, m.length = 2 ∧ esc1 c = m ∧ ∀ r, (tabA r)[c.toNat]? = some (.sl true 1 (bytesR m))) ∨ (esc1 c = [c] ∧ c.toNat ≠ 10 ∧ c.toNat ≠ 34 ∧ c.toNat ≠ 92 ∧ ∀ r, (tabA r)[c.toNat]? = some (.v (.slice none 0 0))) := by
  have hc := c.toNat_lt
  unfold esc1
  by_cases h1 : c.toNat = 10
  · rw [if_pos h1, h1]; exact .inl ⟨_, rfl, rfl, fun r => (tab_at r).1⟩
  · by_cases h2 : c.toNat = 34
    · rw [if_neg h1, if_pos h2, h2]; exact .inl ⟨_, rfl, rfl, fun r => (tab_at r).2.1⟩
    · by_cases h3 : c.toNat = 92
      · rw [if_neg h1, if_neg h2, if_pos h3, h3]; exact .inl ⟨_, rfl, rfl, fun r => (tab_at r).2.2.1⟩
      · rw [if_neg h1, if_neg h2, if_neg h3]; exact .inr ⟨rfl, h1, h2, h3, fun r => tab_else r _ hc h1 h2 h3⟩
theorem esc1_len (c : UInt8) : 1 ≤ (esc1 c).length ∧ (esc1 c).length ≤ 2 := by
  rcases esc_one c with ⟨m, h1, h2, _⟩ | ⟨h1, _⟩
  · rw [h2]; omega
  · rw [h1]; simp
theorem escB_len : ∀ s : List UInt8, s.length ≤ (escB s).length ∧ (escB s).length ≤ 2 * s.length
  | [] => by simp [escB]
  | c :: r => by
    have h1 := escB_len r
    have h2 := esc1_len c
    have : escB (c :: r) = esc1 c ++ escB r := by simp [escB]
    rw [this, List.length_append, List.length_cons]; omega
theorem escB_same : ∀ s : List UInt8, (escB s).length = s.length → escB s = s
  | [], _ => rfl
  | c :: r, h => by
    have h1 := escB_len r
    have h2 := esc1_len c
    have e : escB (c :: r) = esc1 c ++ escB r := by simp [escB]
    rw [e, List.length_append, List.length_cons] at h
    have h3 := escB_same r (by omega)
    rw [e, h3]
    rcases esc_one c with ⟨m, k1, k2, _⟩ | ⟨k1, _⟩
    · rw [k2] at h; omega
    · rw [k1]; rfl
theorem escB_count : ∀ s : List UInt8, (escB s).length = s.length + cn s 3
  | [] => rfl
  | c :: r => by
    have ih := escB_count r
    have e : escB (c :: r) = esc1 c ++ escB r := by simp [escB]
    have hb : ∀ k : Nat, k < 256 → (c == UInt8.ofNat k) = decide (c.toNat = k) := fun k hk => by
      by_cases h : c.toNat = k
      · subst h; simp
      · have : c ≠ UInt8.ofNat k := fun e => h (by rw [e]; simp; omega)
        simp [this, h]
    have h10 := hb 10 (by decide)
    have h34 := hb 34 (by decide)
    have h92 := hb 92 (by decide)
    have q10 : (UInt8.ofNat 10) = 10 := rfl
    have q34 : (UInt8.ofNat 34) = 34 := rfl
    have q92 : (UInt8.ofNat 92) = 92 := rfl
    rw [q10] at h10; rw [q34] at h34; rw [q92] at h92
    simp only [cn, Lib.countByte, List.count_cons, h10, h34, h92] at ih ⊢
    rw [e, List.length_append, List.length_cons, ih]
    unfold esc1
    by_cases h1 : c.toNat = 10
    · simp [h1]; omega
    · by_cases h2 : c.toNat = 34
      · simp [h2]; omega
      · by_cases h3 : c.toNat = 92
        · simp [h3]; omega
        · simp [h1, h2, h3]; omega
theorem escB_take (s : List UInt8) (i : Nat) (h : i < s.length) : escB (s.take (i + 1)) = escB (s.take i) ++ esc1 (s.getD i 0) := by
  have ht : s.take (i + 1) = s.take i ++ [s[i]] := by rw [List.take_add_one, List.getElem?_eq_getElem h]; rfl
  have hg : s.getD i 0 = s[i] := by simp [List.getD, List.getElem?_eq_getElem h]
  rw [ht, hg]
  unfold escB
  rw [List.flatMap_append, List.flatMap_cons, List.flatMap_nil, List.append_nil]
section
variable {P : Program} {T : Tys P} {σ : AS} {t yt ty e : TypeId} {x y : Operand} {pos : String} {af : Array Edge} {g : Option (Nat × Bool)}
/-- A row that has elements is not nil. -/
theorem opv_nenil {dd : Option Tmp} {ow : Bool} {sz : Nat} {L : List (List AV)} (hx : opV σ x = some (.sl ow sz L)) (hy : opV σ y = some (.v (.slice none 0 0))) (ht : look T.ty t = some (.slice e)) (hL : L ≠ []) : OpV P ⟨dd, .binOp .neq t x y yt, ty, pos, af, g⟩ σ (.v (.bool true)) := by
  refine opv_same rfl fun F X a hs => ⟨_, ?_, .v _⟩
  have h1 := opV_rel hs (by simp [Op.operands]) hx
  have h2 := opV_val hs (by simp [Op.operands]) hy
  have ht := T.tyOk _ _ ht
  have key : ∃ (ad : Addr) (n c : Nat), a.eval x = .slice (some ad) n c := by
    generalize a.eval x = v at h1
    cases h1 with
    | nl _ _ ad c => exact absurd rfl hL
    | sl _ _ _ b off cap n c hg hn hc hs' hm hr => exact ⟨_, _, _, rfl⟩
  obtain ⟨ad, n, c, e1⟩ := key
  simp only [execOp, e1, h2]
  refine run_val ?_
  have q' : (Op.equal t (.slice (some ad) n c) (.slice none 0 0)).run P X.w = .ok false X.w := by
    simp [Op.equal, Op.maxDepth, Lib.run_equalIn_slice_nil X.w 9999 t e (some ad) n c 0 0 ht]
  simp [eqGuard, binOp, go_sem, q']
theorem ar_join {Q : Exit → AS → Prop} {c c2 : Code} {ks : List It} {st : AS} (hk : ARun P Q (.c c2 :: ks) st) (h : ∀ ks', (∀ σ', Le σ' st → ARun P Q ks' σ') → ARun P Q (.c c :: ks') σ) : ARun P Q (.c c :: .c c2 :: ks) σ := h _ fun σ' hl => ar_le hl hk
end
end Go.Proofs.Ytgmlkhfjhogdbaa
