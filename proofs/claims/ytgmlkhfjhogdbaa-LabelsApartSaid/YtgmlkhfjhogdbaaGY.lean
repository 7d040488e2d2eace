-- slim: written by gen/slim.py from XGY.lean.tpl
/- Regions that draw: a chain of which the first part runs while boxes are set aside; then they come back. -/
import Derived.Test.YtgmlkhfjhogdbaaGG
namespace Go.Proofs.Ytgmlkhfjhogdbaa
open Go.RowKit P
set_option linter.unusedSimpArgs false
set_option linter.unusedVariables false
theorem box_cellX {F : Nat → Prop} {X : GW} {k off : Nat} {cs : List AV} {u : AV} (h : BoxOk F X k cs) (hm : isMpB cs = false) (hu : cs[off]? = some u) : ∃ v, X.w.cell? ⟨k, off, none⟩ = some v ∧ Rel X u v := by
  obtain ⟨b1, b2, arr, el, fr, b3, b4, b5, b6⟩ := h.cells hm
  have hlt : off < arr.size := by rw [b4]; exact (List.getElem?_eq_some_iff.1 hu).1
  exact ⟨arr[off], by simp [World.cell?, b3, hlt], b6 off u _ hu (Array.getElem?_eq_getElem hlt)⟩
def bst (mB : Nat → Bool) (i : Nat) (σ : AS) : AS := match mB i with | true => σ | false => σ.withH []
/-- What yields the cell of a box. -/
def LoadC (P : Program) (o : Oper) (σ : AS) (k off : Nat) (u : AV) : Prop :=
  (∃ cs u0, look σ.h k = some cs ∧ isMpB cs = false ∧ cs[off]? = some u0 ∧ u = u0.rd) ∧ (∀ s, o.op ≠ .move (.tmp s)) ∧ ∀ F X (a : Act), SimR F X σ o.op a.tmps → ∃ v, X.w.cell? ⟨k, off, none⟩ = some v ∧ (execOp a.eval o).run P X.w = .ok (.value v) X.w
def ldAt (ld : List (Nat × Nat × Nat)) (d : Nat) : Option (Nat × Nat × Nat) := ld.find? fun p => p.1 == d
def DetX (P : Program) (l : List Oper) (mN mB : Nat → Bool) (ld : List (Nat × Nat × Nat)) (i : Nat) (σ : AS) (o : Oper) (u : AV) : Prop :=
  own1 (some u) = none ∧ ∀ d, o.dst = some d → match ldAt ld d with
    | some p => mB i = true ∧ LoadC P o σ p.2.1 p.2.2 u
    | none => (∃ x, u = .v x) ∨ ∃ s, o.op = .move (.tmp s) ∧ ∀ (q : Nat) o', l[q]? = some o' → mN q = true → o'.dst ≠ some s
def NSemX (P : Program) (l : List Oper) (mN mB : Nat → Bool) (ld : List (Nat × Nat × Nat)) (K : AS → Prop) : Nat → List Oper → AS → Prop
  | _, [], σ => K σ
  | k, o :: rest, σ => match mN k with
    | true => ∃ d u, o.dst = some d ∧ o.guard = none ∧ Nat.ble (d + 1) σ.n = true ∧ OpV P o (bst mB k σ) u ∧ DetX P l mN mB ld k σ o u ∧ NSemX P l mN mB ld K (k + 1) rest (σ.put d u)
    | false => NSemX P l mN mB ld K (k + 1) rest σ
section
variable {P : Program} {Q : Exit → AS → Prop} {ks : List It} {σ : AS} {K : AS → Prop} {l : List Oper} {mN mB : Nat → Bool} {ld : List (Nat × Nat × Nat)}
theorem n_tableX (L : List Oper) : ∀ (rest : List Oper) (k : Nat) (σ : AS), NSemX P L mN mB ld K k rest σ → ∃ us : List AV, us.length = rest.length ∧ K (puts σ (msk mN k rest) us) ∧
    ∀ (i : Nat) o u, rest[i]? = some o → us[i]? = some u → mN (k + i) = true → ∃ d, o.dst = some d ∧ o.guard = none ∧ Nat.ble (d + 1) σ.n = true ∧ OpV P o (bst mB (k + i) (puts σ ((msk mN k rest).take i) (us.take i))) u ∧ DetX P L mN mB ld (k + i) (puts σ ((msk mN k rest).take i) (us.take i)) o u
  | [], k, σ, h => ⟨[], rfl, h, fun i o u h => by simp at h⟩
  | o :: rest, k, σ, h => by
    unfold NSemX at h
    cases hm : mN k with
    | true =>
      rw [hm] at h
      obtain ⟨d, u, h1, h2, h3, h4, h5, h6⟩ := h
      obtain ⟨us, k1, k2, k3⟩ := n_tableX L rest (k + 1) (σ.put d u) h6
      refine ⟨u :: us, by simp [k1], by simp only [msk, hm, puts, h1]; exact k2, fun i o' u' ho hu hmi => ?_⟩
      cases i with
      | zero => simp at ho hu; subst ho hu; exact ⟨d, h1, h2, h3, h4, h5⟩
      | succ i =>
        obtain ⟨d', m1, m2, m3, m4, m5⟩ := k3 i o' u' (by simpa using ho) (by simpa using hu) (by rw [show k + 1 + i = k + (i + 1) by omega]; exact hmi)
        rw [show k + 1 + i = k + (i + 1) by omega] at m4 m5
        refine ⟨d', m1, m2, m3, ?_, ?_⟩
        · simp only [msk, hm, List.take_succ_cons, puts, h1]; exact m4
        · simp only [msk, hm, List.take_succ_cons, puts, h1]; exact m5
    | false =>
      rw [hm] at h
      obtain ⟨us, k1, k2, k3⟩ := n_tableX L rest (k + 1) σ h
      refine ⟨.v undef :: us, by simp [k1], by simp only [msk, hm, puts, noOp]; exact k2, fun i o' u' ho hu hmi => ?_⟩
      cases i with
      | zero => rw [Nat.add_zero, hm] at hmi; cases hmi
      | succ i =>
        obtain ⟨d', m1, m2, m3, m4, m5⟩ := k3 i o' u' (by simpa using ho) (by simpa using hu) (by rw [show k + 1 + i = k + (i + 1) by omega]; exact hmi)
        rw [show k + 1 + i = k + (i + 1) by omega] at m4 m5
        refine ⟨d', m1, m2, m3, ?_, ?_⟩
        · simp only [msk, hm, List.take_succ_cons, puts, noOp]; exact m4
        · simp only [msk, hm, List.take_succ_cons, puts, noOp]; exact m5
/-- An effect, or a panic behind which boxes are known. -/
def EffX (P : Program) (o : Oper) (σ : AS) (R : AS → Prop) (RP : Value → List (Nat × List AV) → Prop) : Prop :=
  ∀ F X (a : Act), SimE F X σ a.tmps → runsX P (fun x w' => ∃ (X' : GW) (σ' : AS), X'.w = w' ∧ R σ' ∧ SimE F X' σ' (a.put o.dst x).tmps ∧ Ext F X X') (fun v w' => ∃ (X' : GW) (H2 : List (Nat × List AV)), X'.w = w' ∧ RP v H2 ∧ SimE F X' ⟨σ.n, [], H2, []⟩ a.tmps ∧ Ext F X X') ((execOp a.eval o).run P X.w)
def CSemX (P : Program) (n : Nat) (RP : Value → List (Nat × List AV) → Prop) (K : AS → Prop) : List Oper → AS → Prop
  | [], σ => K σ
  | o :: rest, σ => σ.n = n ∧ EffX P o σ (CSemX P n RP K rest) RP
def AS.alc (σ : AS) (ld : List (Nat × Nat × Nat)) : AS := { n := σ.n, t := σ.t, h := σ.h, e := ld.map (fun p => (p.1, Root.c p.2.1 p.2.2)) ++ σ.e }
theorem alc_sim {F : Nat → Prop} {X : GW} {tm : Array Value} : ∀ {ld : List (Nat × Nat × Nat)} {σ : AS}, SimE F X σ tm → (∀ p ∈ ld, X.w.cell? ⟨p.2.1, p.2.2, none⟩ = some (tm.getD p.1 undef)) → SimE F X (σ.alc ld) tm
  | [], σ, h, _ => h
  | p :: ld, σ, h, hm => (alc_sim h fun q hq => hm q (List.mem_cons_of_mem _ hq)).alias (d := p.1) (r := .c p.2.1 p.2.2) (hm p List.mem_cons_self)
theorem ldAt_self : ∀ {ld : List (Nat × Nat × Nat)} {p : Nat × Nat × Nat}, (ld.map (·.1)).Nodup → p ∈ ld → ldAt ld p.1 = some p
  | [], p, _, h => by cases h
  | q :: ld, p, hn, h => by
    rw [List.map_cons, List.nodup_cons] at hn
    unfold ldAt
    rw [List.find?_cons]
    rcases List.mem_cons.1 h with rfl | h
    · simp
    · have : (q.1 == p.1) = false := by
        simp only [beq_eq_false_iff_ne]
        exact fun e => hn.1 (by rw [e]; exact List.mem_map_of_mem h)
      rw [this]
      exact ldAt_self hn.2 h
end
end Go.Proofs.Ytgmlkhfjhogdbaa
