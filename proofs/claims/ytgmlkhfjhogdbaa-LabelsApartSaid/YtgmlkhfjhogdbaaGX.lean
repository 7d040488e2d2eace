/- Boxes that own something are set aside, and come back. -/
import Derived.Test.YtgmlkhfjhogdbaaGM
namespace Go.Proofs.Ytgmlkhfjhogdbaa
open Go.RowKit P
set_option linter.unusedSimpArgs false
set_option linter.unusedVariables false

/-- What is set aside: boxes, and what their cells own. -/
def AsideF (F : Nat → Prop) (X : GW) (H1 : List (Nat × List AV)) (b : Nat) : Prop :=
  F b ∨ (∃ c, look H1 b = some c) ∨ ∃ k o sz l a n c cs, look H1 k = some cs ∧ own1 cs[o]? = some (sz, l) ∧ X.w.cell? ⟨k, o, none⟩ = some (.slice (some a) n c) ∧ a.block = b
theorem own_of_h {σ : AS} {H : List (Nat × List AV)} (hH : ∀ k cs, look H k = some cs → look σ.h k = some cs) : ∀ r sz l, (σ.withH H).own r = some (sz, l) → σ.own r = some (sz, l) := fun r sz l ho => by
  cases r with
  | s t => exact ho
  | c k o =>
    simp only [AS.own, AS.withH] at ho ⊢
    cases hl : look H k with
    | none => rw [hl] at ho; cases ho
    | some cs => rw [hl] at ho; rw [hH k cs hl]; exact ho
theorem own_cellX {σ : AS} {k o sz : Nat} {l : List (List AV)} {cs : List AV} (h1 : look σ.h k = some cs) (h2 : own1 cs[o]? = some (sz, l)) : σ.own (.c k o) = some (sz, l) := by
  simp only [AS.own, h1]; exact h2
theorem own_blk {F : Nat → Prop} {X : GW} {sz : Nat} {l : List (List AV)} {a : Addr} {n c : Nat} (h : OwnOk F X sz l (.slice (some a) n c)) : a.block < X.w.heap.size ∧ ¬ F a.block ∧ (∃ m, X.g a.block = some m) ∧ a = ⟨a.block, 0, none⟩ := by
  rcases h with ⟨h, _⟩ | ⟨b', cap, cs, e, fr, h1, h2, h3, h4, h5, h6⟩
  · cases h
  · cases h1
    exact ⟨(Array.getElem?_eq_some_iff.1 h3).1, h6, ⟨_, h2⟩, rfl⟩
theorem SimE.aside {F : Nat → Prop} {X : GW} {σ : AS} {tm : Array Value} (st : Nat → Bool) (h : SimE F X σ tm) (he : σ.e = []) : SimE (AsideF F X (σ.h.filter fun p => st p.1)) X (σ.withH (σ.h.filter fun p => !st p.1)) tm := by
  have h1 : ∀ k c, look (σ.h.filter fun p => st p.1) k = some c → st k = true ∧ look σ.h k = some c := fun k c hk => by
    rw [look_filt] at hk
    by_cases e : st k = true
    · rw [if_pos e] at hk; exact ⟨e, hk⟩
    · rw [if_neg e] at hk; cases hk
  have h0 : ∀ k c, look (σ.h.filter fun p => !st p.1) k = some c → st k = false ∧ look σ.h k = some c := fun k c hk => by
    rw [look_filt (fun q => !st q)] at hk
    by_cases e : st k = true
    · simp [e] at hk
    · simp only [Bool.not_eq_true] at e
      simp [e] at hk; exact ⟨e, hk⟩
  have hown := own_of_h (σ := σ) (fun k cs hk => (h0 k cs hk).2)
  -- what an owner of H1 owns
  have hO : ∀ k o sz l a n c cs, look (σ.h.filter fun p => st p.1) k = some cs → own1 cs[o]? = some (sz, l) → X.w.cell? ⟨k, o, none⟩ = some (.slice (some a) n c) → st k = true ∧ σ.own (.c k o) = some (sz, l) ∧ OwnOk F X sz l (.slice (some a) n c) := fun k o sz l a n c cs hk ho hc => by
    obtain ⟨e1, e2⟩ := h1 k cs hk
    have e3 := own_cellX e2 ho
    obtain ⟨x, hx, hok⟩ := h.own _ _ _ e3
    have : x = .slice (some a) n c := Option.some.inj (hx.symm.trans hc)
    rw [this] at hok
    exact ⟨e1, e3, hok⟩
  have hlt : ∀ b, AsideF F X (σ.h.filter fun p => st p.1) b → b < X.w.heap.size := fun b hb => by
    rcases hb with hb | ⟨c, hc⟩ | ⟨k, o, sz, l, a, n, c, cs, hk, ho, hc, rfl⟩
    · exact h.fb b hb
    · exact (h.box b c (h1 b c hc).2).lt
    · exact (own_blk (hO k o sz l a n c cs hk ho hc).2.2).1
  refine ⟨⟨h.size, h.gb, hlt, h.slot, fun k cs hk => ?_, fun x r hx => ?_, fun r sz l ho => ?_, fun r r' sz l sz' l' a n c a' n' c' hne ho ho' hr hr' => h.disj r r' sz l sz' l' a n c a' n' c' hne (hown _ _ _ ho) (hown _ _ _ ho') hr hr'⟩, fun p hp => ?_⟩
  · obtain ⟨e1, e2⟩ := h0 k cs hk
    have hb := h.box k cs e2
    refine hb.keep ⟨rfl, rfl, fun hF => ?_⟩ (Pres.refl X)
    rcases hF with hF | ⟨c, hc⟩ | ⟨k', o, sz, l, a, n, c, cs', hk', ho, hc, e⟩
    · exact hb.nF hF
    · rw [(h1 k c hc).1] at e1; cases e1
    · obtain ⟨_, _, ⟨m, hm⟩, _⟩ := own_blk (hO k' o sz l a n c cs' hk' ho hc).2.2
      rw [e, hb.gn] at hm; cases hm
  · have : look σ.e x = some r := hx
    rw [he] at this; cases this
  · obtain ⟨x, hx, hok⟩ := h.own r sz l (hown _ _ _ ho)
    refine ⟨x, hx, hok.keep fun b n c hxe => ⟨rfl, rfl, fun hF => ?_⟩⟩
    subst hxe
    rcases hF with hF | ⟨c', hc⟩ | ⟨k', o', sz', l', a', n', c', cs', hk', ho', hc', e⟩
    · exact (own_blk hok).2.1 hF
    · obtain ⟨_, _, ⟨m, hm⟩, _⟩ := own_blk hok
      rw [(h.box _ _ (h1 _ _ hc).2).gn] at hm; cases hm
    · obtain ⟨e1, e2, e3⟩ := hO k' o' sz' l' a' n' c' cs' hk' ho' hc'
      have hne : r ≠ .c k' o' := by
        rintro rfl
        simp only [AS.own, AS.withH] at ho
        cases hl : look (σ.h.filter fun p => !st p.1) k' with
        | none => rw [hl] at ho; cases ho
        | some cs2 =>
          have := (h0 k' cs2 hl).1
          rw [e1] at this; cases this
      exact h.disj r (.c k' o') sz l sz' l' _ _ _ _ _ _ hne (hown _ _ _ ho) e2 hx hc' e.symm
  · have : p ∈ σ.e := hp
    rw [he] at this; cases this
/-- Boxes that were set aside come back, with what they own. -/
theorem SimE.backO {F F' : Nat → Prop} {X0 X : GW} {σ0 σ' : AS} {tm0 tm : Array Value} {H1 : List (Nat × List AV)} (h0 : SimE F X0 σ0 tm0) (hH : ∀ k cs, look H1 k = some cs → look σ0.h k = some cs) (h : SimE F' X σ' tm) (hF : ∀ b, AsideF F X0 H1 b → F' b) (hx : Ext F' X0 X) : SimE F X (σ'.withH (σ'.h ++ H1)) tm := by
  have hlook : ∀ k cs, look (σ'.h ++ H1) k = some cs → look σ'.h k = some cs ∨ (look σ'.h k = none ∧ look H1 k = some cs) := fun k cs hk => by
    rw [look_append] at hk
    cases hl : look σ'.h k with
    | some c => rw [hl] at hk; cases hk; exact .inl rfl
    | none => rw [hl] at hk; exact .inr ⟨rfl, hk⟩
  have hF0 : ∀ b, F b → F' b := fun b hb => hF b (.inl hb)
  have hF1 : ∀ k cs, look H1 k = some cs → F' k := fun k cs hk => hF k (.inr (.inl ⟨cs, hk⟩))
  have hown : ∀ r sz l, (σ'.withH (σ'.h ++ H1)).own r = some (sz, l) → σ'.own r = some (sz, l) ∨ ∃ k o cs, r = .c k o ∧ look H1 k = some cs ∧ own1 cs[o]? = some (sz, l) := fun r sz l ho => by
    cases r with
    | s t => exact .inl ho
    | c k o =>
      simp only [AS.own, AS.withH] at ho ⊢
      cases hl : look (σ'.h ++ H1) k with
      | none => rw [hl] at ho; cases ho
      | some cs =>
        rw [hl] at ho
        rcases hlook k cs hl with h1 | ⟨h1, h2⟩
        · rw [h1]; exact .inl ho
        · exact .inr ⟨k, o, cs, rfl, h2, ho⟩
  -- an owner that was set aside: as it was
  have hold : ∀ k o cs sz l, look H1 k = some cs → own1 cs[o]? = some (sz, l) → ∃ x, X.w.cell? ⟨k, o, none⟩ = some x ∧ X0.w.cell? ⟨k, o, none⟩ = some x ∧ OwnOk F X0 sz l x ∧ OwnOk F X sz l x := fun k o cs sz l hk ho => by
    obtain ⟨x, hx1, hok⟩ := h0.own (.c k o) sz l (own_cellX (hH k cs hk) ho)
    have hc0 : X0.w.cell? ⟨k, o, none⟩ = some x := hx1
    refine ⟨x, by rw [cell_of_heap (hx.frame k (hF1 k cs hk)).1]; exact hc0, hc0, hok, hok.keep fun b n c hxe => ?_⟩
    subst hxe
    have hb := hF b (.inr (.inr ⟨k, o, sz, l, _, _, _, cs, hk, ho, hc0, rfl⟩))
    exact ⟨(hx.frame b hb).1, (hx.frame b hb).2, (own_blk hok).2.1⟩
  have hnF' : ∀ r sz l a n c, σ'.own r = some (sz, l) → rootV tm X.w r = some (.slice (some a) n c) → ¬ F' a.block := fun r sz l a n c ho hr => by
    obtain ⟨x, k1, k2⟩ := h.own r sz l ho
    have : x = .slice (some a) n c := Option.some.inj (k1.symm.trans hr)
    rw [this] at k2
    exact (own_blk k2).2.1
  refine ⟨⟨h.size, h.gb, fun b hb' => h.fb b (hF0 b hb'), h.slot, fun k cs hk => ?_, h.eqs, fun r sz l ho => ?_, fun r r' sz l sz' l' a n c a' n' c' hne ho ho' hr hr' => ?_⟩, h.eqm⟩
  · rcases hlook k cs hk with h1 | ⟨h1, h2⟩
    · exact (h.box k cs h1).keep ⟨rfl, rfl, fun e => (h.box k cs h1).nF (hF0 k e)⟩ (Pres.refl X)
    · have hk' := h0.box k cs (hH k cs h2)
      exact hk'.keep ⟨(hx.frame k (hF1 k cs h2)).1, (hx.frame k (hF1 k cs h2)).2, hk'.nF⟩ hx.pres
  · rcases hown r sz l ho with h1 | ⟨k, o, cs, rfl, h1, h2⟩
    · obtain ⟨x, k1, k2⟩ := h.own r sz l h1
      exact ⟨x, k1, k2.keep fun b n c hv => ⟨rfl, rfl, fun e => (k2.lt hv).2 (hF0 b e)⟩⟩
    · obtain ⟨x, k1, _, _, k2⟩ := hold k o cs sz l h1 h2
      exact ⟨x, k1, k2⟩
  · rcases hown r sz l ho with h1 | ⟨k, o, cs, rfl, h1, h2⟩
    · rcases hown r' sz' l' ho' with h3 | ⟨k', o', cs', rfl, h3, h4⟩
      · exact h.disj r r' sz l sz' l' a n c a' n' c' hne h1 h3 hr hr'
      · obtain ⟨x, k1, k0, k2, _⟩ := hold k' o' cs' sz' l' h3 h4
        have : x = .slice (some a') n' c' := Option.some.inj (k1.symm.trans hr')
        subst this
        intro e
        exact hnF' r sz l a n c h1 hr (by rw [e]; exact hF _ (.inr (.inr ⟨k', o', sz', l', _, _, _, cs', h3, h4, k0, rfl⟩)))
    · obtain ⟨x, k1, k0, k2, _⟩ := hold k o cs sz l h1 h2
      have : x = .slice (some a) n c := Option.some.inj (k1.symm.trans hr)
      subst this
      rcases hown r' sz' l' ho' with h3 | ⟨k', o', cs', rfl, h3, h4⟩
      · intro e
        exact hnF' r' sz' l' a' n' c' h3 hr' (by rw [← e]; exact hF _ (.inr (.inr ⟨k, o, sz, l, _, _, _, cs, h1, h2, k0, rfl⟩)))
      · obtain ⟨x', k1', k0', _, _⟩ := hold k' o' cs' sz' l' h3 h4
        have : x' = .slice (some a') n' c' := Option.some.inj (k1'.symm.trans hr')
        subst this
        exact h0.disj (.c k o) (.c k' o') sz l sz' l' a n c a' n' c' hne (own_cellX (hH k cs h1) h2) (own_cellX (hH k' cs' h3) h4) k0 k0'
end Go.Proofs.Ytgmlkhfjhogdbaa
