/- The checks of series, as contracts over abstract values; what is read is small. -/
import Derived.Test.YtophpbihcfdkcaaRE
import Derived.Test.YtophpbihcfdkcaaC2
namespace Go.Proofs.Ytophpbihcfdkcaa
open Go.RowKit P
set_option linter.unusedSimpArgs false
set_option linter.unusedVariables false

def toSr (y : Srs) : Sr := ⟨y.1, y.2.map fun p => (p.1, (p.2 : Int))⟩
def GoodSrs (y : Srs) : Prop := y.1.length ≤ 20000 ∧ y.2.length ≤ 20000 ∧ (∀ x ∈ y.1, x.1.length ≤ 20000 ∧ x.2.length ≤ 20000) ∧ (∀ x ∈ y.2, I64 x.1 ∧ x.2 < 18446744073709551616)
def GoodL (L : List Srs) : Prop := L.length ≤ 20000 ∧ ∀ y ∈ L, GoodSrs y

theorem small20 {n : Nat} (h : n ≤ 20000) : Small n := by unfold Small; omega
theorem rel_pairs {α : Type} {X : GW} {o : Bool} {v : Value} (row : α → List AV) (pv : α → Value × Value) (hrow : ∀ y, row y = [.v (pv y).1, .v (pv y).2]) {l : List α} (h : Rel X (.sl o 2 (l.map row)) v) : ∃ ao cap, v = .slice ao l.length cap ∧ PairsAt X.w ao (l.map pv) := by
  generalize hL : l.map row = L at h
  cases h with
  | nl _ _ a0 c0 =>
    have : l = [] := List.map_eq_nil_iff.1 hL
    subst this
    exact ⟨a0, c0, rfl, fun i x hx => by simp at hx⟩
  | sl _ _ _ b off cap n c hg hn hc hs hm hr =>
    subst hL
    refine ⟨some ⟨b, off, none⟩, cap, by simp, fun i x hx => ?_⟩
    simp only [List.getElem?_map, Option.map_eq_some_iff] at hx
    obtain ⟨y, hy, rfl⟩ := hx
    have hri : (l.map row)[i]? = some [.v (pv y).1, .v (pv y).2] := by simp [hy, hrow]
    have h0 := rel_v (hr i 0 _ (.v (pv y).1) hri rfl)
    have h1 := rel_v (hr i 1 _ (.v (pv y).2) hri rfl)
    refine ⟨b, off, rfl, ?_, ?_⟩
    · have := hm i 0 _ (.v (pv y).1) hri rfl
      rw [h0] at this; exact this
    · have := hm i 1 _ (.v (pv y).2) hri rfl
      rw [h1] at this; exact this
theorem rel_labels {X : GW} {o : Bool} {v : Value} {l : List Lbl} (h : Rel X (.sl o 2 (l.map lblRow)) v) (h1 : l.length ≤ 20000) (h2 : ∀ x ∈ l, x.1.length ≤ 20000 ∧ x.2.length ≤ 20000) : LabelsAt X.w v l := by
  obtain ⟨ao, cap, e, hp⟩ := rel_pairs lblRow lbV (fun _ => rfl) h
  exact ⟨ao, cap, e, small20 h1, hp, fun x hx => ⟨small20 (h2 x hx).1, small20 (h2 x hx).2⟩⟩
theorem rel_samples {X : GW} {o : Bool} {v : Value} {l : List Smp} (h : Rel X (.sl o 2 (l.map smpRow)) v) (h1 : l.length ≤ 20000) (h2 : ∀ x ∈ l, I64 x.1 ∧ x.2 < 18446744073709551616) : SamplesAt X.w v (l.map fun p => (p.1, (p.2 : Int))) := by
  obtain ⟨ao, cap, e, hp⟩ := rel_pairs smpRow (fun p => smV (p.1, (p.2 : Int))) (fun _ => rfl) h
  refine ⟨ao, cap, by simpa using e, small20 (by simpa using h1), by rw [List.map_map]; exact hp, fun x hx => ?_⟩
  obtain ⟨y, hy, rfl⟩ := List.mem_map.1 hx
  obtain ⟨a, b⟩ := h2 y hy
  exact ⟨a, by unfold U64; dsimp only; omega⟩
theorem rel_series {X : GW} {o : Bool} {v : Value} {L : List Srs} (h : Rel X (.sl o 2 (L.map srsRow)) v) (hL : GoodL L) : SeriesAt X.w v (L.map toSr) := by
  obtain ⟨hl1, hl2⟩ := hL
  generalize hM : L.map srsRow = M at h
  cases h with
  | nl _ _ a0 c0 =>
    have : L = [] := List.map_eq_nil_iff.1 hM
    subst this
    exact ⟨a0, c0, [], rfl, small20 (by simp), rfl, fun i x hx => by simp at hx, fun i x s hx => by simp at hx⟩
  | sl _ _ _ b off cap n c hg hn hc hs hm hr =>
    subst hM
    have hri : ∀ (i : Nat) y, L[i]? = some y → (L.map srsRow)[i]? = some [.sl false 2 (y.1.map lblRow), .sl false 2 (y.2.map smpRow)] := fun i y hy => by simp [hy, srsRow]
    refine ⟨some ⟨b, off, none⟩, cap, (List.range L.length).map fun i => (c i 0, c i 1), by simp, small20 (by simpa using hl1), by simp, fun i x hx => ?_, fun i x s hx hs' => ?_⟩
    · simp only [List.getElem?_map, Option.map_eq_some_iff] at hx
      obtain ⟨j, hj, rfl⟩ := hx
      obtain ⟨hj1, hj2⟩ := List.getElem?_eq_some_iff.1 hj
      simp at hj2 hj1
      subst hj2
      have hy : L[i]? = some L[i] := List.getElem?_eq_getElem hj1
      exact ⟨b, off, rfl, hm i 0 _ _ (hri i _ hy) rfl, hm i 1 _ _ (hri i _ hy) rfl⟩
    · simp only [List.getElem?_map, Option.map_eq_some_iff] at hx hs'
      obtain ⟨j, hj, rfl⟩ := hx
      obtain ⟨hj1, hj2⟩ := List.getElem?_eq_some_iff.1 hj
      simp at hj2 hj1
      subst hj2
      obtain ⟨y, hy, rfl⟩ := hs'
      obtain ⟨g1, g2, g3, g4⟩ := hl2 y (List.mem_of_getElem? hy)
      exact ⟨rel_labels (hr i 0 _ _ (hri i _ hy) rfl) g1 g3, rel_samples (hr i 1 _ _ (hri i _ hy) rfl) g2 g4⟩

/-- A contract over worlds that only reads, and hands back a plain value. -/
theorem acalls_ro {f : FuncId} {us : List AV} {r : Value} {ur : AV} {P : Program} (hf : FnOk P f) (hu : us.all (fun u => (own1 (some u)).isNone) = true) (hr : ∀ X, Rel X ur r) (hp : own1 (some ur) = none)
    (h : ∀ (X : GW) (vs : Array Value), vs.size = us.length → (∀ (i : Nat) u, us[i]? = some u → Rel X u (vs.getD i undef)) → Calls P f vs X.w fun e w' => e = .returned r ∧ Below X.w.heap.size X.w w') : ACalls P f us [] (fun out H => out = .ret ur ∧ H = []) := by
  refine ⟨hf, fun F X xs hs => ?_⟩
  refine (h X xs (by simpa using hs.size) (fun i u hi => hs.slot i u ?_)).mono fun e w' ⟨he, hb⟩ => ?_
  · have : ∀ (us : List AV) (k i : Nat) u, us[i]? = some u → look (slotsOf k us) (k + i) = some u := by
      intro us
      induction us with
      | nil => intro k i u h; simp at h
      | cons u0 us ih =>
        intro k i u h
        simp only [slotsOf, look_cons]
        cases i with
        | zero => simp at h; subst h; simp
        | succ i => rw [if_neg (by omega), show k + (i + 1) = (k + 1) + i by omega]; exact ih (k + 1) i u (by simpa using h)
    have := this us 0 i u hi
    simpa using this
  have hn : New X ⟨w', X.g⟩ := ⟨hb.os, hb.tape, hb.output, hb.size, fun b hlt => ⟨hb.block b hlt, rfl⟩⟩
  have hgb : ∀ b n, X.g b = some n → b < w'.heap.size := fun b n hg => Nat.lt_of_lt_of_le (hs.gb b n hg) hb.size
  refine ⟨⟨w', X.g⟩, .ret ur, [], rfl, ⟨rfl, rfl⟩, ⟨r, he, ?_⟩, hn.ext hs.gb hs.fb⟩
  refine ⟨⟨rfl, hgb, fun b hF => Nat.lt_of_lt_of_le (hs.fb b hF) hb.size, fun t u hu => ?_, fun k cs hk => by simp [look_nil] at hk, fun x r hx => by simp [look_nil] at hx, fun r sz l ho => ?_, fun r r' sz l sz' l' a n c a' n' c' _ ho => ?_⟩, fun p hp => by cases hp⟩
  · simp only [look_cons, look_nil] at hu
    split at hu
    · rename_i e1; subst e1; cases hu; exact hr _
    · cases hu
  · cases r with
    | s t => obtain ⟨_, h2⟩ := own_one ho; rw [hp] at h2; cases h2
    | c k o => simp [AS.own, look_nil] at ho
  · cases r with
    | s t => obtain ⟨_, h2⟩ := own_one ho; rw [hp] at h2; cases h2
    | c k o => simp [AS.own, look_nil] at ho
theorem one_arg {vs : Array Value} (h : vs.size = 1) : vs = #[vs.getD 0 undef] := by
  apply Array.ext
  · simpa using h
  · intro i h1 h2
    have : i = 0 := by omega
    subst this
    simp [h1]
theorem check_a (L : List Srs) (hL : GoodL L) : ACalls Try.prog 31 [.sl false 2 (L.map srsRow)] [] (fun out H => out = .ret (.v (.int .i64 (checkB (L.map toSr) : Nat))) ∧ H = []) :=
  acalls_ro ⟨_, Try.func31, by kernel_rfl, rfl⟩ rfl (fun X => .v _) rfl fun X vs hv hr => by
    rw [one_arg hv]
    exact check_any _ _ X.w (rel_series (hr 0 _ rfl) hL)
theorem checkSeries_a (L : List Srs) (hL : GoodL L) : ACalls Try.prog 34 [.sl false 2 (L.map srsRow)] [] (fun out H => out = .ret (.v (.int .i64 (checkB (L.map toSr) : Nat))) ∧ H = []) :=
  acalls_ro ⟨_, Try.func34, by kernel_rfl, rfl⟩ rfl (fun X => .v _) rfl fun X vs hv hr => by
    rw [one_arg hv]
    exact (checkSeries_any _ _ X.w (rel_series (hr 0 _ rfl) hL)).mono fun e w' ⟨h1, h2⟩ => ⟨h1, by subst h2; exact Below.refl _ _⟩

/-! ### What is read is small -/
theorem foldF_inv {α : Type} {step : α → Fld → Option α} {I : Nat → α → Prop} {B : Nat} (hstep : ∀ a v m a', I (m + 1) a → FldOk v → v.bs.length ≤ B → step a v = some a' → I m a') : ∀ (l : List Fld) (a a' : α) (m : Nat), I (l.length + m) a → (∀ f ∈ l, FldOk f ∧ f.bs.length ≤ B) → foldF step l a = some a' → I m a'
  | [], a, a', m, h, _, hf => by simp only [foldF, Option.some.injEq] at hf; subst hf; simpa using h
  | f :: l, a, a', m, h, hl, hf => by
    simp only [foldF] at hf
    cases hs : step a f with
    | none => rw [hs] at hf; cases hf
    | some a1 =>
      rw [hs] at hf
      have h1 := hl f List.mem_cons_self
      exact foldF_inv hstep l a1 a' m (hstep a f (l.length + m) a1 (by rw [show l.length + m + 1 = (f :: l).length + m by simp; omega]; exact h) h1.1 h1.2 hs) (fun g hg => hl g (List.mem_cons_of_mem _ hg)) hf
theorem flds_good : ∀ (n : Nat) (s : List UInt8) (l : List Fld), s.length ≤ n → flds s = some l → l.length ≤ s.length ∧ ∀ f ∈ l, FldOk f ∧ f.bs.length ≤ s.length
  | n, s, l, hn, h => by
    by_cases hs : s = []
    · subst hs; rw [flds_nil] at h; cases h; exact ⟨by simp, fun f hf => by cases hf⟩
    · cases hf : fldAt s with
      | none => rw [flds_none hs hf] at h; cases h
      | some p =>
        obtain ⟨f, r⟩ := p
        rw [flds_some hf] at h
        obtain ⟨h1, h2, h3, h4⟩ := fldAt_lt hf
        obtain ⟨l', hl', rfl⟩ := Option.map_eq_some_iff.1 h
        cases n with
        | zero => omega
        | succ n =>
          obtain ⟨k1, k2⟩ := flds_good n r l' (by omega) hl'
          refine ⟨by simp; omega, fun g hg => ?_⟩
          rcases List.mem_cons.1 hg with rfl | hg
          · exact ⟨h4, by omega⟩
          · exact ⟨(k2 g hg).1, by have := (k2 g hg).2; omega⟩
theorem runF_inv {α : Type} {step : α → Fld → Option α} {I : Nat → α → Prop} {s : List UInt8} {a a' : α} (hstep : ∀ a v m a', I (m + 1) a → FldOk v → v.bs.length ≤ s.length → step a v = some a' → I m a') (h0 : ∀ m, m ≤ s.length → I m a) (h : runF step s a = some a') : I 0 a' := by
  unfold runF at h
  cases hl : flds s with
  | none => rw [hl] at h; cases h
  | some l =>
    rw [hl] at h
    obtain ⟨k1, k2⟩ := flds_good s.length s l (Nat.le_refl _) hl
    exact foldF_inv hstep l a a' 0 (h0 _ (by omega)) k2 h
theorem label_good {s : List UInt8} {x : Lbl} (hs : s.length ≤ 20000) (h : labelB s = some x) : x.1.length ≤ 20000 ∧ x.2.length ≤ 20000 :=
  runF_inv (I := fun _ x => x.1.length ≤ 20000 ∧ x.2.length ≤ 20000) (fun a v m a' hi hv hb hst => by
    simp only [labelStep, Option.some.injEq] at hst
    subst hst
    split
    · exact ⟨by dsimp only; omega, hi.2⟩
    · split
      · exact ⟨hi.1, by dsimp only; omega⟩
      · exact hi) (fun _ _ => ⟨by simp, by simp⟩) h
theorem sample_good {s : List UInt8} {x : Smp} (h : sampleB s = some x) : I64 x.1 ∧ x.2 < 18446744073709551616 :=
  runF_inv (I := fun _ x => I64 x.1 ∧ x.2 < 18446744073709551616) (fun a v m a' hi hv hb hst => by
    simp only [sampleStep, Option.some.injEq] at hst
    subst hst
    obtain ⟨v1, v2, v3, v4⟩ := hv
    split
    · rename_i h1
      have := leN_lt v.bs
      rw [v4 h1.2] at this
      exact ⟨hi.1, this⟩
    · split
      · refine ⟨?_, hi.2⟩
        unfold sg I64
        dsimp only
        split <;> omega
      · exact hi) (fun _ _ => ⟨by unfold I64; omega, by omega⟩) h
theorem series_good {s : List UInt8} {x : Srs} (hs : s.length ≤ 20000) (h : seriesB s = some x) : GoodSrs x := by
  have := runF_inv (I := fun m (x : Srs) => x.1.length + m ≤ 20000 ∧ x.2.length + m ≤ 20000 ∧ (∀ y ∈ x.1, y.1.length ≤ 20000 ∧ y.2.length ≤ 20000) ∧ (∀ y ∈ x.2, I64 y.1 ∧ y.2 < 18446744073709551616)) (fun a v m a' hi hv hb hst => by
    obtain ⟨i1, i2, i3, i4⟩ := hi
    unfold seriesStep at hst
    split at hst
    · obtain ⟨y, hy, rfl⟩ := Option.map_eq_some_iff.1 hst
      refine ⟨by simp; omega, by dsimp only; omega, fun z hz => ?_, i4⟩
      rcases List.mem_append.1 hz with hz | hz
      · exact i3 z hz
      · simp at hz; subst hz; exact label_good (by omega) hy
    · split at hst
      · obtain ⟨y, hy, rfl⟩ := Option.map_eq_some_iff.1 hst
        refine ⟨by dsimp only; omega, by simp; omega, i3, fun z hz => ?_⟩
        rcases List.mem_append.1 hz with hz | hz
        · exact i4 z hz
        · simp at hz; subst hz; exact sample_good hy
      · cases hst; exact ⟨by omega, by omega, i3, i4⟩) (fun m hm => ⟨by simp; omega, by simp; omega, fun y hy => by simp at hy, fun y hy => by simp at hy⟩) h
  exact ⟨by have := this.1; omega, by have := this.2.1; omega, this.2.2.1, this.2.2.2⟩
theorem read_good {s : List UInt8} {L : List Srs} (hs : s.length ≤ 20000) (h : readB s = some L) : GoodL L := by
  have := runF_inv (I := fun m (x : List Srs) => x.length + m ≤ 20000 ∧ ∀ y ∈ x, GoodSrs y) (fun a v m a' hi hv hb hst => by
    obtain ⟨i1, i2⟩ := hi
    unfold readStep at hst
    split at hst
    · obtain ⟨y, hy, rfl⟩ := Option.map_eq_some_iff.1 hst
      refine ⟨by simp; omega, fun z hz => ?_⟩
      rcases List.mem_append.1 hz with hz | hz
      · exact i2 z hz
      · simp at hz; subst hz; exact series_good (by omega) hy
    · cases hst; exact ⟨by omega, i2⟩) (fun m hm => ⟨by simp; omega, fun y hy => by simp at hy⟩) h
  exact ⟨by have := this.1; omega, this.2⟩
end Go.Proofs.Ytophpbihcfdkcaa
