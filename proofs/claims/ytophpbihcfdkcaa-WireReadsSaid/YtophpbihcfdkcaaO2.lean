/- Series that are handed in, as the layer of abstract values reads them. -/
import Derived.Test.YtophpbihcfdkcaaO
import Derived.Test.YtophpbihcfdkcaaRF
namespace Go.Proofs.Ytophpbihcfdkcaa
open Go.ChangeShapes Go.WideShapes Go.ChangeAt Go.RowKit Go.Deep P
set_option linter.unusedSimpArgs false
set_option linter.unusedVariables false

/-- What is known of series that are handed in. -/
def OkL (L : List Srs) : Prop := Small L.length ∧ ∀ y ∈ L, Small y.1.length ∧ Small y.2.length ∧ (∀ x ∈ y.1, Small x.1.length ∧ Small x.2.length) ∧ (∀ x ∈ y.2, I64 x.1 ∧ x.2 < 18446744073709551616)
theorem rel_series2 {X : GW} {o : Bool} {v : Value} {L : List Srs} (h : Rel X (.sl o 2 (L.map srsRow)) v) (hL : OkL L) : SeriesAt X.w v (L.map toSr) := by
  obtain ⟨hl1, hl2⟩ := hL
  generalize hM : L.map srsRow = M at h
  cases h with
  | nl _ _ a0 c0 =>
    have : L = [] := List.map_eq_nil_iff.1 hM
    subst this
    exact ⟨a0, c0, [], rfl, small20 (by simp), rfl, fun i x hx => by simp at hx, fun i x s hx => by simp at hx⟩
  | sl _ _ _ b off cap n c hg hn hc hs hm hr =>
    subst hM
    have hri : ∀ (i : Nat) y, L[i]? = some y → (L.map srsRow)[i]? = some [.sl false 2 (y.1.map lblRow), .sl false 2 (y.2.map smpRow)] := fun i y hy => by simp [hy, srsRow]
    refine ⟨some ⟨b, off, none⟩, cap, (List.range L.length).map fun i => (c i 0, c i 1), by simp, by simpa using hl1, by simp, fun i x hx => ?_, fun i x s hx hs' => ?_⟩
    · simp only [List.getElem?_map, Option.map_eq_some_iff] at hx
      obtain ⟨j, hj, rfl⟩ := hx
      obtain ⟨hj1, hj2⟩ := List.getElem?_eq_some_iff.1 hj
      simp at hj2 hj1
      subst hj2
      have hy : L[i]? = some L[i] := List.getElem?_eq_getElem hj1
      exact ⟨b, off, rfl, hm i 0 _ _ (hri i _ hy) rfl, hm i 1 _ _ (hri i _ hy) rfl⟩
    · simp only [List.getElem?_map, Option.map_eq_some_iff] at hx hs'
      obtain ⟨j, hj, rfl⟩ := hx
      obtain ⟨hj1, hj2⟩ := List.getElem?_eq_some_iff.1 hj
      simp at hj2 hj1
      subst hj2
      obtain ⟨y, hy, rfl⟩ := hs'
      obtain ⟨g1, g2, g3, g4⟩ := hl2 y (List.mem_of_getElem? hy)
      constructor
      · obtain ⟨ao, cap, e, hp⟩ := rel_pairs lblRow lbV (fun _ => rfl) (hr i 0 _ _ (hri i _ hy) rfl)
        exact ⟨ao, cap, e, g1, hp, g3⟩
      · obtain ⟨ao, cap, e, hp⟩ := rel_pairs smpRow (fun p => smV (p.1, (p.2 : Int))) (fun _ => rfl) (hr i 1 _ _ (hri i _ hy) rfl)
        refine ⟨ao, cap, by simpa [toSr] using e, by simpa [toSr] using g2, by simp only [toSr]; rw [List.map_map]; exact hp, fun x hx => ?_⟩
        simp only [toSr] at hx
        obtain ⟨z, hz, rfl⟩ := List.mem_map.1 hx
        obtain ⟨a, b⟩ := g4 z hz
        exact ⟨a, by unfold U64; dsimp only; omega⟩

section
variable {w : World}
theorem rel_pairs_mk {ao : Option Addr} {cap : Nat} {R : List (List AV)} {vs : List (Value × Value)} (hl : R.length = vs.length) (hp : PairsAt w ao vs) (hcap : vs.length ≤ cap)
    (hrow : ∀ (i : Nat) r y, R[i]? = some r → vs[i]? = some y → ∃ u0 u1, r = [u0, u1] ∧ Rel (allW w) u0 y.1 ∧ Rel (allW w) u1 y.2) : Rel (allW w) (.sl false 2 R) (.slice ao vs.length cap) := by
  by_cases h0 : vs.length = 0
  · have hR : R = [] := List.length_eq_zero_iff.1 (by omega)
    subst hR
    rw [h0]
    exact .nl _ _ _ _
  have hget : ∀ i, i < vs.length → ∃ y, vs[i]? = some y := fun i hi => ⟨vs[i], List.getElem?_eq_getElem hi⟩
  obtain ⟨y0, hy0⟩ := hget (vs.length - 1) (by omega)
  obtain ⟨b, off, hao, c1, c2⟩ := hp _ _ hy0
  subst hao
  have hblk : ∃ cs e fr, w.heap[b]? = some (.cells cs e fr) ∧ off + (vs.length - 1) * 2 + 1 < cs.size := by
    unfold World.cell? at c2
    split at c2
    · rename_i cs e fr hb
      refine ⟨cs, e, fr, hb, ?_⟩
      have := (Array.getElem?_eq_some_iff.1 c2).1
      exact this
    all_goals cases c2
  obtain ⟨cs, e, fr, hb, hsz⟩ := hblk
  have hg : (allW w).g b = some cs.size := by simp only [allW, hb]
  rw [← hl]
  refine .sl false 2 R b off cap cs.size (fun i j => if j = 0 then (vs.getD i (undef, undef)).1 else (vs.getD i (undef, undef)).2) hg (by omega) (by omega) (fun i r hr => ?_) (fun i j r u hr hu => ?_) (fun i j r u hr hu => ?_)
  · have hi := (List.getElem?_eq_some_iff.1 hr).1
    obtain ⟨y, hy⟩ := hget i (by omega)
    obtain ⟨u0, u1, rfl, _, _⟩ := hrow i r y hr hy
    rfl
  · have hi := (List.getElem?_eq_some_iff.1 hr).1
    obtain ⟨y, hy⟩ := hget i (by omega)
    obtain ⟨u0, u1, rfl, _, _⟩ := hrow i r y hr hy
    obtain ⟨b', off', he, d1, d2⟩ := hp i y hy
    cases he
    have hgd : vs.getD i (undef, undef) = y := by rw [List.getD_eq_getElem?_getD, hy]; rfl
    match j, hu with
    | 0, hu => rw [if_pos rfl, hgd]; exact d1
    | 1, hu => rw [if_neg (by omega), hgd]; exact d2
    | j + 2, hu => simp at hu
  · have hi := (List.getElem?_eq_some_iff.1 hr).1
    obtain ⟨y, hy⟩ := hget i (by omega)
    obtain ⟨u0, u1, rfl, r0, r1⟩ := hrow i r y hr hy
    have hgd : vs.getD i (undef, undef) = y := by rw [List.getD_eq_getElem?_getD, hy]; rfl
    match j, hu with
    | 0, hu => simp at hu; subst hu; rw [if_pos rfl, hgd]; exact r0
    | 1, hu => simp at hu; subst hu; rw [if_neg (by omega), hgd]; exact r1
    | j + 2, hu => simp at hu
theorem rel_of_labels {v : Value} {l : List Lb} (h : LabelsAt w v l) (hcap : ∀ ao n c, v = .slice ao n c → n ≤ c) : Rel (allW w) (.sl false 2 (l.map lblRow)) v ∧ Small l.length ∧ ∀ x ∈ l, Small x.1.length ∧ Small x.2.length := by
  obtain ⟨ao, cap, rfl, hs, hp, hx⟩ := h
  refine ⟨?_, hs, hx⟩
  have := rel_pairs_mk (R := l.map lblRow) (cap := cap) (by simp) hp (by simpa using hcap _ _ _ rfl) (fun i r y hr hy => by
    simp only [List.getElem?_map, Option.map_eq_some_iff] at hr hy
    obtain ⟨a, ha, rfl⟩ := hr
    obtain ⟨a', ha', rfl⟩ := hy
    rw [ha] at ha'; cases ha'
    exact ⟨_, _, rfl, .v _, .v _⟩)
  simpa using this
theorem rel_of_samples {v : Value} {l : List Sm} (h : SamplesAt w v l) (hcap : ∀ ao n c, v = .slice ao n c → n ≤ c) : ∃ L : List Smp, Rel (allW w) (.sl false 2 (L.map smpRow)) v ∧ Small L.length ∧ ∀ x ∈ L, I64 x.1 ∧ x.2 < 18446744073709551616 := by
  obtain ⟨ao, cap, rfl, hs, hp, hx⟩ := h
  refine ⟨l.map fun p => (p.1, p.2.toNat), ?_, by simpa using hs, fun x hx' => ?_⟩
  · have := rel_pairs_mk (R := (l.map fun p => ((p.1, p.2.toNat) : Smp)).map smpRow) (cap := cap) (by simp) hp (by simpa using hcap _ _ _ rfl) (fun i r y hr hy => by
      simp only [List.getElem?_map, Option.map_eq_some_iff] at hr hy
      obtain ⟨a, ⟨a0, ha, rfl⟩, rfl⟩ := hr
      obtain ⟨a', ha', rfl⟩ := hy
      rw [ha] at ha'; cases ha'
      have hu := (hx a0 (List.mem_of_getElem? ha)).2
      unfold U64 at hu
      refine ⟨_, _, rfl, .v _, ?_⟩
      have : ((a0.2.toNat : Nat) : Int) = a0.2 := by omega
      simp only [this, smV]
      exact .v _)
    simpa using this
  · obtain ⟨a, ha, rfl⟩ := List.mem_map.1 hx'
    obtain ⟨h1, h2⟩ := hx a ha
    unfold U64 at h2
    exact ⟨h1, by dsimp only; omega⟩
end
section
variable {H : Type} {enc : TypeId × Value → H} {w : World} {base : Nat} {spare : Nat → Bool} {held : Bool} {Pr : Program}
theorem trod_cap {t e : TypeId} {f0 f1 : Field} {fuel : Nat} {v : Value} {x : DataW H × List MemPlace} (ht : Pr.underlying t = some (.slice e)) (he : Pr.underlying e = some (.struct #[f0, f1]))
    (ce : Pr.cellsOf e = 2) (o0 : f0.offset = 0) (o1 : f1.offset = 1) (c0 : Pr.cellsOf f0.type = 1) (c1 : Pr.cellsOf f1.type = 1)
    (h : DataW.trod enc Pr w base spare held fuel t [v] = some x) : ∀ ao n c, v = .slice ao n c → n ≤ c := by
  rintro ao n c rfl
  rcases open_slice_pairs ht he ce o0 o1 c0 c1 h with ⟨hc, _⟩ | ⟨a, len, cap, m, n', V0, V1, D0, D1, P0, P1, hc, _, hl, _⟩
  · simp at hc; omega
  · simp at hc; omega
theorem open_rseries {fuel : Nat} {v : Value} {x : DataW H × List MemPlace} (h : DataW.trod enc Try.prog w base spare held fuel 30 [v] = some x) (hw : ∀ n ∈ x.1.weights Try.prog 30, n ≤ reachBytes) :
    ∃ L, OkL L ∧ Rel (allW w) (.sl false 2 (L.map srsRow)) v := by
  have hcap := trod_cap Try.underlying30 Try.underlying52 Try.cellsSr rfl rfl Try.cellsLbs Try.cellsSms h
  obtain ⟨ao, len, cap, vs, rfl, hvl, hsm, hat, hel⟩ := open_pairs Try.underlying30 Try.underlying52 Try.cellsSr rfl rfl Try.cellsLbs Try.cellsSms (by rw [Try.bytesSr]; omega) h hw
  have each : ∀ i, i < vs.length → ∃ q : Srs, ∀ y, vs[i]? = some y → Rel (allW w) (.sl false 2 (q.1.map lblRow)) y.1 ∧ Rel (allW w) (.sl false 2 (q.2.map smpRow)) y.2 ∧ Small q.1.length ∧ Small q.2.length ∧ (∀ x ∈ q.1, Small x.1.length ∧ Small x.2.length) ∧ (∀ x ∈ q.2, I64 x.1 ∧ x.2 < 18446744073709551616) := by
    intro i hi
    obtain ⟨n, d0, d1, h0, w0, h1, w1⟩ := hel i vs[i] (List.getElem?_eq_getElem hi)
    obtain ⟨l1, h2⟩ := open_labels h0 w0
    obtain ⟨l2, h3⟩ := open_samples h1 w1
    obtain ⟨r1, r2, r3⟩ := rel_of_labels h2 (trod_cap Try.underlying49 Try.underlying48 Try.cellsLb rfl rfl Try.cellsStr Try.cellsStr h0)
    obtain ⟨L2, s1, s2, s3⟩ := rel_of_samples h3 (trod_cap Try.underlying50 Try.underlying56 Try.cellsSm rfl rfl Try.cellsInt Try.cellsU64 h1)
    refine ⟨(l1, L2), fun y hy => ?_⟩
    rw [List.getElem?_eq_getElem hi] at hy; cases hy
    exact ⟨r1, s1, r2, s2, r3, s3⟩
  obtain ⟨f, hf⟩ := choose_lt (n := vs.length) (p := fun i (q : Srs) => ∀ y, vs[i]? = some y → Rel (allW w) (.sl false 2 (q.1.map lblRow)) y.1 ∧ Rel (allW w) (.sl false 2 (q.2.map smpRow)) y.2 ∧ Small q.1.length ∧ Small q.2.length ∧ (∀ x ∈ q.1, Small x.1.length ∧ Small x.2.length) ∧ (∀ x ∈ q.2, I64 x.1 ∧ x.2 < 18446744073709551616)) each
  refine ⟨(List.range vs.length).map f, ⟨by simpa [hvl] using hsm, fun y hy => ?_⟩, ?_⟩
  · obtain ⟨i, hi, rfl⟩ := List.mem_map.1 hy
    have hi' := List.mem_range.1 hi
    exact (hf i hi' vs[i] (List.getElem?_eq_getElem hi')).2.2
  · have hc := hcap _ _ _ rfl
    rw [← hvl] at hc ⊢
    refine rel_pairs_mk (by simp) hat hc (fun i r y hr hy => ?_)
    have hi : i < vs.length := (List.getElem?_eq_some_iff.1 hy).1
    simp [hi] at hr
    subst hr
    obtain ⟨a, b, _⟩ := hf i hi y hy
    exact ⟨_, _, rfl, a, b⟩
end
end Go.Proofs.Ytophpbihcfdkcaa
