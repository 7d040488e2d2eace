/- Arguments opened: a slice of labels, of samples, of series reads as a list. -/
import Derived.Test.YtophpbihcfdkcaaS
import Derived.ProofKit
import Derived.Deep.SlicePairs
import Derived.OpenShut
namespace Go.Proofs.Ytophpbihcfdkcaa
open Go.ChangeShapes Go.WideShapes Go.ChangeAt Go.RowKit Go.Deep P

theorem Try.own : ownKnob Try.prog.godebug = none := by kernel_rfl
theorem Try.laidOut : laidOutB Try.prog = true := by kernel_rfl
theorem Try.cellsLb : Try.prog.cellsOf 48 = 2 := by kernel_rfl
theorem Try.cellsSm : Try.prog.cellsOf 56 = 2 := by kernel_rfl
theorem Try.cellsSr : Try.prog.cellsOf 52 = 2 := by kernel_rfl
theorem Try.bytesLb : Try.prog.bytesOf 48 = 32 := by kernel_rfl
theorem Try.bytesSm : Try.prog.bytesOf 56 = 16 := by kernel_rfl
theorem Try.bytesSr : Try.prog.bytesOf 52 = 48 := by kernel_rfl
theorem Try.cellsStr : Try.prog.cellsOf 9 = 1 := by kernel_rfl
theorem Try.cellsInt : Try.prog.cellsOf 3 = 1 := by kernel_rfl
theorem Try.cellsU64 : Try.prog.cellsOf 22 = 1 := by kernel_rfl
theorem Try.cellsLbs : Try.prog.cellsOf 49 = 1 := by kernel_rfl
theorem Try.cellsSms : Try.prog.cellsOf 50 = 1 := by kernel_rfl

theorem small_reach {n : Nat} (h : n ≤ reachBytes) : Small n := h
theorem i64_of_wf {x : Int} (h : (Lit.int .i64 x).wf = true) : I64 x := by
  simp [Lit.wf, IntKind.min, IntKind.max, IntKind.signed, IntKind.bits] at h
  exact ⟨by omega, by omega⟩
theorem u64_of_wf {x : Int} (h : (Lit.int .u64 x).wf = true) : U64 x := by
  simp [Lit.wf, IntKind.min, IntKind.max, IntKind.signed, IntKind.bits] at h
  exact ⟨by omega, by omega⟩

section
variable {H : Type} {enc : TypeId × Value → H} {Pr : Program} {w : World} {base : Nat} {spare : Nat → Bool} {held : Bool}
theorem weightsAll_mem {e : TypeId} : ∀ {l : List (DataW H)} {d : DataW H}, d ∈ l → ∀ n ∈ d.weights Pr e, n ∈ DataW.weightsAll Pr e l
  | [], _, h, _, _ => by cases h
  | x :: l, d, h, n, hn => by
    simp only [DataW.weightsAll, List.mem_append]
    rcases List.mem_cons.1 h with rfl | h
    · exact .inl hn
    · exact .inr (weightsAll_mem h n hn)

/-- A slice of structs of two fields of one cell, element by element; what each weighs. -/
theorem open_pairs {t e : TypeId} {f0 f1 : Field} {fuel : Nat} {v : Value} {x : DataW H × List MemPlace} (ht : Pr.underlying t = some (.slice e)) (he : Pr.underlying e = some (.struct #[f0, f1]))
    (ce : Pr.cellsOf e = 2) (o0 : f0.offset = 0) (o1 : f1.offset = 1) (c0 : Pr.cellsOf f0.type = 1) (c1 : Pr.cellsOf f1.type = 1) (hb : 1 ≤ Pr.bytesOf e)
    (h : DataW.trod enc Pr w base spare held fuel t [v] = some x) (hw : ∀ n ∈ x.1.weights Pr t, n ≤ reachBytes) :
    ∃ (ao : Option Addr) (len cap : Nat) (vs : List (Value × Value)), v = .slice ao len cap ∧ vs.length = len ∧ Small len ∧ PairsAt w ao vs ∧
      ∀ (i : Nat) (y : Value × Value), vs[i]? = some y → ∃ n d0 d1, DataW.trod enc Pr w base spare held n f0.type [y.1] = some d0 ∧ (∀ k ∈ d0.1.weights Pr f0.type, k ≤ reachBytes) ∧
        DataW.trod enc Pr w base spare held n f1.type [y.2] = some d1 ∧ (∀ k ∈ d1.1.weights Pr f1.type, k ≤ reachBytes) := by
  rcases open_slice_pairs ht he ce o0 o1 c0 c1 h with ⟨hc, rfl⟩ | ⟨a, len, cap, m, n, V0, V1, D0, D1, P0, P1, hc, _, hl, _, hm, rfl, hat⟩
  · simp at hc
    exact ⟨none, 0, 0, [], hc, rfl, by unfold Small; omega, fun i y hy => by simp at hy, fun i y hy => by simp at hy⟩
  · simp at hc
    have hlm : len ≤ m := by rw [hm]; split <;> omega
    have hwt : ∀ (i : Nat), i < len → ∀ k, (k ∈ (D0 i).weights Pr f0.type ∨ k ∈ (D1 i).weights Pr f1.type) → k ≤ reachBytes := by
      intro i hi k hk
      refine hw k ?_
      simp only [DataW.weights, ht]
      refine List.mem_cons_of_mem _ (List.mem_append.2 (.inl ?_))
      refine weightsAll_mem (d := .agg [D0 i, D1 i]) (List.mem_map.2 ⟨i, List.mem_range.2 hi, rfl⟩) k ?_
      simp only [DataW.weights, he, DataW.weightsEach, List.map_cons, List.map_nil, List.append_nil, List.mem_append]
      exact hk
    have hlen : len ≤ reachBytes := by
      have := hw ((((List.range len).map fun i => DataW.agg (H := H) [D0 i, D1 i]).length + ((List.range (m - len)).map fun j => DataW.agg (H := H) [D0 (len + j), D1 (len + j)]).length) * Pr.bytesOf e) (by simp only [DataW.weights, ht]; exact List.mem_cons_self ..)
      simp only [List.length_map, List.length_range] at this
      have h2 : (len + (m - len)) * 1 ≤ (len + (m - len)) * Pr.bytesOf e := Nat.mul_le_mul_left _ hb
      omega
    refine ⟨some a, len, cap, (List.range len).map (fun i => (V0 i, V1 i)), hc, by simp, hlen, ?_, ?_⟩
    · intro i y hy
      have hi : i < len := by
        have := (List.getElem?_eq_some_iff.1 hy).1; simpa using this
      simp [hi] at hy
      subst hy
      have h0 := (hat 0 (by omega)).1
      obtain ⟨b, off, spot⟩ := a
      have hspot : spot = none := by simpa [Addr.add] using World.cell?_spot h0
      subst hspot
      obtain ⟨h1, h2, _, _⟩ := hat i (by omega)
      rw [add_plain] at h1 h2
      exact ⟨b, off, rfl, h1, by rw [← Nat.add_assoc] at h2; exact h2⟩
    · intro i y hy
      have hi : i < len := by
        have := (List.getElem?_eq_some_iff.1 hy).1; simpa using this
      simp [hi] at hy
      subst hy
      obtain ⟨_, _, h3, h4⟩ := hat i (by omega)
      exact ⟨n, _, _, h3, fun k hk => hwt i hi k (.inl hk), h4, fun k hk => hwt i hi k (.inr hk)⟩
end

section
variable {H : Type} {enc : TypeId × Value → H} {w : World} {base : Nat} {spare : Nat → Bool} {held : Bool}
theorem open_labels {fuel : Nat} {v : Value} {x : DataW H × List MemPlace} (h : DataW.trod enc Try.prog w base spare held fuel 49 [v] = some x) (hw : ∀ n ∈ x.1.weights Try.prog 49, n ≤ reachBytes) :
    ∃ l, LabelsAt w v l := by
  obtain ⟨ao, len, cap, vs, rfl, hvl, hsm, hat, hel⟩ := open_pairs Try.underlying49 Try.underlying48 Try.cellsLb rfl rfl Try.cellsStr Try.cellsStr (by rw [Try.bytesLb]; omega) h hw
  have each : ∀ (i : Nat) (y : Value × Value), vs[i]? = some y → ∃ q : Lb, y = lbV q ∧ Small q.1.length ∧ Small q.2.length := by
    intro i y hy
    obtain ⟨n, d0, d1, h0, w0, h1, w1⟩ := hel i y hy
    obtain ⟨s0, e0, rfl, _⟩ := DataW.trod_string Try.underlying9 h0
    obtain ⟨s1, e1, rfl, _⟩ := DataW.trod_string Try.underlying9 h1
    simp at e0 e1
    obtain ⟨y0, y1⟩ := y
    simp only at e0 e1
    subst e0 e1
    exact ⟨(s0.data.toList, s1.data.toList), rfl, small_reach (w0 _ (by simp [DataW.weights])), small_reach (w1 _ (by simp [DataW.weights]))⟩
  obtain ⟨f, hf⟩ := choose_lt (n := vs.length) (p := fun i q => ∀ y, vs[i]? = some y → y = lbV q ∧ Small q.1.length ∧ Small q.2.length) (fun i hi => by
    obtain ⟨q, hq⟩ := each i vs[i] (List.getElem?_eq_getElem hi)
    exact ⟨q, fun y hy => by rw [List.getElem?_eq_getElem hi] at hy; cases hy; exact hq⟩)
  have hvs : vs = ((List.range vs.length).map f).map lbV := by
    apply List.ext_getElem?
    intro i
    by_cases hi : i < vs.length
    · have := (hf i hi vs[i] (List.getElem?_eq_getElem hi)).1
      simp [hi, this]
    · simp [hi]
  refine ⟨(List.range vs.length).map f, ao, cap, by simp [hvl], by simpa [hvl] using hsm, by rw [← hvs]; exact hat, ?_⟩
  intro q hq
  obtain ⟨i, hi, rfl⟩ := List.mem_map.1 hq
  have hi' := List.mem_range.1 hi
  exact (hf i hi' vs[i] (List.getElem?_eq_getElem hi')).2

theorem open_samples {fuel : Nat} {v : Value} {x : DataW H × List MemPlace} (h : DataW.trod enc Try.prog w base spare held fuel 50 [v] = some x) (hw : ∀ n ∈ x.1.weights Try.prog 50, n ≤ reachBytes) :
    ∃ l, SamplesAt w v l := by
  obtain ⟨ao, len, cap, vs, rfl, hvl, hsm, hat, hel⟩ := open_pairs Try.underlying50 Try.underlying56 Try.cellsSm rfl rfl Try.cellsInt Try.cellsU64 (by rw [Try.bytesSm]; omega) h hw
  have each : ∀ (i : Nat) (y : Value × Value), vs[i]? = some y → ∃ q : Sm, y = smV q ∧ I64 q.1 ∧ U64 q.2 := by
    intro i y hy
    obtain ⟨n, d0, d1, h0, w0, h1, w1⟩ := hel i y hy
    obtain ⟨s0, e0, rfl, k0⟩ := DataW.trod_int Try.underlying3 h0
    obtain ⟨s1, e1, rfl, k1⟩ := DataW.trod_int Try.underlying22 h1
    simp at e0 e1
    obtain ⟨y0, y1⟩ := y
    simp only at e0 e1
    subst e0 e1
    exact ⟨(s0, s1), rfl, i64_of_wf k0, u64_of_wf k1⟩
  obtain ⟨f, hf⟩ := choose_lt (n := vs.length) (p := fun i q => ∀ y, vs[i]? = some y → y = smV q ∧ I64 q.1 ∧ U64 q.2) (fun i hi => by
    obtain ⟨q, hq⟩ := each i vs[i] (List.getElem?_eq_getElem hi)
    exact ⟨q, fun y hy => by rw [List.getElem?_eq_getElem hi] at hy; cases hy; exact hq⟩)
  have hvs : vs = ((List.range vs.length).map f).map smV := by
    apply List.ext_getElem?
    intro i
    by_cases hi : i < vs.length
    · have := (hf i hi vs[i] (List.getElem?_eq_getElem hi)).1
      simp [hi, this]
    · simp [hi]
  refine ⟨(List.range vs.length).map f, ao, cap, by simp [hvl], by simpa [hvl] using hsm, by rw [← hvs]; exact hat, ?_⟩
  intro q hq
  obtain ⟨i, hi, rfl⟩ := List.mem_map.1 hq
  have hi' := List.mem_range.1 hi
  exact (hf i hi' vs[i] (List.getElem?_eq_getElem hi')).2

instance : Inhabited Sr := ⟨⟨[], []⟩⟩
theorem open_series {fuel : Nat} {v : Value} {x : DataW H × List MemPlace} (h : DataW.trod enc Try.prog w base spare held fuel 30 [v] = some x) (hw : ∀ n ∈ x.1.weights Try.prog 30, n ≤ reachBytes) :
    ∃ l, SeriesAt w v l := by
  obtain ⟨ao, len, cap, vs, rfl, hvl, hsm, hat, hel⟩ := open_pairs Try.underlying30 Try.underlying52 Try.cellsSr rfl rfl Try.cellsLbs Try.cellsSms (by rw [Try.bytesSr]; omega) h hw
  obtain ⟨f, hf⟩ := choose_lt (n := vs.length) (p := fun i (q : Sr) => ∀ y, vs[i]? = some y → LabelsAt w y.1 q.labels ∧ SamplesAt w y.2 q.samples) (fun i hi => by
    obtain ⟨n, d0, d1, h0, w0, h1, w1⟩ := hel i vs[i] (List.getElem?_eq_getElem hi)
    obtain ⟨l1, h2⟩ := open_labels h0 w0
    obtain ⟨l2, h3⟩ := open_samples h1 w1
    exact ⟨⟨l1, l2⟩, fun y hy => by rw [List.getElem?_eq_getElem hi] at hy; cases hy; exact ⟨h2, h3⟩⟩)
  refine ⟨(List.range vs.length).map f, ao, cap, vs, by simp [hvl], by simpa [hvl] using hsm, by simp, hat, ?_⟩
  intro i y s hy hs
  have hi : i < vs.length := (List.getElem?_eq_some_iff.1 hy).1
  simp [hi] at hs
  subst hs
  exact hf i hi y hy
end
end Go.Proofs.Ytophpbihcfdkcaa
