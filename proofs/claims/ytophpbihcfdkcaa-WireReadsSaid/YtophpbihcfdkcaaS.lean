/- What it is that a value reads as labels, samples, series in a world; that it stays so. -/
import Derived.Test.YtophpbihcfdkcaaN2
namespace Go.Proofs.Ytophpbihcfdkcaa
open Go.RowKit P

namespace P
/-- A label: name, value. -/
abbrev Lb := List UInt8 × List UInt8
/-- A sample: time, bits. -/
abbrev Sm := Int × Int
structure Sr where
  labels : List Lb
  samples : List Sm
end P

/-- The cells of a slice of structs of two cells. -/
def PairsAt (w : World) (ao : Option Addr) (l : List (Value × Value)) : Prop :=
  ∀ i x, l[i]? = some x → ∃ b off, ao = some ⟨b, off, none⟩ ∧ w.cell? ⟨b, off + i * 2, none⟩ = some x.1 ∧ w.cell? ⟨b, off + i * 2 + 1, none⟩ = some x.2

def lbV (x : Lb) : Value × Value := (.string (mkB x.1), .string (mkB x.2))
def smV (x : Sm) : Value × Value := (.int .i64 x.1, .int .u64 x.2)

def I64 (n : Int) : Prop := -9223372036854775808 ≤ n ∧ n < 9223372036854775808
def LabelsAt (w : World) (v : Value) (l : List Lb) : Prop :=
  ∃ ao cap, v = .slice ao l.length cap ∧ Small l.length ∧ PairsAt w ao (l.map lbV) ∧ ∀ x ∈ l, Small x.1.length ∧ Small x.2.length
def SamplesAt (w : World) (v : Value) (l : List Sm) : Prop :=
  ∃ ao cap, v = .slice ao l.length cap ∧ Small l.length ∧ PairsAt w ao (l.map smV) ∧ ∀ x ∈ l, I64 x.1 ∧ U64 x.2
def SeriesAt (w : World) (v : Value) (l : List Sr) : Prop :=
  ∃ ao cap vs, v = .slice ao l.length cap ∧ Small l.length ∧ vs.length = l.length ∧ PairsAt w ao vs ∧
    ∀ (i : Nat) (x : Value × Value) (s : Sr), vs[i]? = some x → l[i]? = some s → LabelsAt w x.1 s.labels ∧ SamplesAt w x.2 s.samples

/-- All cells that are there stay. -/
def Keeps (w w' : World) : Prop := ∀ a v, w.cell? a = some v → w'.cell? a = some v
theorem Keeps.refl (w : World) : Keeps w w := fun _ _ h => h
theorem Keeps.trans {a b c : World} (h : Keeps a b) (k : Keeps b c) : Keeps a c := fun x v hx => k x v (h x v hx)
theorem Keeps.of_below {B : Nat} {w w' : World} (h : Below B w w') (hB : w.heap.size ≤ B) : Keeps w w' := fun a _ hv =>
  (h.cell (p := a) (Nat.lt_of_lt_of_le (World.block_lt_of_cell? _ _ hv) hB)).trans hv

theorem keeps_alloc (w : World) (o : Obj) : Keeps w (w.alloc o) := Keeps.of_below ((Below.refl w.heap.size w).alloc (Nat.le_refl _) o) (Nat.le_refl _)
theorem PairsAt.keeps {w w' : World} {ao : Option Addr} {l : List (Value × Value)} (h : PairsAt w ao l) (k : Keeps w w') : PairsAt w' ao l := fun i x hx => by
  obtain ⟨b, off, e, h1, h2⟩ := h i x hx
  exact ⟨b, off, e, k _ _ h1, k _ _ h2⟩
theorem LabelsAt.keeps {w w' : World} {v : Value} {l : List Lb} (h : LabelsAt w v l) (k : Keeps w w') : LabelsAt w' v l := by
  obtain ⟨ao, cap, h1, h2, h3, h4⟩ := h
  exact ⟨ao, cap, h1, h2, h3.keeps k, h4⟩
theorem SamplesAt.keeps {w w' : World} {v : Value} {l : List Sm} (h : SamplesAt w v l) (k : Keeps w w') : SamplesAt w' v l := by
  obtain ⟨ao, cap, h1, h2, h3, h4⟩ := h
  exact ⟨ao, cap, h1, h2, h3.keeps k, h4⟩
theorem SeriesAt.keeps {w w' : World} {v : Value} {l : List Sr} (h : SeriesAt w v l) (k : Keeps w w') : SeriesAt w' v l := by
  obtain ⟨ao, cap, vs, h1, h2, h3, h4, h5⟩ := h
  exact ⟨ao, cap, vs, h1, h2, h3, h4.keeps k, fun i x s hx hs => ⟨(h5 i x s hx hs).1.keeps k, (h5 i x s hx hs).2.keeps k⟩⟩

/-- One element. -/
theorem LabelsAt.at {w : World} {v : Value} {l : List Lb} (h : LabelsAt w v l) : ∃ ao cap, v = .slice ao l.length cap ∧ Small l.length ∧
    ∀ k (hk : k < l.length), ∃ b off, ao = some ⟨b, off, none⟩ ∧ w.cell? ⟨b, off + k * 2, none⟩ = some (.string (mkB l[k].1)) ∧ w.cell? ⟨b, off + k * 2 + 1, none⟩ = some (.string (mkB l[k].2)) ∧ Small l[k].1.length ∧ Small l[k].2.length := by
  obtain ⟨ao, cap, h1, h2, h3, h4⟩ := h
  refine ⟨ao, cap, h1, h2, fun k hk => ?_⟩
  obtain ⟨b, off, e, c1, c2⟩ := h3 k (lbV l[k]) (by simp [hk])
  exact ⟨b, off, e, c1, c2, h4 _ (List.getElem_mem hk)⟩
theorem SamplesAt.at {w : World} {v : Value} {l : List Sm} (h : SamplesAt w v l) : ∃ ao cap, v = .slice ao l.length cap ∧ Small l.length ∧
    ∀ k (hk : k < l.length), ∃ b off, ao = some ⟨b, off, none⟩ ∧ w.cell? ⟨b, off + k * 2, none⟩ = some (.int .i64 l[k].1) ∧ w.cell? ⟨b, off + k * 2 + 1, none⟩ = some (.int .u64 l[k].2) ∧ I64 l[k].1 ∧ U64 l[k].2 := by
  obtain ⟨ao, cap, h1, h2, h3, h4⟩ := h
  refine ⟨ao, cap, h1, h2, fun k hk => ?_⟩
  obtain ⟨b, off, e, c1, c2⟩ := h3 k (smV l[k]) (by simp [hk])
  exact ⟨b, off, e, c1, c2, h4 _ (List.getElem_mem hk)⟩
theorem SeriesAt.at {w : World} {v : Value} {l : List Sr} (h : SeriesAt w v l) : ∃ ao cap, v = .slice ao l.length cap ∧ Small l.length ∧
    ∀ k (hk : k < l.length), ∃ b off v1 v2, ao = some ⟨b, off, none⟩ ∧ w.cell? ⟨b, off + k * 2, none⟩ = some v1 ∧ w.cell? ⟨b, off + k * 2 + 1, none⟩ = some v2 ∧ LabelsAt w v1 l[k].labels ∧ SamplesAt w v2 l[k].samples := by
  obtain ⟨ao, cap, vs, h1, h2, h3, h4, h5⟩ := h
  refine ⟨ao, cap, h1, h2, fun k hk => ?_⟩
  have hv : vs[k]? = some (vs[k]'(by omega)) := List.getElem?_eq_getElem (by omega)
  obtain ⟨b, off, e, c1, c2⟩ := h4 k _ hv
  obtain ⟨hl, hs⟩ := h5 k _ l[k] hv (List.getElem?_eq_getElem hk)
  exact ⟨b, off, _, _, e, c1, c2, hl, hs⟩

end Go.Proofs.Ytophpbihcfdkcaa
