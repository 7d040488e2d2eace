/- Arguments opened: what a reading tells, as typed values. -/
import Derived.Test.YtgmlkhfjhogdbaaHJ
import Derived.ProofKit
import Derived.OpenShut
import Derived.Deep.Slices
namespace Go.Proofs.Ytgmlkhfjhogdbaa
open Go.RowKit Go.Deep Go.ChangeShapes Go.WideShapes Go.ChangeAt P
set_option linter.unusedSimpArgs false
set_option linter.unusedVariables false

def RelCs (w : World) (us : List AV) (cs : List Value) : Prop := us.length = cs.length ∧ ∀ (i : Nat) u v, us[i]? = some u → cs[i]? = some v → Rel (allW w) u v
def RelAt (w : World) (us : List AV) (off : Nat) (cs : List Value) : Prop := ∀ (i : Nat) u v, us[i]? = some u → cs[off + i]? = some v → Rel (allW w) u v
theorem RelAt.of_piece {w : World} {us : List AV} {off k : Nat} {cs : List Value} (h : RelCs w us ((cs.drop off).take k)) : RelAt w us off cs := fun i u v hu hv => by
  refine h.2 i u v hu ?_
  have hi : i < ((cs.drop off).take k).length := by rw [← h.1]; exact (List.getElem?_eq_some_iff.1 hu).1
  have hk : i < k := by rw [List.length_take] at hi; omega
  rw [List.getElem?_take, if_pos hk, List.getElem?_drop]; exact hv
theorem RelAt.nil {w : World} {off : Nat} {cs : List Value} : RelAt w [] off cs := fun i u v hu => by simp at hu
theorem RelAt.cat {w : World} {us us' : List AV} {off off' : Nat} {cs : List Value} (h : RelAt w us off cs) (h' : RelAt w us' off' cs) (e : off' = off + us.length) : RelAt w (us ++ us') off cs := fun i u v hu hv => by
  by_cases hi : i < us.length
  · rw [List.getElem?_append_left hi] at hu; exact h i u v hu hv
  · rw [List.getElem?_append_right (by omega)] at hu
    exact h' (i - us.length) u v hu (by rw [e, show off + us.length + (i - us.length) = off + i by omega]; exact hv)
theorem RelAt.whole {w : World} {us : List AV} {cs : List Value} (h : RelAt w us 0 cs) (e : us.length = cs.length) : RelCs w us cs := ⟨e, fun i u v hu hv => h i u v hu (by simpa using hv)⟩
section
variable {H : Type} {enc : TypeId × Value → H} {Pr : Program} {w : World} {base : Nat} {spare : Nat → Bool} {held : Bool}
def Opens {H : Type} (enc : TypeId × Value → H) (Pr : Program) (w : World) (base : Nat) (spare : Nat → Bool) (held : Bool) (t : TypeId) {α : Type} (ec : α → List AV) (Wf : α → Prop) : Prop :=
  ∀ (fuel : Nat) (cs : List Value) (x : DataW H × List MemPlace), DataW.trod enc Pr w base spare held fuel t cs = some x → (∀ n ∈ x.1.weights Pr t, n ≤ reachBytes) → ∃ z, Wf z ∧ RelCs w (ec z) cs
theorem opens_int {t : TypeId} {k : IntKind} (ht : Pr.underlying t = some (.int k)) : Opens enc Pr w base spare held t (fun n : Int => [.v (.int k n)]) (fun n => (Lit.int k n).wf = true) := by
  intro fuel cs x h hw
  obtain ⟨n, rfl, rfl, hwf⟩ := DataW.trod_int ht h
  refine ⟨n, hwf, rfl, fun i u v hu hv => ?_⟩
  match i, hu, hv with
  | 0, hu, hv => simp at hu hv; subst hu hv; exact .v _
  | i + 1, hu, hv => simp at hu
theorem opens_bool {t : TypeId} (ht : Pr.underlying t = some .bool) : Opens enc Pr w base spare held t (fun b : Bool => [.v (.bool b)]) (fun _ => True) := by
  intro fuel cs x h hw
  have : ∃ b, cs = [.bool b] := by
    cases fuel with
    | zero => simp [DataW.trod] at h
    | succ n =>
      unfold DataW.trod at h
      rw [ht] at h
      split at h <;> simp_all
  obtain ⟨b, rfl⟩ := this
  refine ⟨b, trivial, rfl, fun i u v hu hv => ?_⟩
  match i, hu, hv with
  | 0, hu, hv => simp at hu hv; subst hu hv; exact .v _
  | i + 1, hu, hv => simp at hu
theorem opens_str {t : TypeId} (ht : Pr.underlying t = some .string) : Opens enc Pr w base spare held t (fun s : List UInt8 => [.v (.string (mkB s))]) (fun s => s.length ≤ reachBytes) := by
  intro fuel cs x h hw
  obtain ⟨s, rfl, rfl, hs⟩ := DataW.trod_string ht h
  refine ⟨s.data.toList, hw _ (by simp [DataW.weights]), rfl, fun i u v hu hv => ?_⟩
  match i, hu, hv with
  | 0, hu, hv => simp at hu hv; subst hu hv; exact .v _
  | i + 1, hu, hv => simp at hu
theorem weightsAll_mem' {e : TypeId} : ∀ {l : List (DataW H)} {d : DataW H}, d ∈ l → ∀ n ∈ d.weights Pr e, n ∈ DataW.weightsAll Pr e l
  | [], _, h, _, _ => by cases h
  | x :: l, d, h, n, hn => by
    simp only [DataW.weightsAll, List.mem_append]
    rcases List.mem_cons.1 h with rfl | h
    · exact .inl hn
    · exact .inr (weightsAll_mem' h n hn)
theorem weightsEach_mem' {t : TypeId} : ∀ {ts : List TypeId} {l : List (DataW H)} {j : Nat} {d : DataW H}, ts[j]? = some t → l[j]? = some d → ∀ n ∈ d.weights Pr t, n ∈ DataW.weightsEach Pr ts l
  | [], _, _, _, h, _, _, _ => by simp at h
  | _ :: _, [], _, _, _, h, _, _ => by simp at h
  | t0 :: ts, d0 :: l, 0, d, h1, h2, n, hn => by
    simp at h1 h2; subst h1 h2
    simp only [DataW.weightsEach, List.mem_append]; exact .inl hn
  | t0 :: ts, d0 :: l, j + 1, d, h1, h2, n, hn => by
    simp only [DataW.weightsEach, List.mem_append]
    exact .inr (weightsEach_mem' (j := j) (by simpa using h1) (by simpa using h2) n hn)
theorem cells_get {a : Addr} {n : Nat} {cs : List Value} (h : w.cells? base a n = some cs) : cs.length = n ∧ ∀ j, j < n → w.cell? (a.add j) = cs[j]? := by
  unfold World.cells? at h
  split at h
  · refine ⟨by simpa using mapM_some_length h, fun j hj => ?_⟩
    exact mapM_some_get h j j (by simp [hj])
  · cases h
theorem opens_slice {t e : TypeId} {α : Type} {ec : α → List AV} {Wf : α → Prop} {sz : Nat} (ht : Pr.underlying t = some (.slice e)) (hc : Pr.cellsOf e = sz) (h1 : 1 ≤ sz) (hb : 1 ≤ Pr.bytesOf e) (hlen : ∀ z, (ec z).length = sz) (ho : Opens enc Pr w base spare held e ec Wf) :
    Opens enc Pr w base spare held t (fun l : List α => [.sl false sz (l.map ec)]) (fun l => l.length ≤ reachBytes ∧ ∀ z ∈ l, Wf z) := by
  intro fuel cs x h hw
  have one : ∀ (l : List α) (v : Value), Rel (allW w) (.sl false sz (l.map ec)) v → RelCs w [.sl false sz (l.map ec)] [v] := fun l v hr => ⟨rfl, fun i u v' hu hv => by
    match i, hu, hv with
    | 0, hu, hv => simp at hu hv; subst hu hv; exact hr
    | i + 1, hu, hv => simp at hu⟩
  rcases open_slice ht h with ⟨rfl, rfl⟩ | ⟨a, len, cap, m, n, D, Pl, rfl, hba, hl, hm, hmm, rfl, hel⟩
  · exact ⟨[], ⟨Nat.zero_le _, fun z hz => by cases hz⟩, one [] _ (.nl _ _ _ _)⟩
  · have hlm : len ≤ m := by rw [hmm]; split <;> omega
    have hlr : len ≤ reachBytes := by
      have := hw ((((List.range len).map D).length + ((List.range (m - len)).map fun j => D (len + j)).length) * Pr.bytesOf e) (by simp only [DataW.weights, ht]; exact List.mem_cons_self ..)
      simp only [List.length_map, List.length_range] at this
      have h2 : (len + (m - len)) * 1 ≤ (len + (m - len)) * Pr.bytesOf e := Nat.mul_le_mul_left _ hb
      omega
    have hwt : ∀ i, i < len → ∀ k ∈ (D i).weights Pr e, k ≤ reachBytes := fun i hi k hk => by
      refine hw k ?_
      simp only [DataW.weights, ht]
      refine List.mem_cons_of_mem _ (List.mem_append.2 (.inl ?_))
      exact weightsAll_mem' (List.mem_map.2 ⟨i, List.mem_range.2 hi, rfl⟩) k hk
    rcases Nat.eq_zero_or_pos len with h0 | hpos
    · subst h0
      exact ⟨[], ⟨Nat.zero_le _, fun z hz => by cases hz⟩, one [] _ (.nl _ _ _ _)⟩
    have each : ∀ i, i < len → ∃ y : α × List Value, Wf y.1 ∧ RelCs w (ec y.1) y.2 ∧ y.2.length = sz ∧ ∀ j, j < sz → w.cell? ((a.add (i * sz)).add j) = y.2[j]? := fun i hi => by
      obtain ⟨cs', h2, h3⟩ := hel i (by omega)
      rw [hc] at h2
      obtain ⟨z, hz, hr⟩ := ho _ _ _ h3 (hwt i hi)
      obtain ⟨k1, k2⟩ := cells_get h2
      exact ⟨(z, cs'), hz, hr, k1, k2⟩
    obtain ⟨y0, _⟩ := each 0 hpos
    haveI : Inhabited (α × List Value) := ⟨y0⟩
    obtain ⟨f, hf⟩ := choose_lt each
    have hspot : a.spot = none := by
      obtain ⟨_, _, k1, k2⟩ := hf 0 hpos
      have := k2 0 (by omega)
      rw [List.getElem?_eq_getElem (by omega)] at this
      obtain ⟨b, off, spot⟩ := a
      simpa [Addr.add] using World.cell?_spot this
    obtain ⟨b, off, spot⟩ := a
    simp only at hspot
    subst hspot
    have hcell : ∀ i, i < len → ∀ j, j < sz → w.cell? ⟨b, off + i * sz + j, none⟩ = (f i).2[j]? := fun i hi j hj => by
      have := (hf i hi).2.2.2 j hj
      rw [add_off, add_off] at this
      exact this
    have hblk : ∃ cs e' fr, w.heap[b]? = some (.cells cs e' fr) ∧ off + (len - 1) * sz + (sz - 1) < cs.size := by
      have c2 := hcell (len - 1) (by omega) (sz - 1) (by omega)
      rw [List.getElem?_eq_getElem (by have := (hf (len - 1) (by omega)).2.2.1; omega)] at c2
      unfold World.cell? at c2
      split at c2
      · rename_i cs e' fr hb'
        exact ⟨cs, e', fr, hb', (Array.getElem?_eq_some_iff.1 c2).1⟩
      all_goals cases c2
    obtain ⟨cs, e', fr, hb', hsz⟩ := hblk
    have hg : (allW w).g b = some cs.size := by simp only [allW, hb']
    have hsum : (len - 1) * sz + sz = len * sz := by rw [← Nat.succ_mul]; congr 1; omega
    refine ⟨(List.range len).map fun i => (f i).1, ⟨by simpa using hlr, fun z hz => ?_⟩, one _ _ ?_⟩
    · obtain ⟨i, hi, rfl⟩ := List.mem_map.1 hz
      exact (hf i (List.mem_range.1 hi)).1
    · have hL : (((List.range len).map fun i => (f i).1).map ec).length = len := by simp
      have hrow : ∀ (i : Nat) r, (((List.range len).map fun i => (f i).1).map ec)[i]? = some r → i < len ∧ r = ec (f i).1 := fun i r hr => by
        have hi : i < len := by have := (List.getElem?_eq_some_iff.1 hr).1; simpa using this
        refine ⟨hi, ?_⟩
        simp [hi] at hr
        exact hr.symm
      have := Rel.sl (X := allW w) false sz (((List.range len).map fun i => (f i).1).map ec) b off cap cs.size (fun i j => ((f i).2[j]?).getD undef) hg (by rw [hL]; omega) (by rw [hL]; exact hl) (fun i r hr => by rw [(hrow i r hr).2]; exact hlen _) (fun i j r u hr hu => by
        obtain ⟨hi, rfl⟩ := hrow i r hr
        have hj : j < sz := by have := (List.getElem?_eq_some_iff.1 hu).1; rw [hlen] at this; exact this
        have hjl : j < (f i).2.length := by rw [(hf i hi).2.2.1]; exact hj
        show w.cell? _ = _
        rw [hcell i hi j hj, List.getElem?_eq_getElem hjl]; rfl) (fun i j r u hr hu => by
        obtain ⟨hi, rfl⟩ := hrow i r hr
        have hj : j < sz := by have := (List.getElem?_eq_some_iff.1 hu).1; rw [hlen] at this; exact this
        have hjl : j < (f i).2.length := by rw [(hf i hi).2.2.1]; exact hj
        refine (hf i hi).2.1.2 j u _ hu ?_
        rw [List.getElem?_eq_getElem hjl]; rfl)
      rw [hL] at this
      exact this
/-- A struct's field. -/
theorem piece {t : TypeId} {fs : Array Field} {xs : List (DataW H × List MemPlace)} {n : Nat} {cs : List Value} {α : Type} {ec : α → List AV} {Wf : α → Prop} (ht : Pr.underlying t = some (.struct fs)) (hlen : xs.length = fs.size)
    (hf : ∀ (i : Nat) (f : Field), fs[i]? = some f → DataW.trod enc Pr w base spare held n f.type ((cs.drop f.offset).take (Pr.cellsOf f.type)) = xs[i]?) (hw : ∀ n ∈ (DataW.agg (xs.map (·.1))).weights Pr t, n ≤ reachBytes)
    (i : Nat) (f : Field) (hi : fs[i]? = some f) (ho : Opens enc Pr w base spare held f.type ec Wf) : ∃ z, Wf z ∧ RelAt w (ec z) f.offset cs := by
  have h1 := hf i f hi
  have hil : i < xs.length := by rw [hlen]; exact (Array.getElem?_eq_some_iff.1 hi).1
  rw [List.getElem?_eq_getElem hil] at h1
  obtain ⟨z, hz, hr⟩ := ho _ _ _ h1 fun k hk => hw k (by
    simp only [DataW.weights, ht]
    exact weightsEach_mem' (j := i) (t := f.type) (by
      have hi' : fs.toList[i]? = some f := by simpa using hi
      simp [hi']) (by simp [List.getElem?_eq_getElem hil]) k hk)
  exact ⟨z, hz, .of_piece hr⟩
/-- A struct handed in. -/
theorem arg_ag {r : Reach} {b0 : Nat} {t : TypeId} {fs : Array Field} {v : Value} {d : DataW H} {ps : List MemPlace} {α : Type} {ec : α → List AV} {Wf : α → Prop} (ho : Opens enc Pr w base spare held t ec Wf) (ht : Pr.underlying t = some (.struct fs)) (hval : Value.okWide Pr w r b0 t v) (hd : DataW.Trod enc Pr w base spare held t v d ps) (hw : ∀ n ∈ d.weights Pr t, n ≤ reachBytes) :
    ∃ z, Wf z ∧ Rel (allW w) (.ag (ec z)) v := by
  obtain ⟨cs, rfl, _⟩ := okWide_struct ht hval
  obtain ⟨fuel, hf⟩ := hd
  obtain ⟨z, hz, hr⟩ := ho _ _ _ hf hw
  refine ⟨z, hz, .ag _ _ (by have := hr.1; simpa [Value.cells] using this) fun i u x hu hx => hr.2 i u x hu (by simpa [Value.cells] using hx)⟩
/-- A slice handed in. -/
theorem arg_sl {r : Reach} {b0 : Nat} {t e : TypeId} {v : Value} {d : DataW H} {ps : List MemPlace} {α : Type} {u : α → AV} {Wf : α → Prop} (ho : Opens enc Pr w base spare held t (fun z => [u z]) Wf) (ht : Pr.underlying t = some (.slice e)) (hval : Value.okWide Pr w r b0 t v) (hd : DataW.Trod enc Pr w base spare held t v d ps) (hw : ∀ n ∈ d.weights Pr t, n ≤ reachBytes) :
    ∃ z, Wf z ∧ Rel (allW w) (u z) v := by
  obtain ⟨oa, ln, cp, rfl⟩ := okWide_slice ht hval
  obtain ⟨fuel, hf⟩ := hd
  obtain ⟨z, hz, hr⟩ := ho _ _ _ hf hw
  exact ⟨z, hz, hr.2 0 _ _ rfl (by simp [Value.cells])⟩
end
end Go.Proofs.Ytgmlkhfjhogdbaa
