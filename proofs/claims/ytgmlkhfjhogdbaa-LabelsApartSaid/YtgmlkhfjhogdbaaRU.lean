-- slim: written by gen/slim.py from XRU.lean.tpl
/- Operations whose guard was itself not wanted. -/
import Derived.Test.YtgmlkhfjhogdbaaGC
namespace Go.Proofs.Ytgmlkhfjhogdbaa
open Go.RowKit P
set_option linter.unusedSimpArgs false
set_option linter.unusedVariables false

/-- A guard that was itself not wanted. -/
def wantedU (l : List Oper) (σ : AS) (o : Oper) : Bool :=
  match o.guard with
  | none => false
  | some (j, _) => match (l[j]?).bind (·.dst) with
    | some d => (match look σ.t d with | some (.v (.tuple _)) => decide (d < σ.n) | _ => false)
    | none => false
theorem wantedU_of {l : List Oper} {σ : AS} {o : Oper} {F : Nat → Prop} {X : GW} {tm : Array Value} (hs : SimE F X σ tm) (h : wantedU l σ o = true) : Region.wanted o (yielded l.toArray tm) = false := by
  unfold wantedU at h
  unfold Region.wanted
  cases hg : o.guard with
  | none => rw [hg] at h; cases h
  | some p =>
    obtain ⟨j, want⟩ := p
    rw [hg] at h
    simp only at h ⊢
    cases hj : (l[j]?).bind (·.dst) with
    | none => rw [hj] at h; cases h
    | some d =>
      rw [hj] at h
      simp only at h
      split at h
      · rename_i c0 hlk
        have hd := of_decide_eq_true h
        have hr := hs.slot d _ hlk
        have hd' : d < tm.size := by rw [hs.size]; exact hd
        have hv : tm.getD d undef = .tuple c0 := by
          generalize tm.getD d undef = z at hr
          cases hr
          rfl
        have hy : yielded l.toArray tm j = none := by
          unfold yielded
          have : ((l.toArray)[j]?).bind (·.dst) = some d := by simpa using hj
          rw [this]
          simp [hd'] at hv ⊢
          rw [hv]
        rw [hy]; rfl
      · cases h
theorem ar_unwantedU {Q : Exit → AS → Prop} {ks : List It} {P : Program} {σ : AS} {l : List Oper} {k : Nat} {o : Oper} {rest : List Oper} {d : Nat} (ho : l[k]? = some o) (hw : wantedU l σ o = true) (hdst : o.dst = some d) (hd : Nat.ble (d + 1) σ.n = true)
    (hn : ARun P Q (.o l (k + 1) rest :: ks) (AS.nf (σ.put d (.v undef)))) : ARun P Q (.o l k (o :: rest) :: ks) σ := by
  intro F X a hs D hdf
  have hk : k < l.length := (List.getElem?_eq_some_iff.1 ho).1
  rw [range'_cons hk]
  have ho' : (l.toArray)[k]? = some o := by simpa using ho
  simp only [wpOps, ho']
  rw [if_neg (by rw [wantedU_of hs hw]; simp)]
  refine hn F X (a.put o.dst undef) ?_ D (by rw [put_defers]; exact hdf)
  rw [hdst]
  exact hs.put_new (lt_of_ble hd) (New.refl X) hs.gb (.v _) (FreshOk.plain rfl)
end Go.Proofs.Ytgmlkhfjhogdbaa
