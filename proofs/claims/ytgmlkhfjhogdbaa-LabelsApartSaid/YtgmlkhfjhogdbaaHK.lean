/- A machine without unknowns: it is run. -/
import Derived.Test.YtgmlkhfjhogdbaaHJ
namespace Go.Proofs.Ytgmlkhfjhogdbaa
open Go.RowKit P
set_option linter.unusedSimpArgs false
set_option linter.unusedVariables false
/-- A tree without unknowns. -/
def Tree.go {L : Type} : Tree L → Option L
  | .leaf x => some x
  | .cond true s _ => go s
  | .cond false _ t => go t
  | .bnd (some z) k => go (k z)
  | .bnd none _ => none
  | .sm (.ok z) k _ => go (k z)
  | .sm (.pan v) _ q => go (q v)
  | .nl [] _ _ => none
  | .nl (_ :: _) _ t => go t
  | .fail => none
theorem Tree.go_holds {L : Type} {K : L → Prop} : ∀ {t : Tree L} {x : L}, t.go = some x → K x → t.holds K
  | .leaf _, _, h, hk => by cases h; exact hk
  | .cond true s t, _, h, hk => ⟨fun _ => go_holds (t := s) h hk, fun e => by cases e⟩
  | .cond false s t, _, h, hk => ⟨(fun e => by cases e), fun _ => go_holds (t := t) h hk⟩
  | .bnd (some z) k, _, h, hk => ⟨z, rfl, go_holds (t := k z) h hk⟩
  | .bnd none _, _, h, hk => by cases h
  | .sm (.ok z) k q, _, h, hk => ⟨fun z' e => (by cases e; exact go_holds (t := k z) h hk), fun v e => by cases e⟩
  | .sm (.pan v) k q, _, h, hk => ⟨(fun z' e => by cases e), fun v' e => by cases e; exact go_holds (t := q v) h hk⟩
  | .nl [] s t, _, h, hk => by cases h
  | .nl (_ :: _) s t, _, h, hk => ⟨(fun e => by cases e), go_holds (t := t) h hk⟩
  | .fail, _, h, hk => by cases h
section
variable {P : Program} (Y : Tys P) (E : Env) (G : Gam E) (lv : Lvs) (rs : List ResultVar)
/-- Up to the end. -/
def evC : Nat → List It2 → TS E.T → Option (RL E.T)
  | 0, _, _ => none
  | m + 1, ks, σ => match (stp Y E G lv rs ks σ).go with
    | some (.go ks' σ') => evC m ks' σ'
    | some (.done r) => some r
    | none => none
end
theorem evC_ok {P : Program} {Y : Tys P} {E : Env} {G : Gam E} {lv : Lvs} {rs : List ResultVar} {K : RL E.T → Prop} : ∀ (m : Nat) (ks : List It2) (σ : TS E.T) (r : RL E.T), evC Y E G lv rs m ks σ = some r → K r → Ends Y E G lv rs K ks σ
  | 0, _, _, _, h, _ => by cases h
  | m + 1, ks, σ, r, h, hk => by
    simp only [evC] at h
    split at h
    · rename_i ks' σ' hg
      exact ends_step (Tree.go_holds hg (evC_ok m ks' σ' r h hk))
    · rename_i r' hg
      cases h
      exact ends_step (Tree.go_holds hg hk)
    · cases h
end Go.Proofs.Ytgmlkhfjhogdbaa
