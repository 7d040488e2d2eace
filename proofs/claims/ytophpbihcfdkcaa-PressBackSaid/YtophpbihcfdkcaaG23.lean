/- The layer of abstract values: the driver's rules; a state that is to be told anew is marked. -/
import Derived.Test.YtophpbihcfdkcaaG22
namespace Go.Proofs.Ytophpbihcfdkcaa
open Go.RowKit P
set_option linter.unusedSimpArgs false
set_option linter.unusedVariables false
theorem NFL : (∀ l : List UInt8, bsOf (mkB l) = l) ∧ ∀ l : List UInt8, (byteA l).length = l.length := ⟨bsOf_mkB, byteA_length⟩
/-- The mark. -/
def AS.nf (σ : AS) : AS := σ
section
variable {P : Program} {Q : Exit → AS → Prop} {ks : List It} {σ σ' : AS} {l : List Oper} {k : Nat} {o : Oper} {rest : List Oper} {f : FuncId} {xs : Array Operand} {ats : Array TypeId} {ty : TypeId} {pos : String} {af : Array Edge} {g : Option (Nat × Bool)} {d : Nat} {us : List AV} {ρs : List (Option Root)} {post : AOut → List (Nat × List AV) → Prop}
theorem ar_un (hs : σ = σ') (h : ARun P Q ks σ') : ARun P Q ks (AS.nf σ) := hs ▸ h
theorem stk_un (hs : σ = σ') (h : Stk P Q ks .ret σ') : Stk P Q ks .ret (AS.nf σ) := hs ▸ h
theorem eff_un {R : AS → Prop} (hs : σ = σ') (h : EffOp P o σ' R) : EffOp P o (AS.nf σ) R := hs ▸ h
theorem ar_nf (h : ARun P Q ks (AS.nf σ)) : ARun P Q ks σ := h
theorem eff_nf {R : AS → Prop} (h : EffOp P o (AS.nf σ) R) : EffOp P o σ R := h
theorem ar_endM (K : List Nat) (hk : k = l.length) (h : ARun P Q ks (AS.nf (σ.keep K))) : ARun P Q (.o l k [] :: ks) σ := ar_endK K hk h
theorem ar_retM (K : List Nat) (h : Stk P Q ks .ret (AS.nf (σ.keep K))) : ARun P Q (.c .ret :: ks) σ := ar_retK K h
theorem ar_retM0 (K : List Nat) (h : Stk P Q ks .ret (AS.nf ⟨σ.n, (σ.keep K).t, [], []⟩)) : ARun P Q (.c .ret :: ks) σ := by
  refine ar_retK0 K ?_
  exact h
theorem ar_effM (ho : l[k]? = some o) (hw : wantedA l σ o = some true) (h : EffTo P o σ σ') (hn : ARun P Q (.o l (k + 1) rest :: ks) (AS.nf σ')) : ARun P Q (.o l k (o :: rest) :: ks) σ := ar_eff ho hw (h _ hn)
theorem effM {R : AS → Prop} (h : EffTo P o σ σ') (hR : R σ') : EffOp P o σ R := h R hR
theorem ar_callMH {fop : Op} (hop : fop = .call { callee := .value (.func f), args := xs, argTypes := ats }) (hc : ACalls P f us σ.h post) (ho : l[k]? = some ⟨some d, fop, ty, pos, af, g⟩) (hw : wantedA l σ ⟨some d, fop, ty, pos, af, g⟩ = some true) (ha : PArgs σ xs.toList us ρs) (h1 : oneSome ρs = true) (h2 : slotsOnly ρs = true) (hd : Nat.ble (d + 1) σ.n = true)
    (hR : ∀ out H', post out H' → ∃ u, out = .ret u ∧ ARun P Q (.o l (k + 1) rest :: ks) (AS.nf ((callSt σ ρs [] H').put d u))) : ARun P Q (.o l k (⟨some d, fop, ty, pos, af, g⟩ :: rest) :: ks) σ := ar_callH hop hc ho hw ha h1 h2 hd hR
theorem ar_callM0 {fop : Op} (hop : fop = .call { callee := .value (.func f), args := xs, argTypes := ats }) (hc : ACalls P f us [] post) (ho : l[k]? = some ⟨some d, fop, ty, pos, af, g⟩) (hw : wantedA l σ ⟨some d, fop, ty, pos, af, g⟩ = some true) (ha : PArgs σ xs.toList us ρs) (h1 : oneSome ρs = true) (hd : Nat.ble (d + 1) σ.n = true)
    (hR : ∀ out H', post out H' → ∃ u, out = .ret u ∧ ARun P Q (.o l (k + 1) rest :: ks) (AS.nf ((callSt σ ρs (layAll ρs σ).h H').put d u))) : ARun P Q (.o l k (⟨some d, fop, ty, pos, af, g⟩ :: rest) :: ks) σ := ar_call0 hop hc ho hw ha h1 hd hR
theorem ar_callMF {caps : List AV} {s : Nat} {fop : Op} (hop : fop = .call { callee := .value (.tmp s), args := xs, argTypes := ats }) (hfn : look σ.t s = some (.fn f caps)) (hc : ACalls P f (us ++ caps) σ.h post) (ho : l[k]? = some ⟨some d, fop, ty, pos, af, g⟩) (hw : wantedA l σ ⟨some d, fop, ty, pos, af, g⟩ = some true) (ha : PArgs σ xs.toList us ρs) (hcap : caps.all (fun u => (own1 (some u)).isNone) = true) (h1 : oneSome ρs = true) (h2 : slotsOnly ρs = true) (hd : Nat.ble (d + 1) σ.n = true)
    (hR : ∀ out H', post out H' → ∃ u, out = .ret u ∧ ARun P Q (.o l (k + 1) rest :: ks) (AS.nf ((callSt σ ρs [] H').put d u))) : ARun P Q (.o l k (⟨some d, fop, ty, pos, af, g⟩ :: rest) :: ks) σ := ar_callfnH hop hfn hc ho hw ha hcap h1 h2 hd hR
end
end Go.Proofs.Ytophpbihcfdkcaa
