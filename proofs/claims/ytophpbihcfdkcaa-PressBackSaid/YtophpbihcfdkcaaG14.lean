/- The layer of abstract values: small rules for the walk. -/
import Derived.Test.YtophpbihcfdkcaaG13
namespace Go.Proofs.Ytophpbihcfdkcaa
open Go.RowKit P
set_option linter.unusedSimpArgs false
set_option linter.unusedVariables false
section
variable {P : Program} {Q : Exit → AS → Prop} {ks : List It} {T : Tys P} {σ : AS} {l : List Oper} {k : Nat} {c : Code} {i : Nat} {I : AS → Prop}
theorem ar_endK (K : List Nat) (hk : k = l.length) (h : ARun P Q ks (σ.keep K)) : ARun P Q (.o l k [] :: ks) σ := by
  intro F X a hs hd
  subst hk
  rw [Nat.sub_self]
  exact ⟨hd, X, σ.keep K, rfl, h, hs.keep K, Ext.refl F X⟩
theorem stk_c_exit (h : Stk P Q ks (.exit i) σ) : Stk P Q (.c c :: ks) (.exit i) σ := h
theorem stk_l_exit (h : Stk P Q ks (.exit i) σ) : Stk P Q (.l I :: ks) (.exit i) σ := h
theorem stk_b_hit (h : ARun P Q ks σ) : Stk P Q (.b i :: ks) (.exit i) σ := by simp only [Stk, if_true]; exact h
theorem stk_b_miss {j : Nat} (hj : Nat.beq i j = false) (h : Stk P Q ks (.exit i) σ) : Stk P Q (.b j :: ks) (.exit i) σ := by
  have hne : ¬ i = j := fun e => by subst e; rw [Nat.beq_refl] at hj; cases hj
  simp only [Stk]; rw [if_neg hne]; exact h
theorem stk_c_ret (h : Stk P Q ks .ret σ) : Stk P Q (.c c :: ks) .ret σ := h
theorem stk_l_ret (h : Stk P Q ks .ret σ) : Stk P Q (.l I :: ks) .ret σ := h
theorem stk_b_ret (h : Stk P Q ks .ret σ) : Stk P Q (.b i :: ks) .ret σ := h
theorem stk_nil {e : Exit} (h : Q e σ) : Stk P Q [] e σ := h
theorem ar_back (h : I σ) : ARun P Q (.l I :: ks) σ := h
theorem acalls_enter {f : FuncId} {fn : Func} {us : List AV} {H : List (Nat × List AV)} {post : AOut → List (Nat × List AV) → Prop} (c : Code) (n : Nat) (rs : List ResultVar) (hf : P.funcs[f]? = some fn) (hn : (fn.name == "runtime.NumGoroutine") = false) (hb : fn.body = some c) (hnt : fn.ntmps = n) (hrs : fn.results.toList = rs) (hus : Nat.ble us.length n = true)
    (h : ARun P (Qret rs post) [.c c] ⟨n, slotsOf 0 us, H, []⟩) : ACalls P f us H post := by
  subst hnt hrs
  exact acalls_body hf hn hb hus h
end
end Go.Proofs.Ytophpbihcfdkcaa
