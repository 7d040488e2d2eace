/- It is proved that the law LabelsMakes returns true and leaves its argument as it reads, whatever labels it is handed; there is no condition. -/
import Derived.Test.YtmjpdbbjiipnfaaGreatBk07
namespace Go.Proofs.YtmjpdbbjiipnfaaGreat
open Go.ChangeShapes Go.WideShapes Go.ChangeAt Go.RowKit Go.ChangeMaps P
set_option linter.unusedSimpArgs false
set_option linter.unusedVariables false
theorem are_is (N : Nat) (l m : List VLabel) (w : Int) (hl : l.length < 140737488355328) (hN : l.length < N) (h : l = if w = 0 then m else []) : di N l w w m = some true := by
 have h3 : ∀ m', l = m' → cj N N l w w m' = some true := fun m' e => by
  subst e
  unfold cj
  simp only [beq_self_eq_true, cond_true]
  rw [yL N l hl hN]; rfl
 unfold di
 by_cases hw : w = 0
 ·rw [if_pos hw] at h
  have : (w != 0) = false := by simpa using hw
  rw [this, cond_false, h3 _ h]
 ·rw [if_neg hw] at h
  have : (w != 0) = true := by simpa using hw
  rw [this, cond_true, h3 _ h]
theorem labelsMakes_ev (l : List VLabel) (hw : ze l) : Ev (fun N => dC N l) (.ok true) := by
 obtain ⟨N0, h0⟩ := rX
 obtain ⟨N1, h1⟩ := Jj l hw
 obtain ⟨N2, h2⟩ := w4 true l hw
 have h4 : ∃ N4, ∀ N, N4 ≤ N → ir true l = 0 → b8 N l = some (d5 dc (keepV l)) := by
  by_cases hc : ir true l = 0
  ·obtain ⟨N4, h4⟩ := yM l hc
   exact ⟨N4, fun N hN _ => h4 N hN⟩
  ·exact ⟨0, fun N _ h => absurd h hc⟩
 obtain ⟨N4, h4⟩ := h4
 refine ⟨max (max N0 N1) (max N2 (max N4 100)), fun N hN => ?_⟩
 have h0 := h0 N (by omega)
 have h1 := h1 N (by omega)
 have h2 := h2 N (by omega)
 have h4 := h4 N (by omega)
 simp only at h0 h1 h2
 show dC N l = _
 unfold dC
 rw [h1, Option.bind_some]
 simp only [h2, Option.bind_some]
 by_cases hc : ir true l = 0
 ·have hk : (d5 dc (keepV l)).length ≤ l.length := by
   rw [(iV fF _).length_eq]; exact List.length_filter_le _ _
  have h20 := (m9 hc).1
  rw [if_pos hc, hc]
  simp only [beq_self_eq_true, cond_true]
  rw [h4 hc, Option.bind_some]
  unfold bH
  rw [h0, Option.bind_some, cond_true, are_is N _ _ 0 (by omega) (by omega) (by rw [if_pos rfl]), Option.bind_some]
 ·have : (ir true l == 0) = false := by simpa using hc
  rw [if_neg hc, this, cond_false]
  unfold bH
  simp only
  rw [h0, Option.bind_some, cond_true, are_is N [] [] (ir true l) (by simp) (by simp; omega) (by rw [if_neg hc]), Option.bind_some]
theorem labelsMakes_walk (z : List VLabel) (hz : z.length ≤ reachBytes ∧ ∀ y ∈ z, j0 y) (v : Value) (w : World) (hr : Rel (pW w) (.sl false 2 (z.map bR)) v) : Calls Tryz.prog 3 #[v] w fun e w' => e = .returned (.bool true) ∧ Below w.heap.size w w' := by
 obtain ⟨N, hN⟩ := (labelsMakes_ev z (Hx hz.1 hz.2)).one
 exact ye (mZ z hN Rn.zero (fun p hp => by cases hp)) hr
set_option maxRecDepth 100000 in
theorem labelsMakes_lifted (os : Os) (started : os.Started) (H : Type) (enc : TypeId × Value → H) :
  ReturnsInHanded {} Tryz.checked os 3 .any (Rows.labelsMakesSpec.pre6 enc Tryz.prog Tryz.f3 Rows.labelsMakesRow.domain false) (Rows.labelsMakesSpec.post enc Tryz.prog Tryz.f3 false true false false) := by
 refine returnsInHanded_of_change_sized (C := Tryz.checked) Tryz.own started (by kernel_rfl) Tryz.func3
  (ChangeSpec.witness6 (enc := enc) (C := Tryz.checked) false ⟨#[], #[.slice none 0 0], []⟩ 8 (by kernel_rfl) (by kernel_rfl) (by kernel_rfl) (by kernel_rfl)) ?_
 intro W base args ds gs before hval0 hW _ hsz0 _
 have hsz : (DataW.weightsEach Tryz.prog (Tryz.f3.params.toList ++ Rows.labelsMakesSpec.plain.varTypes Tryz.prog) (ds ++ gs)).all (· ≤ reachBytes) = true := hsz0
 have hval : ∀ (j : Nat) t v, Tryz.f3.params[j]? = some t → args[j]? = some v → Value.okWide Tryz.prog W .any base t v := hval0
 have hW' := hW
 obtain ⟨p, q, hA0, hV, rfl, _, _⟩ := hW
 have hA : DataW.TrodAll enc Tryz.prog W 0 (fun _ => true) true Tryz.f3.params.toList args.toList ds p := hA0
 clear hsz0 hval0 hA0
 rw [Tryz.params3] at hA hval hsz
 obtain ⟨v0, vs0, d0, ds0, p0, q0, hargs, rfl, rfl, h0, rr0⟩ := trodAll_cons hA
 obtain ⟨rfl, rfl, rfl⟩ := trodAll_nil rr0
 obtain rfl : args = #[v0] := by cases args; simp_all
 obtain ⟨rfl, rfl⟩ := trodVars_none hV
 have w0 : ∀ n ∈ d0.weights Tryz.prog 22, n ≤ reachBytes := fun n hn => of_decide_eq_true (List.all_eq_true.1 hsz n (DataW.weights_mem_each (j := 0) rfl rfl n hn))
 simp only [List.append_nil] at hW'
 have hlt := hW'.lt
 have hl0 : ∀ x ∈ p0, x.block < W.heap.size := fun x hx => by first | exact hlt x hx | (refine hlt x ?_; simp [hx])
 have k0 : ∀ W', Below W.heap.size W W' → DataW.Trod enc Tryz.prog W' 0 (fun b => decide (b < W.heap.size)) true 22 v0 d0 p0 := fun W' hb => Below.trod Tryz.laidOut (by kernel_rfl) (of_decide_eq_true (by kernel_rfl)) h0 hb hl0
 obtain ⟨a0, a0w, r0⟩ := L3 oJ Tryz.underlying22 (hval 0 22 v0 rfl rfl) h0 w0
 refine (labelsMakes_walk a0 a0w v0 W r0).mono fun e W' ⟨he, hb⟩ => ?_
 subst he
 exact ⟨_, rfl, _, _, _, [], _, [], hW', trodAll_cons_mk (shut_bool Tryz.underlying4 _) trodAll_mk0, (trodAll_cons_mk (k0 _ hb) trodAll_mk0), rfl, hb.frame _, fun h => by cases h⟩
theorem labelsMakes_holds : Rows.LabelsMakesSaid :=
 OpenClaim.holds_of_wide 3 Tryz.f3 rfl rfl rfl rfl rfl rfl rfl ⟨rfl, rfl, rfl, rfl, rfl⟩ rfl rfl rfl rfl rfl (by kernel_rfl) Tryz.func3 (by kernel_rfl)
  (of_decide_eq_true (by kernel_rfl)) (by unfold Func.isWrapper; first | (rw [if_pos (by decide +kernel)]; kernel_rfl) | (rw [if_neg (by decide +kernel)]; exact ⟨rfl, rfl⟩))
  (fun os started H enc _ => labelsMakes_lifted os started H enc)
#print axioms labelsMakes_holds
end Go.Proofs.YtmjpdbbjiipnfaaGreat
