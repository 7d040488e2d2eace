/- It is proved that the law TakeGets returns true and leaves its arguments as they read, whatever it is handed; there is no condition. -/
import Derived.Test.YtmoehipmpchofaaEK
import Derived.Test.YtmoehipmpchofaaFK1
import Derived.Test.YtmoehipmpchofaaHU
import Derived.Test.YtmoehipmpchofaaK
namespace Go.Proofs.Ytmoehipmpchofaa
open Go.ChangeShapes Go.WideShapes Go.ChangeAt Go.RowKit Go.ChangeMaps P
set_option linter.unusedSimpArgs false
set_option linter.unusedVariables false
theorem small_reach {n : Nat} (h : n ≤ reachBytes) : Small n := h
theorem begun_ev : Ev law_takeBegun true := ⟨0, fun N _ => rfl⟩
theorem wlab_of {l : List VLabel} (h1 : l.length ≤ reachBytes) (h2 : ∀ y ∈ l, WF_VLabel y) : WLab l := ⟨by unfold reachBytes at h1; omega, fun z hz => by
  have := h2 z hz
  unfold WF_VLabel at this
  unfold reachBytes at this
  exact ⟨by omega, by omega⟩⟩
theorem wstore_of {l : List VSeries} (h1 : l.length ≤ reachBytes) (h2 : ∀ y ∈ l, WF_VSeries y) : WStore l := ⟨by unfold reachBytes at h1; omega, fun z hz => by
  have := h2 z hz
  unfold WF_VSeries at this
  refine ⟨wlab_of this.1.1 this.1.2, ?_⟩
  have h3 := this.2.1
  unfold reachBytes at h3
  omega⟩
theorem takeGets_walk (z : List VSeries) (x : List VLabel) (hz : z.length ≤ reachBytes ∧ ∀ y ∈ z, WF_VSeries y) (hx : x.length ≤ reachBytes ∧ ∀ y ∈ x, WF_VLabel y) (v0 v1 : Value) (w : World) (h0 : Rel (allW w) (.sl false 2 (z.map enc_VSeries)) v0) (h1 : Rel (allW w) (.sl false 2 (x.map enc_VLabel)) v1) : Calls Try.prog 5 #[v0, v1] w fun e w' => e = .returned (.bool true) ∧ Below w.heap.size w w' := by
  obtain ⟨N, hN⟩ := (takeGets_ev begun_ev z x (wstore_of hz.1 hz.2) (wlab_of hx.1 hx.2)).one
  have h := law_TakeGets_ok z x hN id
  refine calls_of_acalls (vs := [v0, v1]) (us := [.sl false 2 (z.map enc_VSeries), .sl false 2 (x.map enc_VLabel)]) h rfl fun i u y hu hy => ?_
  match i, hu, hy with
  | 0, hu, hy => simp at hu hy; subst hu hy; exact ⟨h0, rfl⟩
  | 1, hu, hy => simp at hu hy; subst hu hy; exact ⟨h1, rfl⟩
  | i + 2, hu, hy => simp at hu
set_option maxRecDepth 100000 in
theorem takeGets_lifted (os : Os) (started : os.Started) (H : Type) (enc : TypeId × Value → H) :
    ReturnsInHanded {} Try.checked os 5 .any (Rows.takeGetsSpec.pre6 enc Try.prog Try.f5 Rows.takeGetsRow.domain false) (Rows.takeGetsSpec.post enc Try.prog Try.f5 false true false false) := by
  refine returnsInHanded_of_change_sized (C := Try.checked) Try.own started (by kernel_rfl) Try.func5
    (ChangeSpec.witness6 (enc := enc) (C := Try.checked) false ⟨#[], #[.slice none 0 0, .slice none 0 0], []⟩ 8 (by kernel_rfl) (by kernel_rfl) (by kernel_rfl) (by kernel_rfl)) ?_
  intro W base args ds gs before hval0 hW _ hsz0 _
  have hsz : (DataW.weightsEach Try.prog (Try.f5.params.toList ++ Rows.takeGetsSpec.plain.varTypes Try.prog) (ds ++ gs)).all (· ≤ reachBytes) = true := hsz0
  have hval : ∀ (j : Nat) t v, Try.f5.params[j]? = some t → args[j]? = some v → Value.okWide Try.prog W .any base t v := hval0
  have hW' := hW
  obtain ⟨p, q, hA0, hV, rfl, _, _⟩ := hW
  have hA : DataW.TrodAll enc Try.prog W 0 (fun _ => true) true Try.f5.params.toList args.toList ds p := hA0
  clear hsz0 hval0 hA0
  rw [Try.params5] at hA hval hsz
  obtain ⟨v0, vs0, d0, ds0, p0, q0, hargs, rfl, rfl, h0, rr0⟩ := trodAll_cons hA
  obtain ⟨v1, vs1, d1, ds1, p1, q1, rfl, rfl, rfl, h1, rr1⟩ := trodAll_cons rr0
  obtain ⟨rfl, rfl, rfl⟩ := trodAll_nil rr1
  obtain rfl : args = #[v0, v1] := by cases args; simp_all
  obtain ⟨rfl, rfl⟩ := trodVars_none hV
  have w0 : ∀ n ∈ d0.weights Try.prog 22, n ≤ reachBytes := fun n hn => of_decide_eq_true (List.all_eq_true.1 hsz n (DataW.weights_mem_each (j := 0) rfl rfl n hn))
  have w1 : ∀ n ∈ d1.weights Try.prog 31, n ≤ reachBytes := fun n hn => of_decide_eq_true (List.all_eq_true.1 hsz n (DataW.weights_mem_each (j := 1) rfl rfl n hn))
  simp only [List.append_nil] at hW'
  have hlt := hW'.lt
  have hl0 : ∀ x ∈ p0, x.block < W.heap.size := fun x hx => by first | exact hlt x hx | (refine hlt x ?_; simp [hx])
  have k0 : ∀ W', Below W.heap.size W W' → DataW.Trod enc Try.prog W' 0 (fun b => decide (b < W.heap.size)) true 22 v0 d0 p0 := fun W' hb => Below.trod Try.laidOut (by kernel_rfl) (of_decide_eq_true (by kernel_rfl)) h0 hb hl0
  have hl1 : ∀ x ∈ p1, x.block < W.heap.size := fun x hx => by first | exact hlt x hx | (refine hlt x ?_; simp [hx])
  have k1 : ∀ W', Below W.heap.size W W' → DataW.Trod enc Try.prog W' 0 (fun b => decide (b < W.heap.size)) true 31 v1 d1 p1 := fun W' hb => Below.trod Try.laidOut (by kernel_rfl) (of_decide_eq_true (by kernel_rfl)) h1 hb hl1
  obtain ⟨a0, a0w, r0⟩ := arg_sl opn_sl__api_Series Try.underlying22 (hval 0 22 v0 rfl rfl) h0 w0
  obtain ⟨a1, a1w, r1⟩ := arg_sl opn_sl__api_Label Try.underlying31 (hval 1 31 v1 rfl rfl) h1 w1
  refine (takeGets_walk a0 a1 a0w a1w v0 v1 W r0 r1).mono fun e W' ⟨he, hb⟩ => ?_
  subst he
  exact ⟨_, rfl, _, _, _, [], _, [], hW', trodAll_cons_mk (shut_bool Try.underlying4 _) trodAll_mk0, (trodAll_cons_mk (k0 _ hb) (trodAll_cons_mk (k1 _ hb) trodAll_mk0)), rfl, hb.frame _, fun h => by cases h⟩

/-- The law 'TakeGets': it returns true, whatever it is handed. -/
theorem takeGets_holds : Rows.TakeGetsSaid :=
  OpenClaim.holds_of_wide 5 Try.f5 rfl rfl rfl rfl rfl rfl rfl ⟨rfl, rfl, rfl, rfl, rfl⟩ rfl rfl rfl rfl rfl (by kernel_rfl) Try.func5 (by kernel_rfl)
    (of_decide_eq_true (by kernel_rfl)) (by unfold Func.isWrapper; first | (rw [if_pos (by decide +kernel)]; kernel_rfl) | (rw [if_neg (by decide +kernel)]; exact ⟨rfl, rfl⟩))
    (fun os started H enc _ => takeGets_lifted os started H enc)
#print axioms takeGets_holds
end Go.Proofs.Ytmoehipmpchofaa
