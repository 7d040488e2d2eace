/- It is proved that the law LabelsNames returns true, whatever text it is handed; there is no condition. -/
import Derived.Test.YtbpgpfigndlohaaLX
namespace Go.Proofs.Ytbpgpfigndlohaa
open Go.ChangeShapes Go.WideShapes Go.ChangeAt Go.RowKit Go.ChangeMaps P
set_option linter.unusedSimpArgs false
set_option linter.unusedVariables false
theorem labelsNames_ev (s : List UInt8) (hs : s.length < 140737488355328) : Ev (fun N => law_LabelsNames N s) true := by
  obtain ⟨N0, h0⟩ := labelsBegun_ev
  obtain ⟨N1, h1⟩ := refIsName_ev s hs
  refine ⟨max N0 N1, fun N hN => ?_⟩
  have h0 := h0 N (by omega)
  have h1 := h1 N (by omega)
  simp only at h0 h1
  show law_LabelsNames N s = _
  unfold law_LabelsNames
  have e : isNameL ([97, 95, 49] : List UInt8) = true := by decide
  rw [h0, Option.bind_some, cond_true, isName_ev _ (by decide) N, Option.bind_some, e, cond_true, isName_ev s hs N, Option.bind_some, h1, Option.bind_some]
  simp
theorem labelsNames_walk (s : ByteArray) (w : World) (hs : Small s.size) : Calls Try.prog 3 #[.string s] w fun e w' => e = .returned (.bool true) ∧ Below w.heap.size w w' := by
  obtain ⟨N, hN⟩ := (labelsNames_ev (bsOf s) (text_small hs)).one
  have h := law_LabelsNames_ok (bsOf s) hN id
  refine calls_of_acalls (vs := [.string s]) (us := [.v (.string (mkB (bsOf s)))]) h rfl fun i u x hu hx => ?_
  match i, hu, hx with
  | 0, hu, hx => simp at hu hx; subst hu hx; rw [mkB_bsOf]; exact ⟨.v _, rfl⟩
  | i + 1, hu, hx => simp at hu
set_option maxRecDepth 100000 in
theorem labelsNames_lifted (os : Os) (started : os.Started) (H : Type) (enc : TypeId × Value → H) :
    ReturnsInHanded {} Try.checked os 3 .any (Rows.labelsNamesSpec.pre6 enc Try.prog Try.f3 Rows.labelsNamesRow.domain false) (Rows.labelsNamesSpec.post enc Try.prog Try.f3 false true false false) := by
  refine returnsInHanded_of_change_sized (C := Try.checked) Try.own started (by kernel_rfl) Try.func3
    (ChangeSpec.witness6 (enc := enc) (C := Try.checked) false ⟨#[], #[.string ⟨#[]⟩], []⟩ 8 (by kernel_rfl) (by kernel_rfl) (by kernel_rfl) (by kernel_rfl)) ?_
  intro W base args ds gs before hval0 hW _ hsz0 _
  have hsz : (DataW.weightsEach Try.prog (Try.f3.params.toList ++ Rows.labelsNamesSpec.plain.varTypes Try.prog) (ds ++ gs)).all (· ≤ reachBytes) = true := hsz0
  have hval : ∀ (j : Nat) t v, Try.f3.params[j]? = some t → args[j]? = some v → Value.okWide Try.prog W .any base t v := hval0
  have hW' := hW
  obtain ⟨p, q, hA0, hV, rfl, _, _⟩ := hW
  have hA : DataW.TrodAll enc Try.prog W 0 (fun _ => true) true Try.f3.params.toList args.toList ds p := hA0
  clear hsz0 hval0 hA0
  rw [Try.params3] at hA hval hsz
  obtain ⟨v0, vs0, d0, ds0, p0, q0, hargs, rfl, rfl, h0, rr0⟩ := trodAll_cons hA
  obtain ⟨rfl, rfl, rfl⟩ := trodAll_nil rr0
  obtain rfl : args = #[v0] := by cases args; simp_all
  obtain ⟨rfl, rfl⟩ := trodVars_none hV
  have w0 : ∀ n ∈ d0.weights Try.prog 9, n ≤ reachBytes := fun n hn => of_decide_eq_true (List.all_eq_true.1 hsz n (DataW.weights_mem_each (j := 0) rfl rfl n hn))
  simp only [List.append_nil] at hW'
  have hlt := hW'.lt
  have hl0 : ∀ x ∈ p0, x.block < W.heap.size := fun x hx => by first | exact hlt x hx | (refine hlt x ?_; simp [hx])
  have k0 : ∀ W', Below W.heap.size W W' → DataW.Trod enc Try.prog W' 0 (fun b => decide (b < W.heap.size)) true 9 v0 d0 p0 := fun W' hb => Below.trod Try.laidOut (by kernel_rfl) (of_decide_eq_true (by kernel_rfl)) h0 hb hl0
  obtain ⟨a0, rfl, rfl, rfl, x0⟩ := open_string Try.underlying9 (hval 0 9 v0 rfl rfl) h0
  have a0w : Small a0.size := by rw [← size_bs]; exact small_reach (w0 _ (by simp [DataW.weights]))
  refine (labelsNames_walk a0 W a0w).mono fun e W' ⟨he, hb⟩ => ?_
  subst he
  exact ⟨_, rfl, _, _, _, [], _, [], hW', trodAll_cons_mk (shut_bool Try.underlying4 _) trodAll_mk0, (trodAll_cons_mk (k0 _ hb) trodAll_mk0), rfl, hb.frame _, fun h => by cases h⟩

/-- The law 'LabelsNames': it returns true, whatever it is handed. -/
theorem labelsNames_holds : Rows.LabelsNamesSaid :=
  OpenClaim.holds_of_wide 3 Try.f3 rfl rfl rfl rfl rfl rfl rfl ⟨rfl, rfl, rfl, rfl, rfl⟩ rfl rfl rfl rfl rfl (by kernel_rfl) Try.func3 (by kernel_rfl)
    (of_decide_eq_true (by kernel_rfl)) (by unfold Func.isWrapper; first | (rw [if_pos (by decide +kernel)]; kernel_rfl) | (rw [if_neg (by decide +kernel)]; exact ⟨rfl, rfl⟩))
    (fun os started H enc _ => labelsNames_lifted os started H enc)
#print axioms labelsNames_holds
end Go.Proofs.Ytbpgpfigndlohaa
