/- It is proved that the law LabelsCompares returns true and leaves its arguments as they read, whatever labels it is handed; there is no condition. -/
import Derived.Test.YtbpgpfigndlohaaGreatEG
namespace Go.Proofs.YtbpgpfigndlohaaGreat
open Go.ChangeShapes Go.WideShapes Go.ChangeAt Go.RowKit Go.ChangeMaps P
set_option linter.unusedSimpArgs false
set_option linter.unusedVariables false
theorem compares_r7 (N n : Nat) (c e : Int) (h0 : law_labelsBegun N = some true) : law_LabelsCompares_R7 N n c e e c = some true := by
  unfold law_LabelsCompares_R7
  rw [h0, Option.bind_some, cond_true]
  simp
theorem labelsCompares_ev (x y : List VLabel) (hx : WLab x) (hy : WLab y) : Ev (fun N => law_LabelsCompares N x y) true := by
  obtain ⟨N0, h0⟩ := labelsBegun_ev
  obtain ⟨N1, h1⟩ := compare_ev x y hx hy
  obtain ⟨N2, h2⟩ := refCheck_ev x hx
  obtain ⟨N3, h3⟩ := refCheck_ev y hy
  obtain ⟨N4, h4⟩ := refOrder_ev x y hx hy
  refine ⟨max (max N0 N1) (max N2 (max N3 N4)), fun N hN => ?_⟩
  have h0 := h0 N (by omega)
  have h1 := h1 N (by omega)
  have h2 := h2 N (by omega)
  have h3 := h3 N (by omega)
  have h4 := h4 N (by omega)
  simp only at h0 h1 h2 h3 h4
  show law_LabelsCompares N x y = _
  unfold law_LabelsCompares
  rw [h1, Option.bind_some, h2, Option.bind_some, h3]
  by_cases cx : chkL x = 0
  case neg =>
    have e : (chkL x == 0) = false := by simpa using cx
    simp only [if_neg cx, e, cond_false]
    unfold law_LabelsCompares_R5
    rw [e, cond_false]
    exact compares_r7 N N _ _ h0
  by_cases cy : chkL y = 0
  case neg =>
    have e : (chkL y == 0) = false := by simpa using cy
    have e2 : (chkL x == 0) = true := by simpa using cx
    simp only [if_pos cx, if_neg cy, e2, cond_true, Option.bind_some]
    unfold law_LabelsCompares_R5
    rw [e, cond_false]
    exact compares_r7 N N _ _ h0
  have e2 : (chkL x == 0) = true := by simpa using cx
  simp only [if_pos cx, if_pos cy, e2, cond_true, Option.bind_some]
  unfold law_LabelsCompares_R5
  rw [h4, cy]
  simp only [beq_self_eq_true, cond_true, Option.bind_some]
  exact compares_r7 N N _ _ h0
theorem labelsCompares_walk (a b : List VLabel) (ha : a.length ≤ reachBytes ∧ ∀ y ∈ a, WF_VLabel y) (hb : b.length ≤ reachBytes ∧ ∀ y ∈ b, WF_VLabel y) (v0 v1 : Value) (w : World) (h0 : Rel (allW w) (.sl false 2 (a.map enc_VLabel)) v0) (h1 : Rel (allW w) (.sl false 2 (b.map enc_VLabel)) v1) : Calls Tryz.prog 3 #[v0, v1] w fun e w' => e = .returned (.bool true) ∧ Below w.heap.size w w' := by
  obtain ⟨N, hN⟩ := (labelsCompares_ev a b (wlab_of ha.1 ha.2) (wlab_of hb.1 hb.2)).one
  have h := law_LabelsCompares_ok a b hN id
  refine calls_of_acalls (vs := [v0, v1]) (us := [.sl false 2 (a.map enc_VLabel), .sl false 2 (b.map enc_VLabel)]) h rfl fun i u x hu hx => ?_
  match i, hu, hx with
  | 0, hu, hx => simp at hu hx; subst hu hx; exact ⟨h0, rfl⟩
  | 1, hu, hx => simp at hu hx; subst hu hx; exact ⟨h1, rfl⟩
  | i + 2, hu, hx => simp at hu
set_option maxRecDepth 100000 in
theorem labelsCompares_lifted (os : Os) (started : os.Started) (H : Type) (enc : TypeId × Value → H) :
    ReturnsInHanded {} Tryz.checked os 3 .any (Rows.labelsComparesSpec.pre6 enc Tryz.prog Tryz.f3 Rows.labelsComparesRow.domain false) (Rows.labelsComparesSpec.post enc Tryz.prog Tryz.f3 false true false false) := by
  refine returnsInHanded_of_change_sized (C := Tryz.checked) Tryz.own started (by kernel_rfl) Tryz.func3
    (ChangeSpec.witness6 (enc := enc) (C := Tryz.checked) false ⟨#[], #[.slice none 0 0, .slice none 0 0], []⟩ 8 (by kernel_rfl) (by kernel_rfl) (by kernel_rfl) (by kernel_rfl)) ?_
  intro W base args ds gs before hval0 hW _ hsz0 _
  have hsz : (DataW.weightsEach Tryz.prog (Tryz.f3.params.toList ++ Rows.labelsComparesSpec.plain.varTypes Tryz.prog) (ds ++ gs)).all (· ≤ reachBytes) = true := hsz0
  have hval : ∀ (j : Nat) t v, Tryz.f3.params[j]? = some t → args[j]? = some v → Value.okWide Tryz.prog W .any base t v := hval0
  have hW' := hW
  obtain ⟨p, q, hA0, hV, rfl, _, _⟩ := hW
  have hA : DataW.TrodAll enc Tryz.prog W 0 (fun _ => true) true Tryz.f3.params.toList args.toList ds p := hA0
  clear hsz0 hval0 hA0
  rw [Tryz.params3] at hA hval hsz
  obtain ⟨v0, vs0, d0, ds0, p0, q0, hargs, rfl, rfl, h0, rr0⟩ := trodAll_cons hA
  obtain ⟨v1, vs1, d1, ds1, p1, q1, rfl, rfl, rfl, h1, rr1⟩ := trodAll_cons rr0
  obtain ⟨rfl, rfl, rfl⟩ := trodAll_nil rr1
  obtain rfl : args = #[v0, v1] := by cases args; simp_all
  obtain ⟨rfl, rfl⟩ := trodVars_none hV
  have w0 : ∀ n ∈ d0.weights Tryz.prog 22, n ≤ reachBytes := fun n hn => of_decide_eq_true (List.all_eq_true.1 hsz n (DataW.weights_mem_each (j := 0) rfl rfl n hn))
  have w1 : ∀ n ∈ d1.weights Tryz.prog 22, n ≤ reachBytes := fun n hn => of_decide_eq_true (List.all_eq_true.1 hsz n (DataW.weights_mem_each (j := 1) rfl rfl n hn))
  simp only [List.append_nil] at hW'
  have hlt := hW'.lt
  have hl0 : ∀ x ∈ p0, x.block < W.heap.size := fun x hx => by first | exact hlt x hx | (refine hlt x ?_; simp [hx])
  have k0 : ∀ W', Below W.heap.size W W' → DataW.Trod enc Tryz.prog W' 0 (fun b => decide (b < W.heap.size)) true 22 v0 d0 p0 := fun W' hb => Below.trod Tryz.laidOut (by kernel_rfl) (of_decide_eq_true (by kernel_rfl)) h0 hb hl0
  have hl1 : ∀ x ∈ p1, x.block < W.heap.size := fun x hx => by first | exact hlt x hx | (refine hlt x ?_; simp [hx])
  have k1 : ∀ W', Below W.heap.size W W' → DataW.Trod enc Tryz.prog W' 0 (fun b => decide (b < W.heap.size)) true 22 v1 d1 p1 := fun W' hb => Below.trod Tryz.laidOut (by kernel_rfl) (of_decide_eq_true (by kernel_rfl)) h1 hb hl1
  obtain ⟨a0, a0w, r0⟩ := arg_sl opn_sl__api_Label Tryz.underlying22 (hval 0 22 v0 rfl rfl) h0 w0
  obtain ⟨a1, a1w, r1⟩ := arg_sl opn_sl__api_Label Tryz.underlying22 (hval 1 22 v1 rfl rfl) h1 w1
  refine (labelsCompares_walk a0 a1 a0w a1w v0 v1 W r0 r1).mono fun e W' ⟨he, hb⟩ => ?_
  subst he
  exact ⟨_, rfl, _, _, _, [], _, [], hW', trodAll_cons_mk (shut_bool Tryz.underlying4 _) trodAll_mk0, (trodAll_cons_mk (k0 _ hb) (trodAll_cons_mk (k1 _ hb) trodAll_mk0)), rfl, hb.frame _, fun h => by cases h⟩

/-- The law 'LabelsCompares': it returns true, whatever it is handed. -/
theorem labelsCompares_holds : Rows.LabelsComparesSaid :=
  OpenClaim.holds_of_wide 3 Tryz.f3 rfl rfl rfl rfl rfl rfl rfl ⟨rfl, rfl, rfl, rfl, rfl⟩ rfl rfl rfl rfl rfl (by kernel_rfl) Tryz.func3 (by kernel_rfl)
    (of_decide_eq_true (by kernel_rfl)) (by unfold Func.isWrapper; first | (rw [if_pos (by decide +kernel)]; kernel_rfl) | (rw [if_neg (by decide +kernel)]; exact ⟨rfl, rfl⟩))
    (fun os started H enc _ => labelsCompares_lifted os started H enc)
#print axioms labelsCompares_holds
end Go.Proofs.YtbpgpfigndlohaaGreat
