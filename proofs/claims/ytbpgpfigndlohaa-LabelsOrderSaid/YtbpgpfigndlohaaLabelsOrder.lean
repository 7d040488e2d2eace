/- It is proved that the law LabelsOrder returns true and leaves its arguments as they read, whatever labels it is handed; there is no condition. -/
import Derived.Test.YtbpgpfigndlohaaEG
namespace Go.Proofs.Ytbpgpfigndlohaa
open Go.ChangeShapes Go.WideShapes Go.ChangeAt Go.RowKit Go.ChangeMaps P
set_option linter.unusedSimpArgs false
set_option linter.unusedVariables false
theorem ord_le {α : Type} {c : α → α → Int} (h : OrdC c) {x y z : α} (h1 : c x y ≤ 0) (h2 : c y z ≤ 0) : c x z ≤ 0 ∧ (c x z = 0 → c x y = 0 ∧ c y z = 0) := by
  by_cases e1 : c x y = 0
  · have := h.z _ _ e1
    subst this
    exact ⟨h2, fun e => ⟨e1, e⟩⟩
  · by_cases e2 : c y z = 0
    · have := h.z _ _ e2
      subst this
      exact ⟨h1, fun e => ⟨e, e2⟩⟩
    · have h3 := h.t x y z (by omega) (by omega)
      exact ⟨by omega, fun e => by omega⟩
theorem labelsOrder_ev (x y z : List VLabel) (hx : WLab x) (hy : WLab y) (hz : WLab z) : Ev (fun N => law_LabelsOrder N x y z) true := by
  obtain ⟨N0, h0⟩ := labelsBegun_ev
  obtain ⟨N1, h1⟩ := compare_ev x y hx hy
  obtain ⟨N2, h2⟩ := compare_ev y z hy hz
  obtain ⟨N3, h3⟩ := compare_ev x z hx hz
  refine ⟨max (max N0 N1) (max N2 N3), fun N hN => ?_⟩
  have h0 := h0 N (by omega)
  have h1 := h1 N (by omega)
  have h2 := h2 N (by omega)
  have h3 := h3 N (by omega)
  simp only at h0 h1 h2 h3
  show law_LabelsOrder N x y z = _
  unfold law_LabelsOrder
  rw [h0, Option.bind_some, h1, Option.bind_some, h2, Option.bind_some, h3, Option.bind_some]
  simp only [Bool.not_true, cond_false]
  have e0 : ((0 : Int) != 0) = false := rfl
  by_cases cx : chkL x = 0
  case neg =>
    have : (chkL x != 0) = true := by simpa using cx
    simp only [if_neg cx, this, cond_true]
  by_cases cy : chkL y = 0
  case neg =>
    have : (chkL y != 0) = true := by simpa using cy
    simp only [if_pos cx, if_neg cy, this, cond_true]
  by_cases cz : chkL z = 0
  case neg =>
    have : (chkL z != 0) = true := by simpa using cz
    simp only [if_pos cx, if_pos cy, if_neg cz, this, e0, cond_true, cond_false]
  simp only [if_pos cx, if_pos cy, if_pos cz, e0, cond_false]
  by_cases g1 : cmpLs x y > 0
  · rw [decide_eq_true g1, cond_true]
  by_cases g2 : cmpLs y z > 0
  · rw [decide_eq_false g1, cond_false, decide_eq_true g2, cond_true]
  rw [decide_eq_false g1, cond_false, decide_eq_false g2, cond_false]
  have hk := ord_le ordLs (x := x) (y := y) (z := z) (by omega) (by omega)
  rw [decide_eq_true hk.1, cond_true]
  by_cases g3 : cmpLs x z < 0
  · rw [decide_eq_true g3, cond_true]
  · have := hk.2 (by have := hk.1; omega)
    rw [decide_eq_false g3, cond_false, this.1, this.2]; rfl
theorem labelsOrder_walk (a b c : List VLabel) (ha : a.length ≤ reachBytes ∧ ∀ y ∈ a, WF_VLabel y) (hb : b.length ≤ reachBytes ∧ ∀ y ∈ b, WF_VLabel y) (hc : c.length ≤ reachBytes ∧ ∀ y ∈ c, WF_VLabel y) (v0 v1 v2 : Value) (w : World) (h0 : Rel (allW w) (.sl false 2 (a.map enc_VLabel)) v0) (h1 : Rel (allW w) (.sl false 2 (b.map enc_VLabel)) v1) (h2 : Rel (allW w) (.sl false 2 (c.map enc_VLabel)) v2) : Calls Try.prog 9 #[v0, v1, v2] w fun e w' => e = .returned (.bool true) ∧ Below w.heap.size w w' := by
  obtain ⟨N, hN⟩ := (labelsOrder_ev a b c (wlab_of ha.1 ha.2) (wlab_of hb.1 hb.2) (wlab_of hc.1 hc.2)).one
  have h := law_LabelsOrder_ok a b c hN id
  refine calls_of_acalls (vs := [v0, v1, v2]) (us := [.sl false 2 (a.map enc_VLabel), .sl false 2 (b.map enc_VLabel), .sl false 2 (c.map enc_VLabel)]) h rfl fun i u x hu hx => ?_
  match i, hu, hx with
  | 0, hu, hx => simp at hu hx; subst hu hx; exact ⟨h0, rfl⟩
  | 1, hu, hx => simp at hu hx; subst hu hx; exact ⟨h1, rfl⟩
  | 2, hu, hx => simp at hu hx; subst hu hx; exact ⟨h2, rfl⟩
  | i + 3, hu, hx => simp at hu
set_option maxRecDepth 100000 in
theorem labelsOrder_lifted (os : Os) (started : os.Started) (H : Type) (enc : TypeId × Value → H) :
    ReturnsInHanded {} Try.checked os 9 .any (Rows.labelsOrderSpec.pre6 enc Try.prog Try.f9 Rows.labelsOrderRow.domain false) (Rows.labelsOrderSpec.post enc Try.prog Try.f9 false true false false) := by
  refine returnsInHanded_of_change_sized (C := Try.checked) Try.own started (by kernel_rfl) Try.func9
    (ChangeSpec.witness6 (enc := enc) (C := Try.checked) false ⟨#[], #[.slice none 0 0, .slice none 0 0, .slice none 0 0], []⟩ 8 (by kernel_rfl) (by kernel_rfl) (by kernel_rfl) (by kernel_rfl)) ?_
  intro W base args ds gs before hval0 hW _ hsz0 _
  have hsz : (DataW.weightsEach Try.prog (Try.f9.params.toList ++ Rows.labelsOrderSpec.plain.varTypes Try.prog) (ds ++ gs)).all (· ≤ reachBytes) = true := hsz0
  have hval : ∀ (j : Nat) t v, Try.f9.params[j]? = some t → args[j]? = some v → Value.okWide Try.prog W .any base t v := hval0
  have hW' := hW
  obtain ⟨p, q, hA0, hV, rfl, _, _⟩ := hW
  have hA : DataW.TrodAll enc Try.prog W 0 (fun _ => true) true Try.f9.params.toList args.toList ds p := hA0
  clear hsz0 hval0 hA0
  rw [Try.params9] at hA hval hsz
  obtain ⟨v0, vs0, d0, ds0, p0, q0, hargs, rfl, rfl, h0, rr0⟩ := trodAll_cons hA
  obtain ⟨v1, vs1, d1, ds1, p1, q1, rfl, rfl, rfl, h1, rr1⟩ := trodAll_cons rr0
  obtain ⟨v2, vs2, d2, ds2, p2, q2, rfl, rfl, rfl, h2, rr2⟩ := trodAll_cons rr1
  obtain ⟨rfl, rfl, rfl⟩ := trodAll_nil rr2
  obtain rfl : args = #[v0, v1, v2] := by cases args; simp_all
  obtain ⟨rfl, rfl⟩ := trodVars_none hV
  have w0 : ∀ n ∈ d0.weights Try.prog 24, n ≤ reachBytes := fun n hn => of_decide_eq_true (List.all_eq_true.1 hsz n (DataW.weights_mem_each (j := 0) rfl rfl n hn))
  have w1 : ∀ n ∈ d1.weights Try.prog 24, n ≤ reachBytes := fun n hn => of_decide_eq_true (List.all_eq_true.1 hsz n (DataW.weights_mem_each (j := 1) rfl rfl n hn))
  have w2 : ∀ n ∈ d2.weights Try.prog 24, n ≤ reachBytes := fun n hn => of_decide_eq_true (List.all_eq_true.1 hsz n (DataW.weights_mem_each (j := 2) rfl rfl n hn))
  simp only [List.append_nil] at hW'
  have hlt := hW'.lt
  have hl0 : ∀ x ∈ p0, x.block < W.heap.size := fun x hx => by first | exact hlt x hx | (refine hlt x ?_; simp [hx])
  have k0 : ∀ W', Below W.heap.size W W' → DataW.Trod enc Try.prog W' 0 (fun b => decide (b < W.heap.size)) true 24 v0 d0 p0 := fun W' hb => Below.trod Try.laidOut (by kernel_rfl) (of_decide_eq_true (by kernel_rfl)) h0 hb hl0
  have hl1 : ∀ x ∈ p1, x.block < W.heap.size := fun x hx => by first | exact hlt x hx | (refine hlt x ?_; simp [hx])
  have k1 : ∀ W', Below W.heap.size W W' → DataW.Trod enc Try.prog W' 0 (fun b => decide (b < W.heap.size)) true 24 v1 d1 p1 := fun W' hb => Below.trod Try.laidOut (by kernel_rfl) (of_decide_eq_true (by kernel_rfl)) h1 hb hl1
  have hl2 : ∀ x ∈ p2, x.block < W.heap.size := fun x hx => by first | exact hlt x hx | (refine hlt x ?_; simp [hx])
  have k2 : ∀ W', Below W.heap.size W W' → DataW.Trod enc Try.prog W' 0 (fun b => decide (b < W.heap.size)) true 24 v2 d2 p2 := fun W' hb => Below.trod Try.laidOut (by kernel_rfl) (of_decide_eq_true (by kernel_rfl)) h2 hb hl2
  obtain ⟨a0, a0w, r0⟩ := arg_sl opn_sl__api_Label Try.underlying24 (hval 0 24 v0 rfl rfl) h0 w0
  obtain ⟨a1, a1w, r1⟩ := arg_sl opn_sl__api_Label Try.underlying24 (hval 1 24 v1 rfl rfl) h1 w1
  obtain ⟨a2, a2w, r2⟩ := arg_sl opn_sl__api_Label Try.underlying24 (hval 2 24 v2 rfl rfl) h2 w2
  refine (labelsOrder_walk a0 a1 a2 a0w a1w a2w v0 v1 v2 W r0 r1 r2).mono fun e W' ⟨he, hb⟩ => ?_
  subst he
  exact ⟨_, rfl, _, _, _, [], _, [], hW', trodAll_cons_mk (shut_bool Try.underlying4 _) trodAll_mk0, (trodAll_cons_mk (k0 _ hb) (trodAll_cons_mk (k1 _ hb) (trodAll_cons_mk (k2 _ hb) trodAll_mk0))), rfl, hb.frame _, fun h => by cases h⟩

/-- The law 'LabelsOrder': it returns true, whatever it is handed. -/
theorem labelsOrder_holds : Rows.LabelsOrderSaid :=
  OpenClaim.holds_of_wide 9 Try.f9 rfl rfl rfl rfl rfl rfl rfl ⟨rfl, rfl, rfl, rfl, rfl⟩ rfl rfl rfl rfl rfl (by kernel_rfl) Try.func9 (by kernel_rfl)
    (of_decide_eq_true (by kernel_rfl)) (by unfold Func.isWrapper; first | (rw [if_pos (by decide +kernel)]; kernel_rfl) | (rw [if_neg (by decide +kernel)]; exact ⟨rfl, rfl⟩))
    (fun os started H enc _ => labelsOrder_lifted os started H enc)
#print axioms labelsOrder_holds
end Go.Proofs.Ytbpgpfigndlohaa
