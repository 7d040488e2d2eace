/- It is proved that the law LabelsGets returns true and leaves its arguments as they read, whatever labels and whatever name it is handed; there is no condition. -/
import Derived.Test.YtbpgpfigndlohaaEG
namespace Go.Proofs.Ytbpgpfigndlohaa
open Go.ChangeShapes Go.WideShapes Go.ChangeAt Go.RowKit Go.ChangeMaps P
set_option linter.unusedSimpArgs false
set_option linter.unusedVariables false
theorem gets_r5 (N n : Nat) (l : List VLabel) (s t : List UInt8) (e f : Int) (v : List UInt8) (h0 : law_labelsBegun N = some true) (h1 : ref_ValueOf N l s = some v) (he : e = f) (ht : t = if f = 0 then v else []) : law_LabelsGets_R5 N n l s t e f = some true := by
  subst he
  unfold law_LabelsGets_R5 law_textIs law_textIs_R3
  rw [h0, Option.bind_some, cond_true, h1, Option.bind_some, ht]
  by_cases hf : e = 0
  · simp [hf]
  · have : (e != 0) = true := by simpa using hf
    rw [this]; simp [hf]
theorem labelsGets_ev (l : List VLabel) (s : List UInt8) (hw : WLab l) (hs : s.length < 140737488355328) : Ev (fun N => law_LabelsGets N l s) true := by
  obtain ⟨N0, h0⟩ := labelsBegun_ev
  obtain ⟨N1, h1⟩ := get_ev l hw s hs
  obtain ⟨N2, h2⟩ := refCheck_ev l hw
  obtain ⟨N3, h3⟩ := refIsName_ev s hs
  obtain ⟨N4, h4⟩ := refValue_ev l hw s
  refine ⟨max (max N0 (max N1 N2)) (max N3 N4), fun N hN => ?_⟩
  have h0 := h0 N (by omega)
  have h1 := h1 N (by omega)
  have h2 := h2 N (by omega)
  have h3 := h3 N (by omega)
  have h4 := h4 N (by omega)
  simp only at h0 h1 h2 h3 h4
  show law_LabelsGets N l s = _
  unfold law_LabelsGets
  rw [h1, Option.bind_some, h2, Option.bind_some]
  by_cases hc : chkL l = 0
  · rw [if_pos hc, hc]
    simp only [beq_self_eq_true, cond_true]
    rw [h3, Option.bind_some]
    cases hn : isNameL s with
    | true =>
      rw [if_pos rfl, Bool.not_true, cond_false]
      exact gets_r5 N N l s _ _ _ _ h0 h4 rfl (by simp)
    | false =>
      simp only [Bool.not_false, cond_true]
      rw [if_neg (by decide)]
      exact gets_r5 N N l s _ _ _ _ h0 h4 rfl (by simp)
  · have : (chkL l == 0) = false := by simpa using hc
    rw [if_neg hc, this, cond_false]
    exact gets_r5 N N l s _ _ _ _ h0 h4 rfl (by simp [hc])
theorem labelsGets_walk (z : List VLabel) (s : ByteArray) (hz : z.length ≤ reachBytes ∧ ∀ y ∈ z, WF_VLabel y) (hs : Small s.size) (v : Value) (w : World) (hr : Rel (allW w) (.sl false 2 (z.map enc_VLabel)) v) : Calls Try.prog 7 #[v, .string s] w fun e w' => e = .returned (.bool true) ∧ Below w.heap.size w w' := by
  obtain ⟨N, hN⟩ := (labelsGets_ev z (bsOf s) (wlab_of hz.1 hz.2) (text_small hs)).one
  have h := law_LabelsGets_ok z (bsOf s) hN id
  refine calls_of_acalls (vs := [v, .string s]) (us := [.sl false 2 (z.map enc_VLabel), .v (.string (mkB (bsOf s)))]) h rfl fun i u x hu hx => ?_
  match i, hu, hx with
  | 0, hu, hx => simp at hu hx; subst hu hx; exact ⟨hr, rfl⟩
  | 1, hu, hx => simp at hu hx; subst hu hx; rw [mkB_bsOf]; exact ⟨.v _, rfl⟩
  | i + 2, hu, hx => simp at hu
set_option maxRecDepth 100000 in
theorem labelsGets_lifted (os : Os) (started : os.Started) (H : Type) (enc : TypeId × Value → H) :
    ReturnsInHanded {} Try.checked os 7 .any (Rows.labelsGetsSpec.pre6 enc Try.prog Try.f7 Rows.labelsGetsRow.domain false) (Rows.labelsGetsSpec.post enc Try.prog Try.f7 false true false false) := by
  refine returnsInHanded_of_change_sized (C := Try.checked) Try.own started (by kernel_rfl) Try.func7
    (ChangeSpec.witness6 (enc := enc) (C := Try.checked) false ⟨#[], #[.slice none 0 0, .string ⟨#[]⟩], []⟩ 8 (by kernel_rfl) (by kernel_rfl) (by kernel_rfl) (by kernel_rfl)) ?_
  intro W base args ds gs before hval0 hW _ hsz0 _
  have hsz : (DataW.weightsEach Try.prog (Try.f7.params.toList ++ Rows.labelsGetsSpec.plain.varTypes Try.prog) (ds ++ gs)).all (· ≤ reachBytes) = true := hsz0
  have hval : ∀ (j : Nat) t v, Try.f7.params[j]? = some t → args[j]? = some v → Value.okWide Try.prog W .any base t v := hval0
  have hW' := hW
  obtain ⟨p, q, hA0, hV, rfl, _, _⟩ := hW
  have hA : DataW.TrodAll enc Try.prog W 0 (fun _ => true) true Try.f7.params.toList args.toList ds p := hA0
  clear hsz0 hval0 hA0
  rw [Try.params7] at hA hval hsz
  obtain ⟨v0, vs0, d0, ds0, p0, q0, hargs, rfl, rfl, h0, rr0⟩ := trodAll_cons hA
  obtain ⟨v1, vs1, d1, ds1, p1, q1, rfl, rfl, rfl, h1, rr1⟩ := trodAll_cons rr0
  obtain ⟨rfl, rfl, rfl⟩ := trodAll_nil rr1
  obtain rfl : args = #[v0, v1] := by cases args; simp_all
  obtain ⟨rfl, rfl⟩ := trodVars_none hV
  have w0 : ∀ n ∈ d0.weights Try.prog 24, n ≤ reachBytes := fun n hn => of_decide_eq_true (List.all_eq_true.1 hsz n (DataW.weights_mem_each (j := 0) rfl rfl n hn))
  have w1 : ∀ n ∈ d1.weights Try.prog 9, n ≤ reachBytes := fun n hn => of_decide_eq_true (List.all_eq_true.1 hsz n (DataW.weights_mem_each (j := 1) rfl rfl n hn))
  simp only [List.append_nil] at hW'
  have hlt := hW'.lt
  have hl0 : ∀ x ∈ p0, x.block < W.heap.size := fun x hx => by first | exact hlt x hx | (refine hlt x ?_; simp [hx])
  have k0 : ∀ W', Below W.heap.size W W' → DataW.Trod enc Try.prog W' 0 (fun b => decide (b < W.heap.size)) true 24 v0 d0 p0 := fun W' hb => Below.trod Try.laidOut (by kernel_rfl) (of_decide_eq_true (by kernel_rfl)) h0 hb hl0
  have hl1 : ∀ x ∈ p1, x.block < W.heap.size := fun x hx => by first | exact hlt x hx | (refine hlt x ?_; simp [hx])
  have k1 : ∀ W', Below W.heap.size W W' → DataW.Trod enc Try.prog W' 0 (fun b => decide (b < W.heap.size)) true 9 v1 d1 p1 := fun W' hb => Below.trod Try.laidOut (by kernel_rfl) (of_decide_eq_true (by kernel_rfl)) h1 hb hl1
  obtain ⟨a0, a0w, r0⟩ := arg_sl opn_sl__api_Label Try.underlying24 (hval 0 24 v0 rfl rfl) h0 w0
  obtain ⟨a1, rfl, rfl, rfl, x1⟩ := open_string Try.underlying9 (hval 1 9 v1 rfl rfl) h1
  have a1w : Small a1.size := by rw [← size_bs]; exact small_reach (w1 _ (by simp [DataW.weights]))
  refine (labelsGets_walk a0 a1 a0w a1w v0 W r0).mono fun e W' ⟨he, hb⟩ => ?_
  subst he
  exact ⟨_, rfl, _, _, _, [], _, [], hW', trodAll_cons_mk (shut_bool Try.underlying4 _) trodAll_mk0, (trodAll_cons_mk (k0 _ hb) (trodAll_cons_mk (k1 _ hb) trodAll_mk0)), rfl, hb.frame _, fun h => by cases h⟩

/-- The law 'LabelsGets': it returns true, whatever it is handed. -/
theorem labelsGets_holds : Rows.LabelsGetsSaid :=
  OpenClaim.holds_of_wide 7 Try.f7 rfl rfl rfl rfl rfl rfl rfl ⟨rfl, rfl, rfl, rfl, rfl⟩ rfl rfl rfl rfl rfl (by kernel_rfl) Try.func7 (by kernel_rfl)
    (of_decide_eq_true (by kernel_rfl)) (by unfold Func.isWrapper; first | (rw [if_pos (by decide +kernel)]; kernel_rfl) | (rw [if_neg (by decide +kernel)]; exact ⟨rfl, rfl⟩))
    (fun os started H enc _ => labelsGets_lifted os started H enc)
#print axioms labelsGets_holds
end Go.Proofs.Ytbpgpfigndlohaa
