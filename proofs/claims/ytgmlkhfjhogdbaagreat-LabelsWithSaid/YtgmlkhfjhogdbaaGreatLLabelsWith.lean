/- It is proved that the law LabelsWith returns true and leaves its arguments as they read, whatever labels, name and value it is handed; there is no condition. -/
import Derived.Test.YtgmlkhfjhogdbaaGreatBk07
namespace Go.Proofs.YtgmlkhfjhogdbaaGreat
open Go.ChangeShapes Go.WideShapes Go.ChangeAt Go.RowKit Go.ChangeMaps P
set_option linter.unusedSimpArgs false
set_option linter.unusedVariables false
theorem are_is (N : Nat) (l m : List VLabel) (w : Int) (hl : l.length < 140737488355328) (hN : l.length < N) (h : l = if w = 0 then m else []) : law_labelsAre N l w w m = some true := by
  have h3 : ∀ m', l = m' → law_labelsAre_R3 N N l w w m' = some true := fun m' e => by
    subst e
    unfold law_labelsAre_R3
    simp only [beq_self_eq_true, cond_true]
    rw [sameL_self N l hl hN]; rfl
  unfold law_labelsAre
  by_cases hw : w = 0
  · rw [if_pos hw] at h
    have : (w != 0) = false := by simpa using hw
    rw [this, cond_false, h3 _ h]
  · rw [if_neg hw] at h
    have : (w != 0) = true := by simpa using hw
    rw [this, cond_true, h3 _ h]
theorem r13_is (N n : Nat) (l m : List VLabel) (w : Int) (h0 : law_labelsBegun N = some true) (hl : l.length < 140737488355328) (hN : l.length < N) (h : l = if w = 0 then m else []) : law_LabelsWith_R13 N n l w w m = some true := by
  unfold law_LabelsWith_R13
  rw [h0, Option.bind_some, cond_true, are_is N l m w hl hN h, Option.bind_some]
theorem r8_bad (N n : Nat) (l : List VLabel) (nm v : List UInt8) (w : Int) (h0 : law_labelsBegun N = some true) (hw : w ≠ 0) (hN : 0 < N) : law_LabelsWith_R8 N n l nm v [] w w = some true := by
  unfold law_LabelsWith_R8
  have : (w == 0) = false := by simpa using hw
  rw [this, cond_false]
  exact r13_is N n [] [] w h0 (by simp) (by simpa using hN) (by rw [if_neg hw])
theorem labelsWith_ev (l : List VLabel) (nm v : List UInt8) (hw : WLab l) (hn : nm.length < 140737488355328) : Ev (fun N => law_LabelsWith N l nm v) true := by
  obtain ⟨N0, h0⟩ := labelsBegun_ev
  obtain ⟨N1, h1⟩ := with_ev l hw nm v hn
  obtain ⟨N2, h2⟩ := refCheck_ev l hw
  obtain ⟨N3, h3⟩ := refIsName_ev nm hn
  have h4 : ∃ N4, ∀ N, N4 ≤ N → chkL l = 0 → ref_PutLabel N l nm v = some (putP l nm v) := by
    by_cases hc : chkL l = 0
    · obtain ⟨N4, h4⟩ := refPut_ev l (right_of hc).ord (by have := (right_labels hc).1; omega) nm v
      exact ⟨N4, fun N hN _ => h4 N hN⟩
    · exact ⟨0, fun N _ h => absurd h hc⟩
  obtain ⟨N4, h4⟩ := h4
  refine ⟨max (max N0 (max N1 N2)) (max N3 (max N4 100)), fun N hN => ?_⟩
  have h0 := h0 N (by omega)
  have h1 := h1 N (by omega)
  have h2 := h2 N (by omega)
  have h3 := h3 N (by omega)
  have h4 := h4 N (by omega)
  simp only at h0 h1 h2 h3
  show law_LabelsWith N l nm v = _
  unfold law_LabelsWith
  rw [h1, Option.bind_some, h2, Option.bind_some]
  unfold withV
  by_cases hc : chkL l = 0
  · rw [if_pos hc, hc]
    simp only [bne_self_eq_false, cond_false]
    rw [h3, Option.bind_some]
    cases isNameL nm with
    | false =>
      rw [if_neg (by decide), Bool.not_false, cond_true]
      exact r8_bad N N l nm v 1 h0 (by decide) (by omega)
    | true =>
      rw [if_pos rfl, Bool.not_true, cond_false]
      by_cases hv : 100 < v.length
      · rw [if_pos hv, decide_eq_true (by omega), cond_true]
        exact r8_bad N N l nm v 2 h0 (by decide) (by omega)
      · rw [if_neg hv, decide_eq_false (by omega), cond_false]
        unfold law_LabelsWith_R8
        simp only [beq_self_eq_true, cond_true]
        rw [h4 hc, Option.bind_some]
        by_cases hq : 20 < (putP l nm v).length
        · rw [if_pos hq, decide_eq_true (by omega), cond_true]
          exact r13_is N N _ _ 2 h0 (by simp) (by simp; omega) (by rw [if_neg (by decide)])
        · rw [if_neg hq, decide_eq_false (by omega), cond_false]
          exact r13_is N N _ _ 0 h0 (by simp only; omega) (by simp only; omega) (by rw [if_pos rfl])
  · have : (chkL l != 0) = true := by simpa using hc
    rw [if_neg hc, this, cond_true]
    exact r8_bad N N l nm v _ h0 hc (by omega)
theorem labelsWith_walk (z : List VLabel) (s t : ByteArray) (hz : z.length ≤ reachBytes ∧ ∀ y ∈ z, WF_VLabel y) (hs : Small s.size) (v : Value) (w : World) (hr : Rel (allW w) (.sl false 2 (z.map enc_VLabel)) v) : Calls Tryz.prog 3 #[v, .string s, .string t] w fun e w' => e = .returned (.bool true) ∧ Below w.heap.size w w' := by
  obtain ⟨N, hN⟩ := (labelsWith_ev z (bsOf s) (bsOf t) (wlab_of hz.1 hz.2) (text_small hs)).one
  have h := law_LabelsWith_ok z (bsOf s) (bsOf t) hN id
  refine calls_of_acalls (vs := [v, .string s, .string t]) (us := [.sl false 2 (z.map enc_VLabel), .v (.string (mkB (bsOf s))), .v (.string (mkB (bsOf t)))]) h rfl fun i u x hu hx => ?_
  match i, hu, hx with
  | 0, hu, hx => simp at hu hx; subst hu hx; exact ⟨hr, rfl⟩
  | 1, hu, hx => simp at hu hx; subst hu hx; rw [mkB_bsOf]; exact ⟨.v _, rfl⟩
  | 2, hu, hx => simp at hu hx; subst hu hx; rw [mkB_bsOf]; exact ⟨.v _, rfl⟩
  | i + 3, hu, hx => simp at hu
set_option maxRecDepth 100000 in
theorem labelsWith_lifted (os : Os) (started : os.Started) (H : Type) (enc : TypeId × Value → H) :
    ReturnsInHanded {} Tryz.checked os 3 .any (Rows.labelsWithSpec.pre6 enc Tryz.prog Tryz.f3 Rows.labelsWithRow.domain false) (Rows.labelsWithSpec.post enc Tryz.prog Tryz.f3 false true false false) := by
  refine returnsInHanded_of_change_sized (C := Tryz.checked) Tryz.own started (by kernel_rfl) Tryz.func3
    (ChangeSpec.witness6 (enc := enc) (C := Tryz.checked) false ⟨#[], #[.slice none 0 0, .string ⟨#[]⟩, .string ⟨#[]⟩], []⟩ 8 (by kernel_rfl) (by kernel_rfl) (by kernel_rfl) (by kernel_rfl)) ?_
  intro W base args ds gs before hval0 hW _ hsz0 _
  have hsz : (DataW.weightsEach Tryz.prog (Tryz.f3.params.toList ++ Rows.labelsWithSpec.plain.varTypes Tryz.prog) (ds ++ gs)).all (· ≤ reachBytes) = true := hsz0
  have hval : ∀ (j : Nat) t v, Tryz.f3.params[j]? = some t → args[j]? = some v → Value.okWide Tryz.prog W .any base t v := hval0
  have hW' := hW
  obtain ⟨p, q, hA0, hV, rfl, _, _⟩ := hW
  have hA : DataW.TrodAll enc Tryz.prog W 0 (fun _ => true) true Tryz.f3.params.toList args.toList ds p := hA0
  clear hsz0 hval0 hA0
  rw [Tryz.params3] at hA hval hsz
  obtain ⟨v0, vs0, d0, ds0, p0, q0, hargs, rfl, rfl, h0, rr0⟩ := trodAll_cons hA
  obtain ⟨v1, vs1, d1, ds1, p1, q1, rfl, rfl, rfl, h1, rr1⟩ := trodAll_cons rr0
  obtain ⟨v2, vs2, d2, ds2, p2, q2, rfl, rfl, rfl, h2, rr2⟩ := trodAll_cons rr1
  obtain ⟨rfl, rfl, rfl⟩ := trodAll_nil rr2
  obtain rfl : args = #[v0, v1, v2] := by cases args; simp_all
  obtain ⟨rfl, rfl⟩ := trodVars_none hV
  have w0 : ∀ n ∈ d0.weights Tryz.prog 22, n ≤ reachBytes := fun n hn => of_decide_eq_true (List.all_eq_true.1 hsz n (DataW.weights_mem_each (j := 0) rfl rfl n hn))
  have w1 : ∀ n ∈ d1.weights Tryz.prog 9, n ≤ reachBytes := fun n hn => of_decide_eq_true (List.all_eq_true.1 hsz n (DataW.weights_mem_each (j := 1) rfl rfl n hn))
  have w2 : ∀ n ∈ d2.weights Tryz.prog 9, n ≤ reachBytes := fun n hn => of_decide_eq_true (List.all_eq_true.1 hsz n (DataW.weights_mem_each (j := 2) rfl rfl n hn))
  simp only [List.append_nil] at hW'
  have hlt := hW'.lt
  have hl0 : ∀ x ∈ p0, x.block < W.heap.size := fun x hx => by first | exact hlt x hx | (refine hlt x ?_; simp [hx])
  have k0 : ∀ W', Below W.heap.size W W' → DataW.Trod enc Tryz.prog W' 0 (fun b => decide (b < W.heap.size)) true 22 v0 d0 p0 := fun W' hb => Below.trod Tryz.laidOut (by kernel_rfl) (of_decide_eq_true (by kernel_rfl)) h0 hb hl0
  have hl1 : ∀ x ∈ p1, x.block < W.heap.size := fun x hx => by first | exact hlt x hx | (refine hlt x ?_; simp [hx])
  have k1 : ∀ W', Below W.heap.size W W' → DataW.Trod enc Tryz.prog W' 0 (fun b => decide (b < W.heap.size)) true 9 v1 d1 p1 := fun W' hb => Below.trod Tryz.laidOut (by kernel_rfl) (of_decide_eq_true (by kernel_rfl)) h1 hb hl1
  have hl2 : ∀ x ∈ p2, x.block < W.heap.size := fun x hx => by first | exact hlt x hx | (refine hlt x ?_; simp [hx])
  have k2 : ∀ W', Below W.heap.size W W' → DataW.Trod enc Tryz.prog W' 0 (fun b => decide (b < W.heap.size)) true 9 v2 d2 p2 := fun W' hb => Below.trod Tryz.laidOut (by kernel_rfl) (of_decide_eq_true (by kernel_rfl)) h2 hb hl2
  obtain ⟨a0, a0w, r0⟩ := arg_sl opn_sl__api_Label Tryz.underlying22 (hval 0 22 v0 rfl rfl) h0 w0
  obtain ⟨a1, rfl, rfl, rfl, x1⟩ := open_string Tryz.underlying9 (hval 1 9 v1 rfl rfl) h1
  have a1w : Small a1.size := by rw [← size_bs]; exact small_reach (w1 _ (by simp [DataW.weights]))
  obtain ⟨a2, rfl, rfl, rfl, x2⟩ := open_string Tryz.underlying9 (hval 2 9 v2 rfl rfl) h2
  have a2w : Small a2.size := by rw [← size_bs]; exact small_reach (w2 _ (by simp [DataW.weights]))
  refine (labelsWith_walk a0 a1 a2 a0w a1w v0 W r0).mono fun e W' ⟨he, hb⟩ => ?_
  subst he
  exact ⟨_, rfl, _, _, _, [], _, [], hW', trodAll_cons_mk (shut_bool Tryz.underlying4 _) trodAll_mk0, (trodAll_cons_mk (k0 _ hb) (trodAll_cons_mk (k1 _ hb) (trodAll_cons_mk (k2 _ hb) trodAll_mk0))), rfl, hb.frame _, fun h => by cases h⟩

/-- The law 'LabelsWith': it returns true, whatever it is handed. -/
theorem labelsWith_holds : Rows.LabelsWithSaid :=
  OpenClaim.holds_of_wide 3 Tryz.f3 rfl rfl rfl rfl rfl rfl rfl ⟨rfl, rfl, rfl, rfl, rfl⟩ rfl rfl rfl rfl rfl (by kernel_rfl) Tryz.func3 (by kernel_rfl)
    (of_decide_eq_true (by kernel_rfl)) (by unfold Func.isWrapper; first | (rw [if_pos (by decide +kernel)]; kernel_rfl) | (rw [if_neg (by decide +kernel)]; exact ⟨rfl, rfl⟩))
    (fun os started H enc _ => labelsWith_lifted os started H enc)
#print axioms labelsWith_holds
end Go.Proofs.YtgmlkhfjhogdbaaGreat
