/- It is proved that the law LabelsBack returns true and leaves its arguments as they read, whatever labels, names and value it is handed; there is no condition. -/
import Derived.Test.YtgmlkhfjhogdbaaGreatBk06
namespace Go.Proofs.YtgmlkhfjhogdbaaGreat
open Go.ChangeShapes Go.WideShapes Go.ChangeAt Go.RowKit Go.ChangeMaps P
set_option linter.unusedSimpArgs false
set_option linter.unusedVariables false
theorem labelsBack_ev (l : List VLabel) (nm v other : List UInt8) (hw : WLab l) (hn : nm.length < 140737488355328) (ho : other.length < 140737488355328) : Ev (fun N => law_LabelsBack N l nm v other) true := by
  obtain ⟨N0, h0⟩ := labelsBegun_ev
  obtain ⟨N1, h1⟩ := get_ev l hw nm hn
  by_cases hc : chkL l = 0 ∧ isNameL nm = true
  · obtain ⟨hc, hnm⟩ := hc
    have hr := right_of hc
    have h20 := right_labels hc
    have hwas : (nameVal nm l).length ≤ 100 := nameVal_le fun z hz => (h20.2 z hz).2
    have hd := len_del hr.ord nm
    have hcd : chkL (putP l nm []) = 0 := chk_putP hc hnm (by simp) (by omega)
    have hpp : putP (putP l nm []) nm (nameVal nm l) = l := by rw [putP_putP, putP_same hr.ord fun z hz => (hr.lab z hz).2]
    have hgone : withV l nm [] = (putP l nm [], 0) := by
      unfold withV; rw [if_pos hc, if_pos hnm, if_neg (by simp), if_neg (by omega)]
    have hagain : withV (putP l nm []) nm (nameVal nm l) = (l, 0) := by
      unfold withV; rw [if_pos hcd, if_pos hnm, if_neg (by omega), hpp, if_neg (by omega)]
    obtain ⟨N2, h2⟩ := with_ev l hw nm [] hn
    obtain ⟨N3, h3⟩ := with_ev (putP l nm []) (wlab_right hcd) nm (nameVal nm l) hn
    obtain ⟨N4, h4⟩ := with_ev l hw nm v hn
    rw [hgone] at h2
    rw [hagain] at h3
    by_cases hq : 100 < v.length ∨ 20 < (putP l nm v).length
    · have hbad : withV l nm v = ([], 2) := by
        unfold withV; rw [if_pos hc, if_pos hnm]
        by_cases hv : 100 < v.length
        · rw [if_pos hv]
        · rw [if_neg hv, if_pos (hq.resolve_left hv)]
      rw [hbad] at h4
      refine ⟨max (max N0 (max N1 N2)) (max N3 (max N4 100)), fun N hN => ?_⟩
      have h0 := h0 N (by omega)
      have h1 := h1 N (by omega)
      have h2 := h2 N (by omega)
      have h3 := h3 N (by omega)
      have h4 := h4 N (by omega)
      simp only at h0 h1 h2 h3 h4
      show law_LabelsBack N l nm v other = _
      unfold law_LabelsBack
      rw [h0, Option.bind_some, Bool.not_true, cond_false, h1, if_pos hc, if_pos hnm, Option.bind_some]
      simp only [bne_self_eq_false, cond_false]
      rw [h2, Option.bind_some, h3, Option.bind_some]
      simp only [bne_self_eq_false, cond_false]
      rw [sameL_self N l hw.1 (by omega), Option.bind_some, Bool.not_true, cond_false, h4]
      rfl
    · have hok : withV l nm v = (putP l nm v, 0) := by
        unfold withV; rw [if_pos hc, if_pos hnm, if_neg (fun h => hq (.inl h)), if_neg (fun h => hq (.inr h))]
      rw [hok] at h4
      have hcm : chkL (putP l nm v) = 0 := chk_putP hc hnm (Nat.le_of_not_lt fun h => hq (.inl h)) (Nat.le_of_not_lt fun h => hq (.inr h))
      have hwm := wlab_right hcm
      obtain ⟨N5, h5⟩ := get_ev (putP l nm v) hwm nm hn
      obtain ⟨N6, h6⟩ := check_ev (putP l nm v) hwm
      obtain ⟨N7, h7⟩ := get_ev l hw other ho
      obtain ⟨N8, h8⟩ := get_ev (putP l nm v) hwm other ho
      refine ⟨max (max (max N0 (max N1 N2)) (max N3 (max N4 100))) (max (max N5 N6) (max N7 N8)), fun N hN => ?_⟩
      have h0 := h0 N (by omega)
      have h1 := h1 N (by omega)
      have h2 := h2 N (by omega)
      have h3 := h3 N (by omega)
      have h4 := h4 N (by omega)
      have h5 := h5 N (by omega)
      have h6 := h6 N (by omega)
      have h7 := h7 N (by omega)
      have h8 := h8 N (by omega)
      simp only at h0 h1 h2 h3 h4 h5 h6 h7 h8
      show law_LabelsBack N l nm v other = _
      unfold law_LabelsBack
      rw [h0, Option.bind_some, Bool.not_true, cond_false, h1, if_pos hc, if_pos hnm, Option.bind_some]
      simp only [bne_self_eq_false, cond_false]
      rw [h2, Option.bind_some, h3, Option.bind_some]
      simp only [bne_self_eq_false, cond_false]
      rw [sameL_self N l hw.1 (by omega), Option.bind_some, Bool.not_true, cond_false, h4, Option.bind_some]
      simp only [bne_self_eq_false, cond_false]
      rw [h5, if_pos hcm, if_pos hnm, nameVal_put, Option.bind_some]
      simp only [bne_self_eq_false, cond_false, decide_true, Bool.not_true]
      rw [h6, hcm, Option.bind_some]
      simp only [bne_self_eq_false, cond_false]
      rw [h7, Option.bind_some, h8, Option.bind_some, if_pos hc, if_pos hcm]
      by_cases he : other = nm
      · subst he
        rw [if_pos hnm, if_pos hnm]
        simp
      · rw [nameVal_other hr.ord he, decide_eq_false he]
        simp
  · refine ⟨max N0 N1, fun N hN => ?_⟩
    have h0 := h0 N (by omega)
    have h1 := h1 N (by omega)
    simp only at h0 h1
    show law_LabelsBack N l nm v other = _
    unfold law_LabelsBack
    rw [h0, Option.bind_some, Bool.not_true, cond_false, h1, Option.bind_some]
    by_cases hl : chkL l = 0
    · have : ¬ isNameL nm = true := fun h => hc ⟨hl, h⟩
      rw [if_pos hl, if_neg this]; rfl
    · have : (chkL l != 0) = true := by simpa using hl
      rw [if_neg hl]
      simp only [this, cond_true]
theorem labelsBack_walk (z : List VLabel) (s t u : ByteArray) (hz : z.length ≤ reachBytes ∧ ∀ y ∈ z, WF_VLabel y) (hs : Small s.size) (hu : Small u.size) (v : Value) (w : World) (hr : Rel (allW w) (.sl false 2 (z.map enc_VLabel)) v) : Calls Tryz.prog 4 #[v, .string s, .string t, .string u] w fun e w' => e = .returned (.bool true) ∧ Below w.heap.size w w' := by
  obtain ⟨N, hN⟩ := (labelsBack_ev z (bsOf s) (bsOf t) (bsOf u) (wlab_of hz.1 hz.2) (text_small hs) (text_small hu)).one
  have h := law_LabelsBack_ok z (bsOf s) (bsOf t) (bsOf u) hN id
  refine calls_of_acalls (vs := [v, .string s, .string t, .string u]) (us := [.sl false 2 (z.map enc_VLabel), .v (.string (mkB (bsOf s))), .v (.string (mkB (bsOf t))), .v (.string (mkB (bsOf u)))]) h rfl fun i u x hu hx => ?_
  match i, hu, hx with
  | 0, hu, hx => simp at hu hx; subst hu hx; exact ⟨hr, rfl⟩
  | 1, hu, hx => simp at hu hx; subst hu hx; rw [mkB_bsOf]; exact ⟨.v _, rfl⟩
  | 2, hu, hx => simp at hu hx; subst hu hx; rw [mkB_bsOf]; exact ⟨.v _, rfl⟩
  | 3, hu, hx => simp at hu hx; subst hu hx; rw [mkB_bsOf]; exact ⟨.v _, rfl⟩
  | i + 4, hu, hx => simp at hu
set_option maxRecDepth 100000 in
theorem labelsBack_lifted (os : Os) (started : os.Started) (H : Type) (enc : TypeId × Value → H) :
    ReturnsInHanded {} Tryz.checked os 4 .any (Rows.labelsBackSpec.pre6 enc Tryz.prog Tryz.f4 Rows.labelsBackRow.domain false) (Rows.labelsBackSpec.post enc Tryz.prog Tryz.f4 false true false false) := by
  refine returnsInHanded_of_change_sized (C := Tryz.checked) Tryz.own started (by kernel_rfl) Tryz.func4
    (ChangeSpec.witness6 (enc := enc) (C := Tryz.checked) false ⟨#[], #[.slice none 0 0, .string ⟨#[]⟩, .string ⟨#[]⟩, .string ⟨#[]⟩], []⟩ 8 (by kernel_rfl) (by kernel_rfl) (by kernel_rfl) (by kernel_rfl)) ?_
  intro W base args ds gs before hval0 hW _ hsz0 _
  have hsz : (DataW.weightsEach Tryz.prog (Tryz.f4.params.toList ++ Rows.labelsBackSpec.plain.varTypes Tryz.prog) (ds ++ gs)).all (· ≤ reachBytes) = true := hsz0
  have hval : ∀ (j : Nat) t v, Tryz.f4.params[j]? = some t → args[j]? = some v → Value.okWide Tryz.prog W .any base t v := hval0
  have hW' := hW
  obtain ⟨p, q, hA0, hV, rfl, _, _⟩ := hW
  have hA : DataW.TrodAll enc Tryz.prog W 0 (fun _ => true) true Tryz.f4.params.toList args.toList ds p := hA0
  clear hsz0 hval0 hA0
  rw [Tryz.params4] at hA hval hsz
  obtain ⟨v0, vs0, d0, ds0, p0, q0, hargs, rfl, rfl, h0, rr0⟩ := trodAll_cons hA
  obtain ⟨v1, vs1, d1, ds1, p1, q1, rfl, rfl, rfl, h1, rr1⟩ := trodAll_cons rr0
  obtain ⟨v2, vs2, d2, ds2, p2, q2, rfl, rfl, rfl, h2, rr2⟩ := trodAll_cons rr1
  obtain ⟨v3, vs3, d3, ds3, p3, q3, rfl, rfl, rfl, h3, rr3⟩ := trodAll_cons rr2
  obtain ⟨rfl, rfl, rfl⟩ := trodAll_nil rr3
  obtain rfl : args = #[v0, v1, v2, v3] := by cases args; simp_all
  obtain ⟨rfl, rfl⟩ := trodVars_none hV
  have w0 : ∀ n ∈ d0.weights Tryz.prog 22, n ≤ reachBytes := fun n hn => of_decide_eq_true (List.all_eq_true.1 hsz n (DataW.weights_mem_each (j := 0) rfl rfl n hn))
  have w1 : ∀ n ∈ d1.weights Tryz.prog 9, n ≤ reachBytes := fun n hn => of_decide_eq_true (List.all_eq_true.1 hsz n (DataW.weights_mem_each (j := 1) rfl rfl n hn))
  have w2 : ∀ n ∈ d2.weights Tryz.prog 9, n ≤ reachBytes := fun n hn => of_decide_eq_true (List.all_eq_true.1 hsz n (DataW.weights_mem_each (j := 2) rfl rfl n hn))
  have w3 : ∀ n ∈ d3.weights Tryz.prog 9, n ≤ reachBytes := fun n hn => of_decide_eq_true (List.all_eq_true.1 hsz n (DataW.weights_mem_each (j := 3) rfl rfl n hn))
  simp only [List.append_nil] at hW'
  have hlt := hW'.lt
  have hl0 : ∀ x ∈ p0, x.block < W.heap.size := fun x hx => by first | exact hlt x hx | (refine hlt x ?_; simp [hx])
  have k0 : ∀ W', Below W.heap.size W W' → DataW.Trod enc Tryz.prog W' 0 (fun b => decide (b < W.heap.size)) true 22 v0 d0 p0 := fun W' hb => Below.trod Tryz.laidOut (by kernel_rfl) (of_decide_eq_true (by kernel_rfl)) h0 hb hl0
  have hl1 : ∀ x ∈ p1, x.block < W.heap.size := fun x hx => by first | exact hlt x hx | (refine hlt x ?_; simp [hx])
  have k1 : ∀ W', Below W.heap.size W W' → DataW.Trod enc Tryz.prog W' 0 (fun b => decide (b < W.heap.size)) true 9 v1 d1 p1 := fun W' hb => Below.trod Tryz.laidOut (by kernel_rfl) (of_decide_eq_true (by kernel_rfl)) h1 hb hl1
  have hl2 : ∀ x ∈ p2, x.block < W.heap.size := fun x hx => by first | exact hlt x hx | (refine hlt x ?_; simp [hx])
  have k2 : ∀ W', Below W.heap.size W W' → DataW.Trod enc Tryz.prog W' 0 (fun b => decide (b < W.heap.size)) true 9 v2 d2 p2 := fun W' hb => Below.trod Tryz.laidOut (by kernel_rfl) (of_decide_eq_true (by kernel_rfl)) h2 hb hl2
  have hl3 : ∀ x ∈ p3, x.block < W.heap.size := fun x hx => by first | exact hlt x hx | (refine hlt x ?_; simp [hx])
  have k3 : ∀ W', Below W.heap.size W W' → DataW.Trod enc Tryz.prog W' 0 (fun b => decide (b < W.heap.size)) true 9 v3 d3 p3 := fun W' hb => Below.trod Tryz.laidOut (by kernel_rfl) (of_decide_eq_true (by kernel_rfl)) h3 hb hl3
  obtain ⟨a0, a0w, r0⟩ := arg_sl opn_sl__api_Label Tryz.underlying22 (hval 0 22 v0 rfl rfl) h0 w0
  obtain ⟨a1, rfl, rfl, rfl, x1⟩ := open_string Tryz.underlying9 (hval 1 9 v1 rfl rfl) h1
  have a1w : Small a1.size := by rw [← size_bs]; exact small_reach (w1 _ (by simp [DataW.weights]))
  obtain ⟨a2, rfl, rfl, rfl, x2⟩ := open_string Tryz.underlying9 (hval 2 9 v2 rfl rfl) h2
  have a2w : Small a2.size := by rw [← size_bs]; exact small_reach (w2 _ (by simp [DataW.weights]))
  obtain ⟨a3, rfl, rfl, rfl, x3⟩ := open_string Tryz.underlying9 (hval 3 9 v3 rfl rfl) h3
  have a3w : Small a3.size := by rw [← size_bs]; exact small_reach (w3 _ (by simp [DataW.weights]))
  refine (labelsBack_walk a0 a1 a2 a3 a0w a1w a3w v0 W r0).mono fun e W' ⟨he, hb⟩ => ?_
  subst he
  exact ⟨_, rfl, _, _, _, [], _, [], hW', trodAll_cons_mk (shut_bool Tryz.underlying4 _) trodAll_mk0, (trodAll_cons_mk (k0 _ hb) (trodAll_cons_mk (k1 _ hb) (trodAll_cons_mk (k2 _ hb) (trodAll_cons_mk (k3 _ hb) trodAll_mk0)))), rfl, hb.frame _, fun h => by cases h⟩

/-- The law 'LabelsBack': it returns true, whatever it is handed. -/
theorem labelsBack_holds : Rows.LabelsBackSaid :=
  OpenClaim.holds_of_wide 4 Tryz.f4 rfl rfl rfl rfl rfl rfl rfl ⟨rfl, rfl, rfl, rfl, rfl⟩ rfl rfl rfl rfl rfl (by kernel_rfl) Tryz.func4 (by kernel_rfl)
    (of_decide_eq_true (by kernel_rfl)) (by unfold Func.isWrapper; first | (rw [if_pos (by decide +kernel)]; kernel_rfl) | (rw [if_neg (by decide +kernel)]; exact ⟨rfl, rfl⟩))
    (fun os started H enc _ => labelsBack_lifted os started H enc)
#print axioms labelsBack_holds
end Go.Proofs.YtgmlkhfjhogdbaaGreat
