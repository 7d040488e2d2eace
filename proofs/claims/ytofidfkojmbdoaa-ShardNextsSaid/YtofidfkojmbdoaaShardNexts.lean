/- It is proved that the law ShardNexts returns true and leaves its arguments as they read, whatever shard and time it is handed; there is no condition. -/
import Derived.Test.YtofidfkojmbdoaaE4
import Derived.Test.YtofidfkojmbdoaaFS2
namespace Go.Proofs.Ytofidfkojmbdoaa
open Go.ChangeShapes Go.WideShapes Go.ChangeAt Go.RowKit Go.ChangeMaps P
set_option linter.unusedSimpArgs false
set_option linter.unusedVariables false
theorem nextN_ok (l : List VItem) (n : Nat) : nextN l n ≠ 0 → okW (l.take (nextN l n)) = true := by
  induction n using Nat.strongRecOn with
  | _ n ih =>
    rw [nextN]
    split
    · intro h; exact absurd rfl h
    · split
      · rename_i h; exact fun _ => h
      · exact ih (n / 2) (by omega)
theorem nextI_ok {s : VShard} (h : nextI s ≠ []) : okW (nextI s) = true := by
  unfold nextI at h ⊢
  apply nextN_ok
  intro e
  rw [e] at h
  exact h rfl
theorem nexts4 (N n : Nat) (e : Int) (hb : law_shardBegun N = some true) : law_ShardNexts_R4 N n [] [] e e = some true := by
  unfold law_ShardNexts_R4
  rw [hb, Option.bind_some, cond_true, beq_self_eq_true, cond_true]; rfl
theorem shardNexts_ev (s : VShard) (now : Int) (hw : WS2 s) : Ev (fun N => law_ShardNexts N s now) true := by
  obtain ⟨N0, h0⟩ := shardBegun_ev
  obtain ⟨N1, h1⟩ := next_ev s now hw
  obtain ⟨N2, h2⟩ := refChkN_ev s now hw.1
  refine ⟨max N0 (max N1 (max N2 50000)), fun N hN => ?_⟩
  have h0 := h0 N (by omega)
  have h1 := h1 N (by omega)
  have h2 := h2 N (by omega)
  simp only at h1 h2
  show law_ShardNexts N s now = _
  unfold law_ShardNexts
  rw [h1, Option.bind_some, h2, Option.bind_some, h0, Option.bind_some]
  simp only [Bool.not_true, cond_false]
  by_cases hc : chkN s now = 0
  · obtain ⟨q1, q2, q3⟩ := chkN_right hc
    rw [if_neg (show ¬ chkN s now ≠ 0 by omega), hc]
    simp only [bne_self_eq_false, cond_false]
    have hsm := small_of q1
    have hsn : SmallI (nextI s) := small_take hsm _
    have hl := hsn.1
    rw [refNextOf_is N s q1 hw.2 (by omega), Option.bind_some, sameI_is N _ (by omega) (fun z hz => by have := hsn.2 z hz; omega) (by omega), Option.bind_some]
    simp only [Bool.not_true, cond_false]
    by_cases hn : nextI s = []
    · have hT : nextT s = [] := by unfold nextT; rw [if_pos hn]
      rw [hn, hT]; rfl
    · have hT : nextT s = textW (nextI s) := by unfold nextT; rw [if_neg hn]
      have hk := nextI_ok hn
      unfold okW at hk
      simp only [decide_eq_true_eq] at hk
      have hlen := writeS_len (seriesOf (nextI s))
      rw [show (((nextI s).length : Int) == 0) = false by simp; exact hn, cond_false, hT]
      unfold textW
      rw [refUnpack_is N _ hlen (by omega), Option.bind_some, refSeries_is N _ hsn (by omega), Option.bind_some, refWriteI_is N _ hsn (fun z hz => hw.2 z (List.mem_of_mem_take hz)) (by omega), Option.bind_some, hk]
      simp
  · rw [if_pos hc]
    simp only [bne_self_eq_false, cond_false]
    rw [show (chkN s now != 0) = true by simpa using hc, cond_true]
    exact nexts4 N N _ h0
theorem shardNexts_walk (z : VShard) (n : Int) (hz : WF_VShard z) (v : Value) (w : World) (hr : Rel (allW w) (.ag (enc_VShard z)) v) : Calls Try.prog 8 #[v, .int .i64 n] w fun e w' => e = .returned (.bool true) ∧ Below w.heap.size w w' := by
  obtain ⟨N, hN⟩ := (shardNexts_ev z n (wshard2_of hz)).one
  have h := law_ShardNexts_ok z n hN id
  refine calls_of_acalls (vs := [v, .int .i64 n]) (us := [.ag (enc_VShard z), .v (.int .i64 n)]) h rfl fun i u x hu hx => ?_
  match i, hu, hx with
  | 0, hu, hx => simp at hu hx; subst hu hx; exact ⟨hr, rfl⟩
  | 1, hu, hx => simp at hu hx; subst hu hx; exact ⟨.v _, rfl⟩
  | i + 2, hu, hx => simp at hu
set_option maxRecDepth 100000 in
theorem shardNexts_lifted (os : Os) (started : os.Started) (H : Type) (enc : TypeId × Value → H) :
    ReturnsInHanded {} Try.checked os 8 .any (Rows.shardNextsSpec.pre6 enc Try.prog Try.f8 Rows.shardNextsRow.domain false) (Rows.shardNextsSpec.post enc Try.prog Try.f8 false true false false) := by
  refine returnsInHanded_of_change_sized (C := Try.checked) Try.own started (by kernel_rfl) Try.func8
    (ChangeSpec.witness6 (enc := enc) (C := Try.checked) false ⟨#[], #[.agg #[.slice none 0 0, .int .i64 0, .int .i64 0, .int .i64 0, .int .i64 0, .int .i64 0, .int .i64 0], .int .i64 0], []⟩ 8 (by kernel_rfl) (by kernel_rfl) (by kernel_rfl) (by kernel_rfl)) ?_
  intro W base args ds gs before hval0 hW _ hsz0 _
  have hsz : (DataW.weightsEach Try.prog (Try.f8.params.toList ++ Rows.shardNextsSpec.plain.varTypes Try.prog) (ds ++ gs)).all (· ≤ reachBytes) = true := hsz0
  have hval : ∀ (j : Nat) t v, Try.f8.params[j]? = some t → args[j]? = some v → Value.okWide Try.prog W .any base t v := hval0
  have hW' := hW
  obtain ⟨p, q, hA0, hV, rfl, _, _⟩ := hW
  have hA : DataW.TrodAll enc Try.prog W 0 (fun _ => true) true Try.f8.params.toList args.toList ds p := hA0
  clear hsz0 hval0 hA0
  rw [Try.params8] at hA hval hsz
  obtain ⟨v0, vs0, d0, ds0, p0, q0, hargs, rfl, rfl, h0, rr0⟩ := trodAll_cons hA
  obtain ⟨v1, vs1, d1, ds1, p1, q1, rfl, rfl, rfl, h1, rr1⟩ := trodAll_cons rr0
  obtain ⟨rfl, rfl, rfl⟩ := trodAll_nil rr1
  obtain rfl : args = #[v0, v1] := by cases args; simp_all
  obtain ⟨rfl, rfl⟩ := trodVars_none hV
  have w0 : ∀ n ∈ d0.weights Try.prog 41, n ≤ reachBytes := fun n hn => of_decide_eq_true (List.all_eq_true.1 hsz n (DataW.weights_mem_each (j := 0) rfl rfl n hn))
  have w1 : ∀ n ∈ d1.weights Try.prog 3, n ≤ reachBytes := fun n hn => of_decide_eq_true (List.all_eq_true.1 hsz n (DataW.weights_mem_each (j := 1) rfl rfl n hn))
  simp only [List.append_nil] at hW'
  have hlt := hW'.lt
  have hl0 : ∀ x ∈ p0, x.block < W.heap.size := fun x hx => by first | exact hlt x hx | (refine hlt x ?_; simp [hx])
  have k0 : ∀ W', Below W.heap.size W W' → DataW.Trod enc Try.prog W' 0 (fun b => decide (b < W.heap.size)) true 41 v0 d0 p0 := fun W' hb => Below.trod Try.laidOut (by kernel_rfl) (of_decide_eq_true (by kernel_rfl)) h0 hb hl0
  have hl1 : ∀ x ∈ p1, x.block < W.heap.size := fun x hx => by first | exact hlt x hx | (refine hlt x ?_; simp [hx])
  have k1 : ∀ W', Below W.heap.size W W' → DataW.Trod enc Try.prog W' 0 (fun b => decide (b < W.heap.size)) true 3 v1 d1 p1 := fun W' hb => Below.trod Try.laidOut (by kernel_rfl) (of_decide_eq_true (by kernel_rfl)) h1 hb hl1
  obtain ⟨a0, a0w, r0⟩ := arg_ag opn_VShard Try.underlying41 (hval 0 41 v0 rfl rfl) h0 w0
  obtain ⟨a1, rfl, rfl, rfl, x1⟩ := open_int Try.underlying3 (hval 1 3 v1 rfl rfl) h1
  have a1w := i64_of_wf x1
  refine (shardNexts_walk a0 a1 a0w v0 W r0).mono fun e W' ⟨he, hb⟩ => ?_
  subst he
  exact ⟨_, rfl, _, _, _, [], _, [], hW', trodAll_cons_mk (shut_bool Try.underlying4 _) trodAll_mk0, (trodAll_cons_mk (k0 _ hb) (trodAll_cons_mk (k1 _ hb) trodAll_mk0)), rfl, hb.frame _, fun h => by cases h⟩

/-- The law 'ShardNexts': it returns true, whatever it is handed. -/
theorem shardNexts_holds : Rows.ShardNextsSaid :=
  OpenClaim.holds_of_wide 8 Try.f8 rfl rfl rfl rfl rfl rfl rfl ⟨rfl, rfl, rfl, rfl, rfl⟩ rfl rfl rfl rfl rfl (by kernel_rfl) Try.func8 (by kernel_rfl)
    (of_decide_eq_true (by kernel_rfl)) (by unfold Func.isWrapper; first | (rw [if_pos (by decide +kernel)]; kernel_rfl) | (rw [if_neg (by decide +kernel)]; exact ⟨rfl, rfl⟩))
    (fun os started H enc _ => shardNexts_lifted os started H enc)
#print axioms shardNexts_holds
end Go.Proofs.Ytofidfkojmbdoaa
