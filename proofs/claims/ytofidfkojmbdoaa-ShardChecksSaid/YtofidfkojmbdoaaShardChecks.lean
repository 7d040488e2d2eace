/- It is proved that the law ShardChecks returns true and leaves its argument as it reads, whatever shard it is handed; there is no condition. -/
import Derived.Test.YtofidfkojmbdoaaEW
import Derived.Test.YtofidfkojmbdoaaHU
import Derived.Test.YtofidfkojmbdoaaFS2
namespace Go.Proofs.Ytofidfkojmbdoaa
open Go.ChangeShapes Go.WideShapes Go.ChangeAt Go.RowKit Go.ChangeMaps P
set_option linter.unusedSimpArgs false
set_option linter.unusedVariables false
theorem wlab_of {l : List VLabel} (h1 : l.length ≤ reachBytes) (h2 : ∀ y ∈ l, WF_VLabel y) : WLab l := ⟨by unfold reachBytes at h1; omega, fun z hz => by
  have := h2 z hz
  unfold WF_VLabel at this
  unfold reachBytes at this
  exact ⟨by omega, by omega⟩⟩
theorem witem_of {z : VItem} (h : WF_VItem z) : WItem z := wlab_of h.2.1.1 h.2.1.2
theorem wshard_of {s : VShard} (h : WF_VShard s) : WShard s := ⟨by have := h.1.1; unfold reachBytes at this; omega, fun z hz => witem_of (h.1.2 z hz)⟩
set_option maxRecDepth 100000 in
theorem shardBegun_is (M : Nat) : law_shardBegun (M + 300) = some true := by kernel_rfl
theorem shardBegun_ev : Ev law_shardBegun true := ⟨300, fun N hN => by
  obtain ⟨M, rfl⟩ : ∃ M, N = M + 300 := ⟨N - 300, by omega⟩
  exact shardBegun_is M⟩
theorem shardChecks_ev (s : VShard) (hw : WShard s) : Ev (fun N => law_ShardChecks N s) true := by
  obtain ⟨N1, h1⟩ := shardBegun_ev
  obtain ⟨N2, h2⟩ := shardCheck_ev s hw
  obtain ⟨N3, h3⟩ := refShard_ev s hw
  refine ⟨max N1 (max N2 N3), fun N hN => ?_⟩
  have h1 := h1 N (by omega)
  have h2 := h2 N (by omega)
  have h3 := h3 N (by omega)
  simp only at h1 h2 h3
  show law_ShardChecks N s = _
  unfold law_ShardChecks
  rw [h1, Option.bind_some, h2, Option.bind_some, h3]
  simp
theorem shardChecks_walk (z : VShard) (hz : WF_VShard z) (v : Value) (w : World) (hr : Rel (allW w) (.ag (enc_VShard z)) v) : Calls Try.prog 6 #[v] w fun e w' => e = .returned (.bool true) ∧ Below w.heap.size w w' := by
  obtain ⟨N, hN⟩ := (shardChecks_ev z (wshard_of hz)).one
  have h := law_ShardChecks_ok z hN id
  refine calls_of_acalls (vs := [v]) (us := [.ag (enc_VShard z)]) h rfl fun i u x hu hx => ?_
  match i, hu, hx with
  | 0, hu, hx => simp at hu hx; subst hu hx; exact ⟨hr, rfl⟩
  | i + 1, hu, hx => simp at hu
set_option maxRecDepth 100000 in
theorem shardChecks_lifted (os : Os) (started : os.Started) (H : Type) (enc : TypeId × Value → H) :
    ReturnsInHanded {} Try.checked os 6 .any (Rows.shardChecksSpec.pre6 enc Try.prog Try.f6 Rows.shardChecksRow.domain false) (Rows.shardChecksSpec.post enc Try.prog Try.f6 false true false false) := by
  refine returnsInHanded_of_change_sized (C := Try.checked) Try.own started (by kernel_rfl) Try.func6
    (ChangeSpec.witness6 (enc := enc) (C := Try.checked) false ⟨#[], #[.agg #[.slice none 0 0, .int .i64 0, .int .i64 0, .int .i64 0, .int .i64 0, .int .i64 0, .int .i64 0]], []⟩ 8 (by kernel_rfl) (by kernel_rfl) (by kernel_rfl) (by kernel_rfl)) ?_
  intro W base args ds gs before hval0 hW _ hsz0 _
  have hsz : (DataW.weightsEach Try.prog (Try.f6.params.toList ++ Rows.shardChecksSpec.plain.varTypes Try.prog) (ds ++ gs)).all (· ≤ reachBytes) = true := hsz0
  have hval : ∀ (j : Nat) t v, Try.f6.params[j]? = some t → args[j]? = some v → Value.okWide Try.prog W .any base t v := hval0
  have hW' := hW
  obtain ⟨p, q, hA0, hV, rfl, _, _⟩ := hW
  have hA : DataW.TrodAll enc Try.prog W 0 (fun _ => true) true Try.f6.params.toList args.toList ds p := hA0
  clear hsz0 hval0 hA0
  rw [Try.params6] at hA hval hsz
  obtain ⟨v0, vs0, d0, ds0, p0, q0, hargs, rfl, rfl, h0, rr0⟩ := trodAll_cons hA
  obtain ⟨rfl, rfl, rfl⟩ := trodAll_nil rr0
  obtain rfl : args = #[v0] := by cases args; simp_all
  obtain ⟨rfl, rfl⟩ := trodVars_none hV
  have w0 : ∀ n ∈ d0.weights Try.prog 41, n ≤ reachBytes := fun n hn => of_decide_eq_true (List.all_eq_true.1 hsz n (DataW.weights_mem_each (j := 0) rfl rfl n hn))
  simp only [List.append_nil] at hW'
  have hlt := hW'.lt
  have hl0 : ∀ x ∈ p0, x.block < W.heap.size := fun x hx => by first | exact hlt x hx | (refine hlt x ?_; simp [hx])
  have k0 : ∀ W', Below W.heap.size W W' → DataW.Trod enc Try.prog W' 0 (fun b => decide (b < W.heap.size)) true 41 v0 d0 p0 := fun W' hb => Below.trod Try.laidOut (by kernel_rfl) (of_decide_eq_true (by kernel_rfl)) h0 hb hl0
  obtain ⟨a0, a0w, r0⟩ := arg_ag opn_VShard Try.underlying41 (hval 0 41 v0 rfl rfl) h0 w0
  refine (shardChecks_walk a0 a0w v0 W r0).mono fun e W' ⟨he, hb⟩ => ?_
  subst he
  exact ⟨_, rfl, _, _, _, [], _, [], hW', trodAll_cons_mk (shut_bool Try.underlying4 _) trodAll_mk0, (trodAll_cons_mk (k0 _ hb) trodAll_mk0), rfl, hb.frame _, fun h => by cases h⟩

/-- The law 'ShardChecks': it returns true, whatever it is handed. -/
theorem shardChecks_holds : Rows.ShardChecksSaid :=
  OpenClaim.holds_of_wide 6 Try.f6 rfl rfl rfl rfl rfl rfl rfl ⟨rfl, rfl, rfl, rfl, rfl⟩ rfl rfl rfl rfl rfl (by kernel_rfl) Try.func6 (by kernel_rfl)
    (of_decide_eq_true (by kernel_rfl)) (by unfold Func.isWrapper; first | (rw [if_pos (by decide +kernel)]; kernel_rfl) | (rw [if_neg (by decide +kernel)]; exact ⟨rfl, rfl⟩))
    (fun os started H enc _ => shardChecks_lifted os started H enc)
#print axioms shardChecks_holds
end Go.Proofs.Ytofidfkojmbdoaa
