/- It is proved that the law ShardWhich returns true and leaves its arguments as they read, whatever labels and number it is handed; there is no condition. -/
import Derived.Test.YtofidfkojmbdoaaE5
import Derived.Test.YtofidfkojmbdoaaHU
import Derived.Test.YtofidfkojmbdoaaFS3
import Derived.Test.YtofidfkojmbdoaaSB
namespace Go.Proofs.Ytofidfkojmbdoaa
open Go.ChangeShapes Go.WideShapes Go.ChangeAt Go.RowKit Go.ChangeMaps P
set_option linter.unusedSimpArgs false
set_option linter.unusedVariables false
theorem rem_wrap {s k : Nat} (hk : 1 ≤ k) (hk8 : k ≤ 8) : remC (s : Int) (IntKind.wrap .u64 (k : Int)) = some ((s % k : Nat) : Int) := by
  rw [wuE (by omega) (by omega), remN (by omega)]
theorem which_ok (N n : Nat) (a e : Int) (hb : law_shardBegun N = some true) : law_ShardWhich_R8 N n a e e a = some true := by
  unfold law_ShardWhich_R8
  rw [hb]
  simp
theorem shardWhich_ev (l : List VLabel) (k : Int) (hw : WLab l) : Ev (fun N => law_ShardWhich N l k) true := by
  obtain ⟨N0, h0⟩ := shardBegun_ev
  obtain ⟨N1, h1⟩ := psumAll_ev l hw
  obtain ⟨N2, h2⟩ := refCheck_ev l hw
  obtain ⟨N3, h3⟩ := refSum_ev l hw
  refine ⟨max N0 (max N1 (max N2 N3)), fun N hN => ?_⟩
  have h0 := h0 N (by omega)
  have h1 := h1 N (by omega)
  have h2 := h2 N (by omega)
  have h3 := h3 N (by omega)
  simp only at h0 h1 h2 h3
  show law_ShardWhich N l k = _
  unfold law_ShardWhich shard_Which
  rw [within_is]
  simp only [Option.bind_some]
  by_cases hk : 1 ≤ k ∧ k ≤ 8
  · obtain ⟨m, rfl⟩ : ∃ m : Nat, k = (m : Int) := ⟨k.toNat, by omega⟩
    have hwi : withinB (m : Int) 1 8 = true := by unfold withinB; simp; omega
    have hm1 : 1 ≤ m := by omega
    have hm8 : m ≤ 8 := by omega
    have e1 : decide ((m : Int) < 1) = false := by simp; omega
    have e2 : decide ((m : Int) > 8) = false := by simp; omega
    rw [hwi, Bool.not_true, cond_false, h1]
    simp only [Option.bind_some]
    by_cases hc : chkL l = 0
    · rw [if_pos hc, rem_wrap hm1 hm8]
      simp only [Option.bind_some]
      rw [e1, cond_false, e2, cond_false, h2, Option.bind_some, hc]
      simp only [beq_self_eq_true, cond_true]
      rw [h3, Option.bind_some, rem_wrap hm1 hm8, Option.bind_some]
      exact which_ok N N _ _ h0
    · have e3 : (chkL l == 0) = false := by simpa using hc
      rw [if_neg hc, show (0 : Int) = ((0 : Nat) : Int) from rfl, rem_wrap hm1 hm8]
      simp only [Option.bind_some]
      have e4 : w64 ((0 % m : Nat) : Int) = 0 := by rw [Nat.zero_mod]; rfl
      rw [e4, ← show (0 : Int) = ((0 : Nat) : Int) from rfl, e1, cond_false, e2, cond_false, h2, Option.bind_some, e3, cond_false]
      exact which_ok N N _ _ h0
  · have hwi : withinB k 1 8 = false := by unfold withinB; simp; omega
    rw [hwi, Bool.not_false, cond_true]
    simp only [Option.bind_some]
    have r4 : law_ShardWhich_R4 N N l k 0 3 0 = some true := by
      unfold law_ShardWhich_R4
      exact which_ok N N 0 3 h0
    by_cases h : k < 1
    · have : decide (k < 1) = true := by simpa using h
      rw [this, cond_true]; exact r4
    · have e1 : decide (k < 1) = false := by simpa using h
      have e2 : decide (k > 8) = true := by simp; omega
      rw [e1, cond_false, e2, cond_true]; exact r4
theorem shardWhich_walk (z : List VLabel) (k : Int) (hz : z.length ≤ reachBytes ∧ ∀ y ∈ z, WF_VLabel y) (v : Value) (w : World) (hr : Rel (allW w) (.sl false 2 (z.map enc_VLabel)) v) : Calls Try.prog 12 #[v, .int .i64 k] w fun e w' => e = .returned (.bool true) ∧ Below w.heap.size w w' := by
  obtain ⟨N, hN⟩ := (shardWhich_ev z k (wlab_of hz.1 hz.2)).one
  have h := law_ShardWhich_ok z k hN id
  refine calls_of_acalls (vs := [v, .int .i64 k]) (us := [.sl false 2 (z.map enc_VLabel), .v (.int .i64 k)]) h rfl fun i u x hu hx => ?_
  match i, hu, hx with
  | 0, hu, hx => simp at hu hx; subst hu hx; exact ⟨hr, rfl⟩
  | 1, hu, hx => simp at hu hx; subst hu hx; exact ⟨.v _, rfl⟩
  | i + 2, hu, hx => simp at hu
set_option maxRecDepth 100000 in
theorem shardWhich_lifted (os : Os) (started : os.Started) (H : Type) (enc : TypeId × Value → H) :
    ReturnsInHanded {} Try.checked os 12 .any (Rows.shardWhichSpec.pre6 enc Try.prog Try.f12 Rows.shardWhichRow.domain false) (Rows.shardWhichSpec.post enc Try.prog Try.f12 false true false false) := by
  refine returnsInHanded_of_change_sized (C := Try.checked) Try.own started (by kernel_rfl) Try.func12
    (ChangeSpec.witness6 (enc := enc) (C := Try.checked) false ⟨#[], #[.slice none 0 0, .int .i64 0], []⟩ 8 (by kernel_rfl) (by kernel_rfl) (by kernel_rfl) (by kernel_rfl)) ?_
  intro W base args ds gs before hval0 hW _ hsz0 _
  have hsz : (DataW.weightsEach Try.prog (Try.f12.params.toList ++ Rows.shardWhichSpec.plain.varTypes Try.prog) (ds ++ gs)).all (· ≤ reachBytes) = true := hsz0
  have hval : ∀ (j : Nat) t v, Try.f12.params[j]? = some t → args[j]? = some v → Value.okWide Try.prog W .any base t v := hval0
  have hW' := hW
  obtain ⟨p, q, hA0, hV, rfl, _, _⟩ := hW
  have hA : DataW.TrodAll enc Try.prog W 0 (fun _ => true) true Try.f12.params.toList args.toList ds p := hA0
  clear hsz0 hval0 hA0
  rw [Try.params12] at hA hval hsz
  obtain ⟨v0, vs0, d0, ds0, p0, q0, hargs, rfl, rfl, h0, rr0⟩ := trodAll_cons hA
  obtain ⟨v1, vs1, d1, ds1, p1, q1, rfl, rfl, rfl, h1, rr1⟩ := trodAll_cons rr0
  obtain ⟨rfl, rfl, rfl⟩ := trodAll_nil rr1
  obtain rfl : args = #[v0, v1] := by cases args; simp_all
  obtain ⟨rfl, rfl⟩ := trodVars_none hV
  have w0 : ∀ n ∈ d0.weights Try.prog 44, n ≤ reachBytes := fun n hn => of_decide_eq_true (List.all_eq_true.1 hsz n (DataW.weights_mem_each (j := 0) rfl rfl n hn))
  have w1 : ∀ n ∈ d1.weights Try.prog 3, n ≤ reachBytes := fun n hn => of_decide_eq_true (List.all_eq_true.1 hsz n (DataW.weights_mem_each (j := 1) rfl rfl n hn))
  simp only [List.append_nil] at hW'
  have hlt := hW'.lt
  have hl0 : ∀ x ∈ p0, x.block < W.heap.size := fun x hx => by first | exact hlt x hx | (refine hlt x ?_; simp [hx])
  have k0 : ∀ W', Below W.heap.size W W' → DataW.Trod enc Try.prog W' 0 (fun b => decide (b < W.heap.size)) true 44 v0 d0 p0 := fun W' hb => Below.trod Try.laidOut (by kernel_rfl) (of_decide_eq_true (by kernel_rfl)) h0 hb hl0
  have hl1 : ∀ x ∈ p1, x.block < W.heap.size := fun x hx => by first | exact hlt x hx | (refine hlt x ?_; simp [hx])
  have k1 : ∀ W', Below W.heap.size W W' → DataW.Trod enc Try.prog W' 0 (fun b => decide (b < W.heap.size)) true 3 v1 d1 p1 := fun W' hb => Below.trod Try.laidOut (by kernel_rfl) (of_decide_eq_true (by kernel_rfl)) h1 hb hl1
  obtain ⟨a0, a0w, r0⟩ := arg_sl opn_sl__api_Label Try.underlying44 (hval 0 44 v0 rfl rfl) h0 w0
  obtain ⟨a1, rfl, rfl, rfl, x1⟩ := open_int Try.underlying3 (hval 1 3 v1 rfl rfl) h1
  have a1w := i64_of_wf x1
  refine (shardWhich_walk a0 a1 a0w v0 W r0).mono fun e W' ⟨he, hb⟩ => ?_
  subst he
  exact ⟨_, rfl, _, _, _, [], _, [], hW', trodAll_cons_mk (shut_bool Try.underlying4 _) trodAll_mk0, (trodAll_cons_mk (k0 _ hb) (trodAll_cons_mk (k1 _ hb) trodAll_mk0)), rfl, hb.frame _, fun h => by cases h⟩

/-- The law 'ShardWhich': it returns true, whatever it is handed. -/
theorem shardWhich_holds : Rows.ShardWhichSaid :=
  OpenClaim.holds_of_wide 12 Try.f12 rfl rfl rfl rfl rfl rfl rfl ⟨rfl, rfl, rfl, rfl, rfl⟩ rfl rfl rfl rfl rfl (by kernel_rfl) Try.func12 (by kernel_rfl)
    (of_decide_eq_true (by kernel_rfl)) (by unfold Func.isWrapper; first | (rw [if_pos (by decide +kernel)]; kernel_rfl) | (rw [if_neg (by decide +kernel)]; exact ⟨rfl, rfl⟩))
    (fun os started H enc _ => shardWhich_lifted os started H enc)
#print axioms shardWhich_holds
end Go.Proofs.Ytofidfkojmbdoaa
