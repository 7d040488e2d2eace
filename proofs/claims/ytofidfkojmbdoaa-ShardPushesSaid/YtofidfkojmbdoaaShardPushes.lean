/- It is proved that the law ShardPushes returns true and leaves its arguments as they read, whatever shard and item it is handed; there is no condition. -/
import Derived.Test.YtofidfkojmbdoaaEX
import Derived.Test.YtofidfkojmbdoaaHU
import Derived.Test.YtofidfkojmbdoaaFS2
import Derived.Test.YtofidfkojmbdoaaSB
namespace Go.Proofs.Ytofidfkojmbdoaa
open Go.ChangeShapes Go.WideShapes Go.ChangeAt Go.RowKit Go.ChangeMaps P
set_option linter.unusedSimpArgs false
set_option linter.unusedVariables false
theorem pushes15 (N n : Nat) (e : Int) (b : VShard) (hb : law_shardBegun N = some true) (hs : SmallI b.Items) (hN : 1001 ≤ N) : law_ShardPushes_R15 N n e e b b.Items b.Batch b.Room b.First b.Most b.Waits b.Till = some true := by
  unfold law_ShardPushes_R15
  rw [hb]
  simp only [Option.bind_some, cond_true, beq_self_eq_true]
  have := small_same N hs hN
  rw [show ({ Items := b.Items, Batch := b.Batch, Room := b.Room, First := b.First, Most := b.Most, Waits := b.Waits, Till := b.Till } : VShard) = b from rfl, this]; rfl
theorem pushes11_bad (N n : Nat) (e : Int) (he : e ≠ 0) (s : VShard) (i : VItem) (hb : law_shardBegun N = some true) (hN : 1001 ≤ N) : law_ShardPushes_R11 N n e e s i zShard = some true := by
  unfold law_ShardPushes_R11
  have : (e == 0) = false := by simpa using he
  rw [this, cond_false]
  exact pushes15 N n e zShard hb ⟨by simp [zShard], fun z hz => by simp [zShard] at hz⟩ hN
theorem pushes11_ok (N n : Nat) (s : VShard) (i : VItem) (hs : SmallI (s.Items ++ [i])) (hb : law_shardBegun N = some true) (hN : 1001 ≤ N) : law_ShardPushes_R11 N n 0 0 s i { s with Items := s.Items ++ [i] } = some true := by
  have hl := hs.1
  simp only [List.length_append, List.length_cons, List.length_nil] at hl
  unfold law_ShardPushes_R11
  rw [beq_self_eq_true, cond_true, appC_is (by simp; omega), Option.bind_some, List.nil_append, appC_is (by simp; omega), Option.bind_some]
  exact pushes15 N n 0 { s with Items := s.Items ++ [i] } hb hs hN
theorem shardPushes_ev (s : VShard) (i : VItem) (hw : WShard s) (hi : WItem i) : Ev (fun N => law_ShardPushes N s i) true := by
  obtain ⟨N0, h0⟩ := shardBegun_ev
  obtain ⟨N1, h1⟩ := push_ev s i hw hi
  obtain ⟨N2, h2⟩ := refShard_ev s hw
  obtain ⟨N3, h3⟩ := refCheckItem_ev i hi
  refine ⟨max N0 (max N1 (max N2 (max N3 1010))), fun N hN => ?_⟩
  have h0 := h0 N (by omega)
  have h1 := h1 N (by omega)
  have h2 := h2 N (by omega)
  have h3 := h3 N (by omega)
  simp only at h1 h2 h3
  have hN' : 1001 ≤ N := by omega
  show law_ShardPushes N s i = _
  unfold law_ShardPushes
  rw [h1, Option.bind_some, h2, Option.bind_some, h3]
  simp only [Option.bind_some]
  have bad : ∀ e, e ≠ 0 → pushE s i = e → law_ShardPushes_R11 N N (pushE s i) e s i (pushS s i) = some true := fun e he hE => by
    have hS : pushS s i = zShard := by unfold pushS; rw [if_pos (by rw [hE]; exact he)]
    rw [hE, hS]
    exact pushes11_bad N N e he s i h0 hN'
  unfold law_ShardPushes_R5
  by_cases hc : chkS s = 0
  · have hc1 : (chkS s == 0) = true := by simpa using hc
    rw [hc1, cond_true]
    by_cases hk : chkI i = 0
    · have hk1 : (chkI i != 0) = false := by simpa using hk
      rw [hk1, cond_false, hk]
      have hsm : SmallI (s.Items ++ [i]) := by
        obtain ⟨q1, q2⟩ := chkS_small hc
        refine ⟨by simp; omega, fun z hz => ?_⟩
        rcases List.mem_append.1 hz with hz | hz
        · have := q2 z hz; omega
        · simp at hz; subst hz; have := chkI_small hk; omega
      have fin : lastLe s.Items i = false → law_ShardPushes_R9 N N (pushE s i) 0 (s.Items.length : Int) s i (pushS s i) = some true := fun hlast => by
        have hE : pushE s i = if (s.Items.length : Int) = s.Room then 2 else 0 := by unfold pushE; simp [hc, hk, hlast]
        unfold law_ShardPushes_R9
        by_cases hr : (s.Items.length : Int) = s.Room
        · have : ((s.Items.length : Int) == s.Room) = true := by simpa using hr
          rw [if_pos hr] at hE
          rw [this, cond_true]
          exact bad 2 (by decide) hE
        · have : ((s.Items.length : Int) == s.Room) = false := by simpa using hr
          rw [if_neg hr] at hE
          have hS : pushS s i = { s with Items := s.Items ++ [i] } := by unfold pushS; rw [if_neg (by rw [hE]; simp)]
          rw [this, cond_false, hE, hS]
          exact pushes11_ok N N s i hsm h0 hN'
      by_cases hl : (s.Items.length : Int) > 0
      · have : decide ((s.Items.length : Int) > 0) = true := by simpa using hl
        obtain ⟨z, z1, z2⟩ := last_get hw.1 hl
        rw [this, cond_true, z2, Option.bind_some]
        by_cases hq : i.Number ≤ z.Number
        · have hq1 : decide (i.Number ≤ z.Number) = true := by simpa using hq
          have hE : pushE s i = 4 := by unfold pushE lastLe; simp [hc, hk, z1, hq]
          rw [hq1, cond_true]
          exact bad 4 (by decide) hE
        · have hq1 : decide (i.Number ≤ z.Number) = false := by simpa using hq
          rw [hq1, cond_false]
          exact fin (by unfold lastLe; rw [z1]; exact hq1)
      · have : decide ((s.Items.length : Int) > 0) = false := by simpa using hl
        rw [this, cond_false]
        refine fin ?_
        have h0 : s.Items = [] := List.length_eq_zero_iff.1 (by omega)
        rw [h0]; rfl
    · have hk1 : (chkI i != 0) = true := by simpa using hk
      have hE : pushE s i = chkI i := by unfold pushE; simp [hc, hk]
      rw [hk1, cond_true]
      exact bad _ hk hE
  · have hc1 : (chkS s == 0) = false := by simpa using hc
    have hc2 : (chkS s != 0) = true := by simpa using hc
    have hE : pushE s i = chkS s := by unfold pushE; simp [hc]
    rw [hc1, cond_false, hc2, cond_true]
    exact bad _ hc hE
theorem shardPushes_walk (z : VShard) (y : VItem) (hz : WF_VShard z) (hy : WF_VItem y) (v u : Value) (w : World) (hr : Rel (allW w) (.ag (enc_VShard z)) v) (hr' : Rel (allW w) (.ag (enc_VItem y)) u) : Calls Try.prog 7 #[v, u] w fun e w' => e = .returned (.bool true) ∧ Below w.heap.size w w' := by
  obtain ⟨N, hN⟩ := (shardPushes_ev z y (wshard_of hz) (witem_of hy)).one
  have h := law_ShardPushes_ok z y hN id
  refine calls_of_acalls (vs := [v, u]) (us := [.ag (enc_VShard z), .ag (enc_VItem y)]) h rfl fun i u x hu hx => ?_
  match i, hu, hx with
  | 0, hu, hx => simp at hu hx; subst hu hx; exact ⟨hr, rfl⟩
  | 1, hu, hx => simp at hu hx; subst hu hx; exact ⟨hr', rfl⟩
  | i + 2, hu, hx => simp at hu
set_option maxRecDepth 100000 in
theorem shardPushes_lifted (os : Os) (started : os.Started) (H : Type) (enc : TypeId × Value → H) :
    ReturnsInHanded {} Try.checked os 7 .any (Rows.shardPushesSpec.pre6 enc Try.prog Try.f7 Rows.shardPushesRow.domain false) (Rows.shardPushesSpec.post enc Try.prog Try.f7 false true false false) := by
  refine returnsInHanded_of_change_sized (C := Try.checked) Try.own started (by kernel_rfl) Try.func7
    (ChangeSpec.witness6 (enc := enc) (C := Try.checked) false ⟨#[], #[.agg #[.slice none 0 0, .int .i64 0, .int .i64 0, .int .i64 0, .int .i64 0, .int .i64 0, .int .i64 0], .agg #[.int .i64 0, .slice none 0 0, .int .i64 0, .int .u64 0]], []⟩ 8 (by kernel_rfl) (by kernel_rfl) (by kernel_rfl) (by kernel_rfl)) ?_
  intro W base args ds gs before hval0 hW _ hsz0 _
  have hsz : (DataW.weightsEach Try.prog (Try.f7.params.toList ++ Rows.shardPushesSpec.plain.varTypes Try.prog) (ds ++ gs)).all (· ≤ reachBytes) = true := hsz0
  have hval : ∀ (j : Nat) t v, Try.f7.params[j]? = some t → args[j]? = some v → Value.okWide Try.prog W .any base t v := hval0
  have hW' := hW
  obtain ⟨p, q, hA0, hV, rfl, _, _⟩ := hW
  have hA : DataW.TrodAll enc Try.prog W 0 (fun _ => true) true Try.f7.params.toList args.toList ds p := hA0
  clear hsz0 hval0 hA0
  rw [Try.params7] at hA hval hsz
  obtain ⟨v0, vs0, d0, ds0, p0, q0, hargs, rfl, rfl, h0, rr0⟩ := trodAll_cons hA
  obtain ⟨v1, vs1, d1, ds1, p1, q1, rfl, rfl, rfl, h1, rr1⟩ := trodAll_cons rr0
  obtain ⟨rfl, rfl, rfl⟩ := trodAll_nil rr1
  obtain rfl : args = #[v0, v1] := by cases args; simp_all
  obtain ⟨rfl, rfl⟩ := trodVars_none hV
  have w0 : ∀ n ∈ d0.weights Try.prog 41, n ≤ reachBytes := fun n hn => of_decide_eq_true (List.all_eq_true.1 hsz n (DataW.weights_mem_each (j := 0) rfl rfl n hn))
  have w1 : ∀ n ∈ d1.weights Try.prog 49, n ≤ reachBytes := fun n hn => of_decide_eq_true (List.all_eq_true.1 hsz n (DataW.weights_mem_each (j := 1) rfl rfl n hn))
  simp only [List.append_nil] at hW'
  have hlt := hW'.lt
  have hl0 : ∀ x ∈ p0, x.block < W.heap.size := fun x hx => by first | exact hlt x hx | (refine hlt x ?_; simp [hx])
  have k0 : ∀ W', Below W.heap.size W W' → DataW.Trod enc Try.prog W' 0 (fun b => decide (b < W.heap.size)) true 41 v0 d0 p0 := fun W' hb => Below.trod Try.laidOut (by kernel_rfl) (of_decide_eq_true (by kernel_rfl)) h0 hb hl0
  have hl1 : ∀ x ∈ p1, x.block < W.heap.size := fun x hx => by first | exact hlt x hx | (refine hlt x ?_; simp [hx])
  have k1 : ∀ W', Below W.heap.size W W' → DataW.Trod enc Try.prog W' 0 (fun b => decide (b < W.heap.size)) true 49 v1 d1 p1 := fun W' hb => Below.trod Try.laidOut (by kernel_rfl) (of_decide_eq_true (by kernel_rfl)) h1 hb hl1
  obtain ⟨a0, a0w, r0⟩ := arg_ag opn_VShard Try.underlying41 (hval 0 41 v0 rfl rfl) h0 w0
  obtain ⟨a1, a1w, r1⟩ := arg_ag opn_VItem Try.underlying49 (hval 1 49 v1 rfl rfl) h1 w1
  refine (shardPushes_walk a0 a1 a0w a1w v0 v1 W r0 r1).mono fun e W' ⟨he, hb⟩ => ?_
  subst he
  exact ⟨_, rfl, _, _, _, [], _, [], hW', trodAll_cons_mk (shut_bool Try.underlying4 _) trodAll_mk0, (trodAll_cons_mk (k0 _ hb) (trodAll_cons_mk (k1 _ hb) trodAll_mk0)), rfl, hb.frame _, fun h => by cases h⟩

/-- The law 'ShardPushes': it returns true, whatever it is handed. -/
theorem shardPushes_holds : Rows.ShardPushesSaid :=
  OpenClaim.holds_of_wide 7 Try.f7 rfl rfl rfl rfl rfl rfl rfl ⟨rfl, rfl, rfl, rfl, rfl⟩ rfl rfl rfl rfl rfl (by kernel_rfl) Try.func7 (by kernel_rfl)
    (of_decide_eq_true (by kernel_rfl)) (by unfold Func.isWrapper; first | (rw [if_pos (by decide +kernel)]; kernel_rfl) | (rw [if_neg (by decide +kernel)]; exact ⟨rfl, rfl⟩))
    (fun os started H enc _ => shardPushes_lifted os started H enc)
#print axioms shardPushes_holds
end Go.Proofs.Ytofidfkojmbdoaa
