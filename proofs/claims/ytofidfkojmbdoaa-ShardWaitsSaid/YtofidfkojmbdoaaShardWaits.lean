/- It is proved that the law ShardWaits returns true and leaves its arguments as they read, whatever shard and time it is handed; there is no condition. -/
import Derived.Test.YtofidfkojmbdoaaE3
import Derived.Test.YtofidfkojmbdoaaFS2
namespace Go.Proofs.Ytofidfkojmbdoaa
open Go.ChangeShapes Go.WideShapes Go.ChangeAt Go.RowKit Go.ChangeMaps P
set_option linter.unusedSimpArgs false
set_option linter.unusedVariables false
/-- The shard and the time after so many silences. -/
def waitS (s : VShard) (now : Int) : Nat → VShard × Int
  | 0 => (s, now)
  | i + 1 => (lateS (waitS s now i).1 (waitS s now i).2, laterT (waitS s now i).1 (waitS s now i).2)
theorem wait_items (s : VShard) (now : Int) : ∀ i, (waitS s now i).1.Items = s.Items
  | 0 => rfl
  | i + 1 => wait_items s now i
theorem later_room {s : VShard} {now : Int} (h : rightB s = true) (hn : timeB now = true) : now ≤ laterT s now ∧ laterT s now ≤ 9007199254740991 ∧ -9007199254740991 ≤ laterT s now := by
  have h1 := longer_room h
  have h2 := timeB_room hn
  unfold laterT
  split <;> omega
theorem longer_more {s : VShard} (h : rightB s = true) : s.First ≤ longerW s ∧ longerW s ≤ s.Most ∧ s.Waits ≤ longerW s := by
  have := right_room h
  unfold longerW
  split
  · omega
  · split <;> omega
theorem late_right {s : VShard} {now : Int} (h : chkN s now = 0) : chkS (lateS s now) = 0 := by
  obtain ⟨q1, q2, q3⟩ := chkN_right h
  obtain ⟨h1, h2, h3, h4⟩ := chkS_right q1
  have hm := longer_more h1
  have ht := later_room h1 q2
  have hr : rightB (lateS s now) = true := by
    unfold rightB at h1 ⊢
    simp only [Bool.and_eq_true] at h1 ⊢
    refine ⟨⟨⟨⟨⟨h1.1.1.1.1.1, h1.1.1.1.1.2⟩, h1.1.1.1.2⟩, h1.1.1.2⟩, ?_⟩, ?_⟩
    · have : withinB (longerW s) s.First s.Most = true := by
        unfold withinB
        simp only [Bool.and_eq_true, decide_eq_true_eq]; omega
      show (decide (longerW s = 0) || withinB (longerW s) s.First s.Most) = true
      rw [this]; simp
    · show timeB (laterT s now) = true
      unfold timeB
      simp only [Bool.and_eq_true, decide_eq_true_eq]; omega
  unfold chkS
  rw [hr]
  show (if true = false then (3 : Int) else if ((s.Items.length : Nat) : Int) > s.Room then 2 else (firstE s.Items).getD (if risB s.Items then 0 else 4)) = 0
  rw [if_neg (by decide), if_neg (by omega), h3, h4]; rfl
theorem late_ok {s : VShard} {now : Int} (h : chkN s now = 0) : chkN (lateS s now) (laterT s now) = 0 := by
  have hl := late_right h
  obtain ⟨q1, q2, q3⟩ := chkN_right h
  have ht := later_room (chkS_right q1).1 q2
  have hB : timeB (laterT s now) = true := by
    unfold timeB
    simp only [Bool.and_eq_true, decide_eq_true_eq]; omega
  unfold chkN
  rw [if_neg (by omega), if_neg (by rw [hB]; decide), if_neg (show ¬ (lateS s now).Till > laterT s now from fun e => by
    have : laterT s now > laterT s now := e
    omega)]
theorem wait_ok {s : VShard} {now : Int} (h : chkN s now = 0) : ∀ i, chkN (waitS s now i).1 (waitS s now i).2 = 0
  | 0 => h
  | i + 1 => late_ok (wait_ok h i)
theorem wait_grows {s : VShard} {now : Int} (h : chkN s now = 0) : ∀ i, (waitS s now (i + 1)).1.Waits = (waitS s now (i + 1)).1.Most ∨ ((2 ^ i : Nat) : Int) ≤ (waitS s now (i + 1)).1.Waits
  | 0 => .inr (by
    have := longer_room (chkS_right (chkN_right h).1).1
    show ((1 : Nat) : Int) ≤ longerW s
    omega)
  | i + 1 => by
    have ih := wait_grows h i
    have hr := right_room (chkS_right (chkN_right (wait_ok h (i + 1))).1).1
    have hp : 1 ≤ 2 ^ i := Nat.one_le_two_pow
    have h2 : 2 ^ (i + 1) = 2 * 2 ^ i := by rw [Nat.pow_succ]; omega
    show longerW (waitS s now (i + 1)).1 = (waitS s now (i + 1)).1.Most ∨ ((2 ^ (i + 1) : Nat) : Int) ≤ longerW (waitS s now (i + 1)).1
    rw [h2]
    generalize 2 ^ i = p at ih hp
    generalize (waitS s now (i + 1)).1 = x at ih hr
    unfold longerW
    split
    · omega
    · split <;> omega
theorem wait_evs (s : VShard) (now : Int) (hw : WS2 s) : ∃ N0, ∀ N, N0 ≤ N → ∀ i ≤ 30, shard_Done N (waitS s now i).1 (waitS s now i).2 0 = some (doneS (waitS s now i).1 (waitS s now i).2 0, doneE (waitS s now i).1 (waitS s now i).2 0) ∧ shard_Check N (waitS s now i).1 = some (chkS (waitS s now i).1) := by
  have hwi : ∀ i, WS2 (waitS s now i).1 := fun i => ⟨⟨by rw [wait_items]; exact hw.1.1, by rw [wait_items]; exact hw.1.2⟩, by rw [wait_items]; exact hw.2⟩
  obtain ⟨N2, h2⟩ := ev_all' (f := fun N i => shard_Done N (waitS s now i).1 (waitS s now i).2 0) (g := fun i => (doneS (waitS s now i).1 (waitS s now i).2 0, doneE (waitS s now i).1 (waitS s now i).2 0)) (List.range 31) fun i _ => done_ev _ _ 0 (hwi i)
  obtain ⟨N3, h3⟩ := ev_all' (f := fun N i => shard_Check N (waitS s now i).1) (g := fun i => chkS (waitS s now i).1) (List.range 31) fun i _ => shardCheck_ev _ (hwi i).1
  refine ⟨max N2 N3, fun N hN i hi => ?_⟩
  have hm : i ∈ List.range 31 := List.mem_range.2 (by omega)
  exact ⟨h2 N (by omega) i hm, h3 N (by omega) i hm⟩
theorem wait_done {s : VShard} {now : Int} (h : chkN s now = 0) (hi : s.Items ≠ []) : doneE s now 0 = 0 ∧ doneS s now 0 = lateS s now := by
  have hE : doneE s now 0 = 0 := by
    unfold doneE
    rw [if_neg (by omega), if_neg (by decide), if_neg hi]
  refine ⟨hE, ?_⟩
  unfold doneS
  rw [hE, if_neg (by decide), if_neg (by decide)]
theorem waits_loop (N : Nat) (s : VShard) (now : Int) (hN : 1500 ≤ N) (h : chkN s now = 0) (hi : s.Items ≠ [])
    (hf : ∀ i ≤ 30, shard_Done N (waitS s now i).1 (waitS s now i).2 0 = some (doneS (waitS s now i).1 (waitS s now i).2 0, doneE (waitS s now i).1 (waitS s now i).2 0) ∧ shard_Check N (waitS s now i).1 = some (chkS (waitS s now i).1)) :
    ∀ (j i m : Nat), i + j = 30 → j < m → law_ShardWaits_L4 N m (waitS s now i).2 (i : Int) (waitS s now i).1 = some true
  | j, i, 0, _, hm => by omega
  | 0, i, m + 1, hij, _ => by
    obtain rfl : i = 30 := by omega
    unfold law_ShardWaits_L4
    rw [decide_eq_false (by omega), cond_false]
    have hg := wait_grows h 29
    have hr := right_room (chkS_right (chkN_right (wait_ok h 30)).1).1
    have hE : (waitS s now 30).1.Waits = (waitS s now 30).1.Most := by
      rcases hg with hg | hg
      · exact hg
      · exfalso
        have h30 : ((2 ^ 29 : Nat) : Int) = 536870912 := by decide
        rw [h30] at hg
        have hg' : 536870912 ≤ (waitS s now 30).1.Waits := hg
        omega
    rw [hE, beq_self_eq_true]
  | j + 1, i, m + 1, hij, hm => by
    have ih := waits_loop N s now hN h hi hf j (i + 1) m (by omega) (by omega)
    have hk := wait_ok h i
    obtain ⟨q1, q2, q3⟩ := chkN_right hk
    have hr := (chkS_right q1).1
    have hit : (waitS s now i).1.Items ≠ [] := by rw [wait_items]; exact hi
    obtain ⟨d1, d2⟩ := wait_done hk hit
    have hnext : waitS s now (i + 1) = (lateS (waitS s now i).1 (waitS s now i).2, laterT (waitS s now i).1 (waitS s now i).2) := rfl
    have hmore := longer_more hr
    have htime := later_room hr q2
    have hc2 := (hf (i + 1) (by omega)).2
    rw [hnext] at hc2 ih
    have hl := late_right hk
    have hs := small_of q1
    have hsl := hs.1
    simp only at hc2 ih
    rw [hl] at hc2
    have hsame : ref_SameItems N (waitS s now i).1.Items (waitS s now i).1.Items = some true := sameI_is N _ (by omega) (fun z hz => by have := hs.2 z hz; omega) (by omega)
    unfold law_ShardWaits_L4
    rw [decide_eq_true (show (i : Int) < 30 by omega), cond_true, (hf i (by omega)).1, Option.bind_some, d1, d2]
    simp only [bne_self_eq_false, cond_false]
    rw [show decide ((lateS (waitS s now i).1 (waitS s now i).2).Waits < (lateS (waitS s now i).1 (waitS s now i).2).First) = false from decide_eq_false (show ¬ longerW (waitS s now i).1 < (waitS s now i).1.First by omega), cond_false,
      show decide ((lateS (waitS s now i).1 (waitS s now i).2).Waits > (lateS (waitS s now i).1 (waitS s now i).2).Most) = false from decide_eq_false (show ¬ longerW (waitS s now i).1 > (waitS s now i).1.Most by omega), cond_false,
      show decide ((lateS (waitS s now i).1 (waitS s now i).2).Waits < (waitS s now i).1.Waits) = false from decide_eq_false (show ¬ longerW (waitS s now i).1 < (waitS s now i).1.Waits by omega), cond_false,
      show decide ((lateS (waitS s now i).1 (waitS s now i).2).Till < (waitS s now i).2) = false from decide_eq_false (show ¬ laterT (waitS s now i).1 (waitS s now i).2 < (waitS s now i).2 by omega), cond_false,
      show decide ((lateS (waitS s now i).1 (waitS s now i).2).Till > 9007199254740991) = false from decide_eq_false (show ¬ laterT (waitS s now i).1 (waitS s now i).2 > 9007199254740991 by omega), cond_false,
      show (lateS (waitS s now i).1 (waitS s now i).2).Items = (waitS s now i).1.Items from rfl, hsame, Option.bind_some]
    simp only [Bool.not_true, cond_false]
    rw [hc2, Option.bind_some]
    simp only [bne_self_eq_false, cond_false]
    rw [w64_id (n := (i : Int) + 1) (by omega) (by omega), show (i : Int) + 1 = ((i + 1 : Nat) : Int) by omega]
    exact ih
theorem shardWaits_ev (s : VShard) (now : Int) (hw : WS2 s) : Ev (fun N => law_ShardWaits N s now) true := by
  obtain ⟨N0, h0⟩ := shardBegun_ev
  obtain ⟨N1, h1⟩ := wait_evs s now hw
  refine ⟨max N0 (max N1 1500), fun N hN => ?_⟩
  have h0 := h0 N (by omega)
  have h1 := h1 N (by omega)
  show law_ShardWaits N s now = _
  unfold law_ShardWaits
  rw [h0, Option.bind_some]
  simp only [Bool.not_true, cond_false]
  by_cases hE : doneE s now 0 = 0
  · have hc : chkN s now = 0 := by
      unfold doneE at hE
      by_cases hc : chkN s now = 0
      · exact hc
      · rw [if_pos hc] at hE; exact absurd hE hc
    have hi : s.Items ≠ [] := by
      intro hi
      unfold doneE at hE
      rw [if_neg (by omega), if_neg (by decide), if_pos hi] at hE
      cases hE
    exact waits_loop N s now (by omega) hc hi h1 30 0 N rfl (by omega)
  · obtain ⟨M, hM⟩ : ∃ M, N = M + 1 := ⟨N - 1, by omega⟩
    have hd := (h1 0 (by omega)).1
    have hd : shard_Done N s now 0 = some (doneS s now 0, doneE s now 0) := hd
    rw [hM]
    unfold law_ShardWaits_L4
    rw [← hM, hd]
    have : (doneE s now 0 != 0) = true := by simpa using hE
    simp only [Option.bind_some, this, cond_true]
    rfl
theorem shardWaits_walk (z : VShard) (n : Int) (hz : WF_VShard z) (v : Value) (w : World) (hr : Rel (allW w) (.ag (enc_VShard z)) v) : Calls Try.prog 11 #[v, .int .i64 n] w fun e w' => e = .returned (.bool true) ∧ Below w.heap.size w w' := by
  obtain ⟨N, hN⟩ := (shardWaits_ev z n (wshard2_of hz)).one
  have h := law_ShardWaits_ok z n hN id
  refine calls_of_acalls (vs := [v, .int .i64 n]) (us := [.ag (enc_VShard z), .v (.int .i64 n)]) h rfl fun i u x hu hx => ?_
  match i, hu, hx with
  | 0, hu, hx => simp at hu hx; subst hu hx; exact ⟨hr, rfl⟩
  | 1, hu, hx => simp at hu hx; subst hu hx; exact ⟨.v _, rfl⟩
  | i + 2, hu, hx => simp at hu
set_option maxRecDepth 100000 in
theorem shardWaits_lifted (os : Os) (started : os.Started) (H : Type) (enc : TypeId × Value → H) :
    ReturnsInHanded {} Try.checked os 11 .any (Rows.shardWaitsSpec.pre6 enc Try.prog Try.f11 Rows.shardWaitsRow.domain false) (Rows.shardWaitsSpec.post enc Try.prog Try.f11 false true false false) := by
  refine returnsInHanded_of_change_sized (C := Try.checked) Try.own started (by kernel_rfl) Try.func11
    (ChangeSpec.witness6 (enc := enc) (C := Try.checked) false ⟨#[], #[.agg #[.slice none 0 0, .int .i64 0, .int .i64 0, .int .i64 0, .int .i64 0, .int .i64 0, .int .i64 0], .int .i64 0], []⟩ 8 (by kernel_rfl) (by kernel_rfl) (by kernel_rfl) (by kernel_rfl)) ?_
  intro W base args ds gs before hval0 hW _ hsz0 _
  have hsz : (DataW.weightsEach Try.prog (Try.f11.params.toList ++ Rows.shardWaitsSpec.plain.varTypes Try.prog) (ds ++ gs)).all (· ≤ reachBytes) = true := hsz0
  have hval : ∀ (j : Nat) t v, Try.f11.params[j]? = some t → args[j]? = some v → Value.okWide Try.prog W .any base t v := hval0
  have hW' := hW
  obtain ⟨p, q, hA0, hV, rfl, _, _⟩ := hW
  have hA : DataW.TrodAll enc Try.prog W 0 (fun _ => true) true Try.f11.params.toList args.toList ds p := hA0
  clear hsz0 hval0 hA0
  rw [Try.params11] at hA hval hsz
  obtain ⟨v0, vs0, d0, ds0, p0, q0, hargs, rfl, rfl, h0, rr0⟩ := trodAll_cons hA
  obtain ⟨v1, vs1, d1, ds1, p1, q1, rfl, rfl, rfl, h1, rr1⟩ := trodAll_cons rr0
  obtain ⟨rfl, rfl, rfl⟩ := trodAll_nil rr1
  obtain rfl : args = #[v0, v1] := by cases args; simp_all
  obtain ⟨rfl, rfl⟩ := trodVars_none hV
  have w0 : ∀ n ∈ d0.weights Try.prog 41, n ≤ reachBytes := fun n hn => of_decide_eq_true (List.all_eq_true.1 hsz n (DataW.weights_mem_each (j := 0) rfl rfl n hn))
  have w1 : ∀ n ∈ d1.weights Try.prog 3, n ≤ reachBytes := fun n hn => of_decide_eq_true (List.all_eq_true.1 hsz n (DataW.weights_mem_each (j := 1) rfl rfl n hn))
  simp only [List.append_nil] at hW'
  have hlt := hW'.lt
  have hl0 : ∀ x ∈ p0, x.block < W.heap.size := fun x hx => by first | exact hlt x hx | (refine hlt x ?_; simp [hx])
  have k0 : ∀ W', Below W.heap.size W W' → DataW.Trod enc Try.prog W' 0 (fun b => decide (b < W.heap.size)) true 41 v0 d0 p0 := fun W' hb => Below.trod Try.laidOut (by kernel_rfl) (of_decide_eq_true (by kernel_rfl)) h0 hb hl0
  have hl1 : ∀ x ∈ p1, x.block < W.heap.size := fun x hx => by first | exact hlt x hx | (refine hlt x ?_; simp [hx])
  have k1 : ∀ W', Below W.heap.size W W' → DataW.Trod enc Try.prog W' 0 (fun b => decide (b < W.heap.size)) true 3 v1 d1 p1 := fun W' hb => Below.trod Try.laidOut (by kernel_rfl) (of_decide_eq_true (by kernel_rfl)) h1 hb hl1
  obtain ⟨a0, a0w, r0⟩ := arg_ag opn_VShard Try.underlying41 (hval 0 41 v0 rfl rfl) h0 w0
  obtain ⟨a1, rfl, rfl, rfl, x1⟩ := open_int Try.underlying3 (hval 1 3 v1 rfl rfl) h1
  have a1w := i64_of_wf x1
  refine (shardWaits_walk a0 a1 a0w v0 W r0).mono fun e W' ⟨he, hb⟩ => ?_
  subst he
  exact ⟨_, rfl, _, _, _, [], _, [], hW', trodAll_cons_mk (shut_bool Try.underlying4 _) trodAll_mk0, (trodAll_cons_mk (k0 _ hb) (trodAll_cons_mk (k1 _ hb) trodAll_mk0)), rfl, hb.frame _, fun h => by cases h⟩

/-- The law 'ShardWaits': it returns true, whatever it is handed. -/
theorem shardWaits_holds : Rows.ShardWaitsSaid :=
  OpenClaim.holds_of_wide 11 Try.f11 rfl rfl rfl rfl rfl rfl rfl ⟨rfl, rfl, rfl, rfl, rfl⟩ rfl rfl rfl rfl rfl (by kernel_rfl) Try.func11 (by kernel_rfl)
    (of_decide_eq_true (by kernel_rfl)) (by unfold Func.isWrapper; first | (rw [if_pos (by decide +kernel)]; kernel_rfl) | (rw [if_neg (by decide +kernel)]; exact ⟨rfl, rfl⟩))
    (fun os started H enc _ => shardWaits_lifted os started H enc)
#print axioms shardWaits_holds
end Go.Proofs.Ytofidfkojmbdoaa
