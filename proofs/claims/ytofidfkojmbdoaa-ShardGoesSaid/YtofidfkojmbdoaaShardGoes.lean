/- It is proved that the law ShardGoes returns true and leaves its arguments as they read, whatever shard and time it is handed; there is no condition. -/
import Derived.Test.YtofidfkojmbdoaaE3
import Derived.Test.YtofidfkojmbdoaaFS2
namespace Go.Proofs.Ytofidfkojmbdoaa
open Go.ChangeShapes Go.WideShapes Go.ChangeAt Go.RowKit Go.ChangeMaps P
set_option linter.unusedSimpArgs false
set_option linter.unusedVariables false
theorem gone_more (s : VShard) (i j : Nat) : goneS (goneS s i) j = goneS s (i + j) := by
  unfold goneS
  simp [List.drop_drop]
def nextV (s : VShard) (now : Int) : List VItem × List UInt8 × Int := if chkN s now ≠ 0 then ([], [], chkN s now) else (nextI s, nextT s, 0)
theorem gone_evs (s : VShard) (now : Int) (hw : WS2 s) : ∃ N0, ∀ N, N0 ≤ N → ∀ i ≤ s.Items.length, shard_Next N (goneS s i) now = some (nextV (goneS s i) now) ∧ shard_Done N (goneS s i) now 200 = some (doneS (goneS s i) now 200, doneE (goneS s i) now 200) ∧ shard_Check N (goneS s i) = some (chkS (goneS s i)) := by
  obtain ⟨N1, h1⟩ := ev_all' (f := fun N i => shard_Next N (goneS s i) now) (g := fun i => nextV (goneS s i) now) (List.range (s.Items.length + 1)) fun i _ => next_ev (goneS s i) now (gone_wide hw i)
  obtain ⟨N2, h2⟩ := ev_all' (f := fun N i => shard_Done N (goneS s i) now 200) (g := fun i => (doneS (goneS s i) now 200, doneE (goneS s i) now 200)) (List.range (s.Items.length + 1)) fun i _ => done_ev (goneS s i) now 200 (gone_wide hw i)
  obtain ⟨N3, h3⟩ := ev_all' (f := fun N i => shard_Check N (goneS s i)) (g := fun i => chkS (goneS s i)) (List.range (s.Items.length + 1)) fun i _ => shardCheck_ev (goneS s i) (gone_wide hw i).1
  refine ⟨max N1 (max N2 N3), fun N hN i hi => ?_⟩
  have hm : i ∈ List.range (s.Items.length + 1) := List.mem_range.2 (by omega)
  exact ⟨h1 N (by omega) i hm, h2 N (by omega) i hm, h3 N (by omega) i hm⟩
theorem goes_step (N m : Nat) (now : Int) (s b : VShard) (i : Nat) (t : Int) (hN : 1500 ≤ N) (hs : SmallI s.Items) (hi : i ≤ s.Items.length) (ht : 0 ≤ t ∧ t ≤ i) (hb : b.Items = s.Items.drop i) (hg : ∀ k, goneS b k = goneS s (i + k)) (hc : chkN b now = 0)
    (h1 : shard_Next N b now = some (nextV b now)) (h2 : shard_Done N b now 200 = some (doneS b now 200, doneE b now 200)) (h3 : ∀ j ≤ s.Items.length, shard_Check N (goneS s j) = some (chkS (goneS s j))) (h4 : chkS (goneS s 0) = 0)
    (ih : 0 < (nextI b).length → i + (nextI b).length ≤ s.Items.length → law_ShardGoes_L6 N m now s.Items (s.Items.take (i + (nextI b).length)) (t + 1) (goneS s (i + (nextI b).length)) = some true) :
    law_ShardGoes_L6 N (m + 1) now s.Items (s.Items.take i) t b = some true := by
  have hl := hs.1
  obtain ⟨q1, q2, q3⟩ := chkN_right hc
  unfold law_ShardGoes_L6
  rw [decide_eq_true (show t ≤ (s.Items.length : Int) by omega), cond_true, h1, Option.bind_some]
  unfold nextV
  rw [if_neg (show ¬ chkN b now ≠ 0 by omega)]
  simp only [bne_self_eq_false, cond_false]
  by_cases hn : nextI b = []
  · have h0 : b.Items = [] := by
      by_cases h0 : b.Items = []
      · exact h0
      · exact absurd hn (nextI_ne q1 h0)
    have hii : s.Items.take i = s.Items := by
      rw [h0] at hb
      have := congrArg List.length hb
      rw [List.length_drop, List.length_nil] at this
      exact List.take_of_length_le (by omega)
    rw [hn, hii, show (((([] : List VItem).length : Nat) : Int) == 0) = true from rfl, cond_true, sameI_is N _ (by omega) (fun z hz => by have := hs.2 z hz; omega) (by omega)]; rfl
  · have hlen := nextI_len b
    rw [hb, List.length_drop] at hlen
    have hpos := List.length_pos_iff.2 hn
    have hcat : s.Items.take i ++ nextI b = s.Items.take (i + (nextI b).length) := by
      have : nextI b = (s.Items.drop i).take (nextI b).length := by
        unfold nextI
        rw [hb, List.length_take]
        generalize nextN _ _ = k
        rw [List.take_eq_take_iff]
        simp
      rw [List.take_add, ← this]
    have hE : doneE b now 200 = 0 := by
      unfold doneE
      rw [if_neg (show ¬ chkN b now ≠ 0 by omega), if_neg (by decide), if_neg (fun h0 => by
        apply hn
        unfold nextI
        rw [h0, List.take_nil])]
    have hS : doneS b now 200 = goneS s (i + (nextI b).length) := by
      unfold doneS
      rw [hE, if_neg (by decide), if_pos (by decide), hg]
    have hk := h3 (i + (nextI b).length) (by omega)
    have hr : chkS (goneS s (i + (nextI b).length)) = 0 := by
      have := gone_right h4 (i + (nextI b).length)
      rw [gone_more, Nat.zero_add] at this
      exact this
    rw [hr] at hk
    rw [show (((nextI b).length : Int) == 0) = false by simp; exact hn, cond_false, appC_is (by rw [List.length_take]; omega), Option.bind_some, h2, Option.bind_some, hE, hS, hcat]
    simp only [bne_self_eq_false, cond_false]
    rw [show ((goneS s (i + (nextI b).length)).Waits != 0) = false from rfl, cond_false, hk, Option.bind_some]
    simp only [bne_self_eq_false, cond_false]
    rw [w64_id (by omega) (by omega)]
    exact ih hpos (by omega)
theorem goes_loop (N : Nat) (now : Int) (s : VShard) (hN : 1500 ≤ N) (hs : SmallI s.Items) (hn : 0 ≤ now) (hT : timeB now = true) (hr : chkS (goneS s 0) = 0)
    (hf : ∀ i ≤ s.Items.length, shard_Next N (goneS s i) now = some (nextV (goneS s i) now) ∧ shard_Done N (goneS s i) now 200 = some (doneS (goneS s i) now 200, doneE (goneS s i) now 200) ∧ shard_Check N (goneS s i) = some (chkS (goneS s i))) :
    ∀ (m i : Nat) (t : Int), s.Items.length - i < m → i ≤ s.Items.length → 0 ≤ t ∧ t ≤ i → law_ShardGoes_L6 N m now s.Items (s.Items.take i) t (goneS s i) = some true
  | 0, i, t, h, _, _ => by omega
  | m + 1, i, t, h, hi, ht => by
    have hri : chkS (goneS s i) = 0 := by
      have := gone_right hr i
      rw [gone_more, Nat.zero_add] at this
      exact this
    have hc : chkN (goneS s i) now = 0 := by
      unfold chkN
      rw [if_neg (by omega), if_neg (by rw [hT]; decide), if_neg (show ¬ (goneS s i).Till > now from fun h => by
        have : (0 : Int) > now := h
        omega)]
    exact goes_step N m now s (goneS s i) i t hN hs hi ht rfl (fun k => gone_more s i k) hc (hf i hi).1 (hf i hi).2.1 (fun j hj => (hf j hj).2.2) hr
      (fun h1 h2 => goes_loop N now s hN hs hn hT hr hf m _ (t + 1) (by omega) h2 (by omega))
theorem shardGoes_ev (s : VShard) (now : Int) (hw : WS2 s) : Ev (fun N => law_ShardGoes N s now) true := by
  obtain ⟨N0, h0⟩ := shardBegun_ev
  obtain ⟨N1, h1⟩ := shardCheck_ev s hw.1
  obtain ⟨N2, h2⟩ := next_ev s now hw
  obtain ⟨N3, h3⟩ := done_ev s now 200 hw
  obtain ⟨N4, h4⟩ := gone_evs s now hw
  refine ⟨max N0 (max N1 (max N2 (max N3 (max N4 1500)))), fun N hN => ?_⟩
  have h0 := h0 N (by omega)
  have h1 := h1 N (by omega)
  have h2 := h2 N (by omega)
  have h3 := h3 N (by omega)
  have h4 := h4 N (by omega)
  simp only at h1 h2 h3
  show law_ShardGoes N s now = _
  unfold law_ShardGoes
  rw [h0, Option.bind_some, h1]
  simp only [Bool.not_true, cond_false, Option.bind_some]
  by_cases hc : chkS s = 0
  · rw [hc]
    simp only [bne_self_eq_false, cond_false]
    by_cases hn : now < 0
    · rw [decide_eq_true hn]; rfl
    · rw [decide_eq_false hn, cond_false]
      have hs := small_of hc
      have hl := hs.1
      obtain ⟨M, hM⟩ : ∃ M, N = M + 1 := ⟨N - 1, by omega⟩
      by_cases hk : chkN s now = 0
      · obtain ⟨q1, q2, q3⟩ := chkN_right hk
        have hg := gone_right hc 0
        have := goes_step N M now s s 0 0 (by omega) hs (by omega) (by omega) rfl (fun k => by rw [Nat.zero_add]) hk h2 h3 (fun j hj => (h4 j hj).2.2) hg
          (fun p1 p2 => goes_loop N now s (by omega) hs (by omega) q2 hg h4 M _ 1 (by omega) p2 (by omega))
        rw [← hM] at this
        exact this
      · rw [hM]
        unfold law_ShardGoes_L6
        rw [← hM, h2, if_pos hk]
        have hk1 : (chkN s now != 0) = true := by simpa using hk
        rw [decide_eq_true (show (0 : Int) ≤ (s.Items.length : Int) by omega)]
        simp only [cond_true, Option.bind_some, hk1]
        rfl
  · have hc1 : (chkS s != 0) = true := by simpa using hc
    rw [hc1]; rfl
theorem shardGoes_walk (z : VShard) (n : Int) (hz : WF_VShard z) (v : Value) (w : World) (hr : Rel (allW w) (.ag (enc_VShard z)) v) : Calls Try.prog 10 #[v, .int .i64 n] w fun e w' => e = .returned (.bool true) ∧ Below w.heap.size w w' := by
  obtain ⟨N, hN⟩ := (shardGoes_ev z n (wshard2_of hz)).one
  have h := law_ShardGoes_ok z n hN id
  refine calls_of_acalls (vs := [v, .int .i64 n]) (us := [.ag (enc_VShard z), .v (.int .i64 n)]) h rfl fun i u x hu hx => ?_
  match i, hu, hx with
  | 0, hu, hx => simp at hu hx; subst hu hx; exact ⟨hr, rfl⟩
  | 1, hu, hx => simp at hu hx; subst hu hx; exact ⟨.v _, rfl⟩
  | i + 2, hu, hx => simp at hu
set_option maxRecDepth 100000 in
theorem shardGoes_lifted (os : Os) (started : os.Started) (H : Type) (enc : TypeId × Value → H) :
    ReturnsInHanded {} Try.checked os 10 .any (Rows.shardGoesSpec.pre6 enc Try.prog Try.f10 Rows.shardGoesRow.domain false) (Rows.shardGoesSpec.post enc Try.prog Try.f10 false true false false) := by
  refine returnsInHanded_of_change_sized (C := Try.checked) Try.own started (by kernel_rfl) Try.func10
    (ChangeSpec.witness6 (enc := enc) (C := Try.checked) false ⟨#[], #[.agg #[.slice none 0 0, .int .i64 0, .int .i64 0, .int .i64 0, .int .i64 0, .int .i64 0, .int .i64 0], .int .i64 0], []⟩ 8 (by kernel_rfl) (by kernel_rfl) (by kernel_rfl) (by kernel_rfl)) ?_
  intro W base args ds gs before hval0 hW _ hsz0 _
  have hsz : (DataW.weightsEach Try.prog (Try.f10.params.toList ++ Rows.shardGoesSpec.plain.varTypes Try.prog) (ds ++ gs)).all (· ≤ reachBytes) = true := hsz0
  have hval : ∀ (j : Nat) t v, Try.f10.params[j]? = some t → args[j]? = some v → Value.okWide Try.prog W .any base t v := hval0
  have hW' := hW
  obtain ⟨p, q, hA0, hV, rfl, _, _⟩ := hW
  have hA : DataW.TrodAll enc Try.prog W 0 (fun _ => true) true Try.f10.params.toList args.toList ds p := hA0
  clear hsz0 hval0 hA0
  rw [Try.params10] at hA hval hsz
  obtain ⟨v0, vs0, d0, ds0, p0, q0, hargs, rfl, rfl, h0, rr0⟩ := trodAll_cons hA
  obtain ⟨v1, vs1, d1, ds1, p1, q1, rfl, rfl, rfl, h1, rr1⟩ := trodAll_cons rr0
  obtain ⟨rfl, rfl, rfl⟩ := trodAll_nil rr1
  obtain rfl : args = #[v0, v1] := by cases args; simp_all
  obtain ⟨rfl, rfl⟩ := trodVars_none hV
  have w0 : ∀ n ∈ d0.weights Try.prog 41, n ≤ reachBytes := fun n hn => of_decide_eq_true (List.all_eq_true.1 hsz n (DataW.weights_mem_each (j := 0) rfl rfl n hn))
  have w1 : ∀ n ∈ d1.weights Try.prog 3, n ≤ reachBytes := fun n hn => of_decide_eq_true (List.all_eq_true.1 hsz n (DataW.weights_mem_each (j := 1) rfl rfl n hn))
  simp only [List.append_nil] at hW'
  have hlt := hW'.lt
  have hl0 : ∀ x ∈ p0, x.block < W.heap.size := fun x hx => by first | exact hlt x hx | (refine hlt x ?_; simp [hx])
  have k0 : ∀ W', Below W.heap.size W W' → DataW.Trod enc Try.prog W' 0 (fun b => decide (b < W.heap.size)) true 41 v0 d0 p0 := fun W' hb => Below.trod Try.laidOut (by kernel_rfl) (of_decide_eq_true (by kernel_rfl)) h0 hb hl0
  have hl1 : ∀ x ∈ p1, x.block < W.heap.size := fun x hx => by first | exact hlt x hx | (refine hlt x ?_; simp [hx])
  have k1 : ∀ W', Below W.heap.size W W' → DataW.Trod enc Try.prog W' 0 (fun b => decide (b < W.heap.size)) true 3 v1 d1 p1 := fun W' hb => Below.trod Try.laidOut (by kernel_rfl) (of_decide_eq_true (by kernel_rfl)) h1 hb hl1
  obtain ⟨a0, a0w, r0⟩ := arg_ag opn_VShard Try.underlying41 (hval 0 41 v0 rfl rfl) h0 w0
  obtain ⟨a1, rfl, rfl, rfl, x1⟩ := open_int Try.underlying3 (hval 1 3 v1 rfl rfl) h1
  have a1w := i64_of_wf x1
  refine (shardGoes_walk a0 a1 a0w v0 W r0).mono fun e W' ⟨he, hb⟩ => ?_
  subst he
  exact ⟨_, rfl, _, _, _, [], _, [], hW', trodAll_cons_mk (shut_bool Try.underlying4 _) trodAll_mk0, (trodAll_cons_mk (k0 _ hb) (trodAll_cons_mk (k1 _ hb) trodAll_mk0)), rfl, hb.frame _, fun h => by cases h⟩

/-- The law 'ShardGoes': it returns true, whatever it is handed. -/
theorem shardGoes_holds : Rows.ShardGoesSaid :=
  OpenClaim.holds_of_wide 10 Try.f10 rfl rfl rfl rfl rfl rfl rfl ⟨rfl, rfl, rfl, rfl, rfl⟩ rfl rfl rfl rfl rfl (by kernel_rfl) Try.func10 (by kernel_rfl)
    (of_decide_eq_true (by kernel_rfl)) (by unfold Func.isWrapper; first | (rw [if_pos (by decide +kernel)]; kernel_rfl) | (rw [if_neg (by decide +kernel)]; exact ⟨rfl, rfl⟩))
    (fun os started H enc _ => shardGoes_lifted os started H enc)
#print axioms shardGoes_holds
end Go.Proofs.Ytofidfkojmbdoaa
