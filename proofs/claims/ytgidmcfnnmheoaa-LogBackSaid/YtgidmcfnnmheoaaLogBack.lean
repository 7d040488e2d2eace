/- It is proved that the law LogBack returns true and leaves its arguments as they read, whatever records and number it is handed; there is no condition. -/
import Derived.Test.YtgidmcfnnmheoaaEU
import Derived.Test.YtgidmcfnnmheoaaHU
import Derived.Test.YtgidmcfnnmheoaaFB1
import Derived.Test.YtgidmcfnnmheoaaK
namespace Go.Proofs.Ytgidmcfnnmheoaa
open Go.ChangeShapes Go.WideShapes Go.ChangeAt Go.RowKit Go.ChangeMaps P
set_option linter.unusedSimpArgs false
set_option linter.unusedVariables false
def I64 (n : Int) : Prop := -9223372036854775808 ≤ n ∧ n < 9223372036854775808
theorem i64_of_wf {x : Int} (h : (Lit.int .i64 x).wf = true) : I64 x := by
  simp [Lit.wf, IntKind.min, IntKind.max, IntKind.signed, IntKind.bits] at h
  exact ⟨by omega, by omega⟩
theorem choose_room (N : Nat) (x k : Int) (hk : 0 < k) (hx1 : -9223372036854775808 ≤ x) (hx2 : x < 9223372036854775808) : ∃ z, law_choose N x k = some z ∧ 0 ≤ z ∧ z < k := by
  unfold law_choose
  by_cases h : x < 0
  · have e : decide (x < 0) = true := by simpa using h
    rw [e, cond_true, w64_id (n := x + 1) (by omega) (by omega), w64_id (by omega) (by omega)]
    obtain ⟨z, h1, h2, h3⟩ := remC_room (a := 0 - (x + 1)) (k := k) (by omega) hk
    exact ⟨z, by rw [h1]; rfl, h2, h3⟩
  · have e : decide (x < 0) = false := by simpa using h
    rw [e, cond_false]
    obtain ⟨z, h1, h2, h3⟩ := remC_room (a := x) (k := k) (by omega) hk
    exact ⟨z, by rw [h1]; rfl, h2, h3⟩
theorem same_loop (N : Nat) : ∀ (r p : List (List UInt8)) (n : Nat), r.length < n → (p ++ r).length < 140737488355328 → ref_SameTexts_L4 N n (p ++ r) (p ++ r) (p.length : Int) = some true
  | [], p, n, hn, hs => by
    obtain ⟨m, rfl⟩ : ∃ m, n = m + 1 := ⟨n - 1, by simp at hn; omega⟩
    rw [ref_SameTexts_L4, lt_end, cond_false]
  | z :: r, p, n, hn, hs => by
    obtain ⟨m, rfl⟩ : ∃ m, n = m + 1 := ⟨n - 1, by simp at hn; omega⟩
    have ih := same_loop N r (p ++ [z]) m (by simp at hn; omega) (by simpa using hs)
    rw [ref_SameTexts_L4, lt_cat, cond_true, idxC_cat, Option.bind_some, Option.bind_some, decide_eq_true rfl, Bool.not_true, cond_false, w64_next p z (by simp at hs; omega), cat_next]
    exact ih
theorem same_is (N : Nat) (l : List (List UInt8)) (hN : l.length < N) (hs : l.length < 140737488355328) : ref_SameTexts N l l = some true := by
  unfold ref_SameTexts
  have e : ((l.length : Int) != (l.length : Int)) = false := by simp
  rw [e, cond_false]
  exact same_loop N l [] N hN (by simpa using hs)
theorem append_is (N : Nat) (s r : List UInt8) (hs : s.length ≤ 1000000000000) : log_Append N s r = some ((appendB s r).1, (((appendB s r).2 : Nat) : Int)) := by unfold log_Append; rw [if_pos hs]
theorem read_is (N : Nat) (s : List UInt8) (hs : s.length ≤ 1000000000000) : log_Read N s = some ((rdB s).out, ((lastN (rdB s).ends : Nat) : Int)) := by unfold log_Read; rw [if_pos hs]
theorem logB_small {l : List (List UInt8)} (h : logOk l) : (logB l).length ≤ 1000000 := by
  rcases List.eq_nil_or_concat l with rfl | ⟨p, r, rfl⟩
  · simp [logB]
  · rw [List.concat_eq_append] at h ⊢
    have := h p.length r (by simp)
    rw [List.take_left] at this
    rw [logB_snoc]
    exact (appendB_ok this).2.1
theorem logOk_take {l : List (List UInt8)} (h : logOk l) (i : Nat) : logOk (l.take i) := fun j r hj => by
  rw [List.getElem?_take] at hj
  split at hj
  · rename_i hji
    rw [List.take_take, Nat.min_eq_left (by omega)]
    exact h j r hj
  · cases hj
theorem logOf_loop (N : Nat) : ∀ (r p : List (List UInt8)) (n : Nat), r.length < n → (p ++ r).length ≤ 30 → logOk p → (∃ b, law_logOf_L3 N n (p ++ r) (logB p) (p.length : Int) = some b ∧ ((b.2 = false) ∨ (b = (logB (p ++ r), true) ∧ logOk (p ++ r)))) ∧ (logOk (p ++ r) → law_logOf_L3 N n (p ++ r) (logB p) (p.length : Int) = some (logB (p ++ r), true))
  | [], p, n, hn, hs, hp => by
    obtain ⟨m, rfl⟩ : ∃ m, n = m + 1 := ⟨n - 1, by simp at hn; omega⟩
    have : law_logOf_L3 N (m + 1) (p ++ []) (logB p) (p.length : Int) = some (logB (p ++ []), true) := by
      rw [law_logOf_L3, lt_end, cond_false, List.append_nil]
    exact ⟨⟨_, this, .inr ⟨rfl, by rw [List.append_nil]; exact hp⟩⟩, fun _ => this⟩
  | z :: r, p, n, hn, hs, hp => by
    obtain ⟨m, rfl⟩ : ∃ m, n = m + 1 := ⟨n - 1, by simp at hn; omega⟩
    have hl30 : decide ((p.length : Int) < 30) = true := by simp at hs; simp; omega
    have step : law_logOf_L3 N (m + 1) (p ++ z :: r) (logB p) (p.length : Int) = bif (((appendB (logB p) z).2 : Nat) : Int) != 0 then some ([], false) else law_logOf_L3 N m (p ++ z :: r) (appendB (logB p) z).1 (w64 ((p.length : Int) + 1)) := by
      have hsm := logB_small hp
      rw [law_logOf_L3, lt_cat, cond_true, hl30, cond_true, idxC_cat, Option.bind_some, append_is N _ _ (by omega), Option.bind_some]
    rw [step]
    by_cases h0 : (appendB (logB p) z).2 = 0
    · obtain ⟨h1, _, _⟩ := appendB_ok h0
      have e0 : ((((appendB (logB p) z).2 : Nat) : Int) != 0) = false := by rw [h0]; rfl
      have hp' : logOk (p ++ [z]) := fun j q hj => by
        by_cases hjp : j < p.length
        · rw [List.getElem?_append_left hjp] at hj
          rw [List.take_append_of_le_length (by omega)]
          exact hp j q hj
        · rw [List.getElem?_append_right (by omega)] at hj
          have hj0 : j = p.length := by
            have := (List.getElem?_eq_some_iff.1 hj).1
            simp at this; omega
          subst hj0
          simp at hj
          subst hj
          rw [List.take_left]
          exact h0
      have ih := logOf_loop N r (p ++ [z]) m (by simp at hn; omega) (by simpa using hs) hp'
      rw [e0, cond_false, h1, w64_next p z (by simp at hs; omega), cat_next, ← logB_snoc]
      exact ih
    · have e0 : ((((appendB (logB p) z).2 : Nat) : Int) != 0) = true := by simp; exact h0
      rw [e0, cond_true]
      refine ⟨⟨_, rfl, .inl rfl⟩, fun h => absurd ?_ h0⟩
      have := h p.length z (by simp)
      rw [List.take_left] at this
      exact this
theorem logOf_any (N : Nat) (l : List (List UInt8)) (hl : l.length ≤ 30) (hN : 31 ≤ N) : ∃ b, law_logOf N l = some b ∧ (b.2 = false ∨ (b = (logB l, true) ∧ logOk l)) := by
  unfold law_logOf
  exact (logOf_loop N l [] N (by omega) (by simpa using hl) (fun i r hi => by simp at hi)).1
theorem logOf_ok (N : Nat) (l : List (List UInt8)) (hl : l.length ≤ 30) (hN : 31 ≤ N) (h : logOk l) : law_logOf N l = some (logB l, true) := by
  unfold law_logOf
  exact (logOf_loop N l [] N (by omega) (by simpa using hl) (fun i r hi => by simp at hi)).2 h
theorem back5 (N n : Nat) (l : List (List UInt8)) (x : Int) (hl : l.length ≤ 30) (hN : 100 ≤ N) (hx1 : -9223372036854775808 ≤ x) (hx2 : x < 9223372036854775808) : law_LogBack_R5 N n l x = some true := by
  unfold law_LogBack_R5
  obtain ⟨b, h1, h2⟩ := logOf_any N l hl (by omega)
  rw [h1, Option.bind_some]
  rcases h2 with h2 | ⟨rfl, hok⟩
  · rw [h2, Bool.not_false, cond_true]
  · have hs := logB_small hok
    obtain ⟨r1, r2⟩ := rdB_log l
    simp only
    rw [Bool.not_true, cond_false, read_is N _ (by omega), Option.bind_some, r1, r2]
    simp only
    rw [same_is N l (by omega) (by omega), Option.bind_some, Bool.not_true, cond_false]
    have e1 : (((logB l).length : Int) != ((logB l).length : Int)) = false := by simp
    rw [e1, cond_false, w64_id (n := ((logB l).length : Int) + 1) (by omega) (by omega)]
    obtain ⟨c0, c1, c2, c3⟩ := choose_room N x (((logB l).length : Int) + 1) (by omega) hx1 hx2
    obtain ⟨c, rfl⟩ : ∃ c : Nat, c0 = (c : Int) := ⟨c0.toNat, by omega⟩
    have hc : c ≤ (logB l).length := by omega
    rw [c1, Option.bind_some, subC_take hc, Option.bind_some, read_is N _ (by rw [List.length_take]; omega), Option.bind_some]
    obtain ⟨i, i1, i2, i3, i4, i5⟩ := rdB_cut l c hc
    have hle := logB_le l i
    rw [i2, i3]
    simp only
    have e2 : decide ((((logB (l.take i)).length : Nat) : Int) < 0) = false := by simp
    have e3 : decide ((((logB (l.take i)).length : Nat) : Int) > (c : Int)) = false := by simp; omega
    have hti : (l.take i).length = i := by rw [List.length_take]; omega
    have e4 : decide (((l.take i).length : Int) > (l.length : Int)) = false := by rw [hti]; simp; omega
    rw [e2, cond_false, e3, cond_false, e4, cond_false, hti, subC_take i1, Option.bind_some, same_is N (l.take i) (by omega) (by omega), Option.bind_some, Bool.not_true, cond_false]
    rw [logOf_ok N (l.take i) (by omega) (by omega) (logOk_take hok i), Option.bind_some]
    simp only
    rw [Bool.not_true, cond_false, subC_take hle, Option.bind_some, logB_take, decide_eq_true rfl, Bool.not_true, cond_false]
    by_cases hil : i = l.length
    · have e5 : ((i : Int) == (l.length : Int)) = true := by rw [hil]; simp
      rw [e5, cond_true]
    · have e5 : ((i : Int) == (l.length : Int)) = false := by simp; omega
      have e6 : w64 ((i : Int) + 1) = ((i + 1 : Nat) : Int) := by rw [w64_id (by omega) (by omega)]; omega
      rw [e5, cond_false, e6, subC_take (by omega), Option.bind_some, logOf_ok N (l.take (i + 1)) (by rw [List.length_take]; omega) (by omega) (logOk_take hok (i + 1)), Option.bind_some]
      simp only
      rw [cond_true]
      have := i5 (by omega)
      have e7 : decide ((((logB (l.take (i + 1))).length : Nat) : Int) > (c : Int)) = true := by simp; omega
      rw [e7]
theorem logBack_is (N : Nat) (l : List (List UInt8)) (x : Int) (hN : 100 ≤ N) (hx1 : -9223372036854775808 ≤ x) (hx2 : x < 9223372036854775808) : law_LogBack N l x = some true := by
  unfold law_LogBack law_logBegun
  rw [Option.bind_some, Bool.not_true, cond_false]
  by_cases h : 30 < l.length
  · have e : decide ((l.length : Int) > 30) = true := by simp; omega
    rw [e, cond_true, show (30 : Int) = ((30 : Nat) : Int) from rfl, subC_take (by omega), Option.bind_some]
    exact back5 N N _ x (by rw [List.length_take]; omega) hN hx1 hx2
  · have e : decide ((l.length : Int) > 30) = false := by simp; omega
    rw [e, cond_false]
    exact back5 N N l x (by omega) hN hx1 hx2
theorem logBack_walk (z : List (List UInt8)) (k : Int) (hb : I64 k) (v : Value) (w : World) (hr : Rel (allW w) (.sl false 1 (z.map (fun s : List UInt8 => [AV.v (.string (mkB s))]))) v) : Calls Try.prog 6 #[v, .int .i64 k] w fun e w' => e = .returned (.bool true) ∧ Below w.heap.size w w' := by
  have h := law_LogBack_ok z k (logBack_is 100 z k (by omega) hb.1 hb.2) id
  refine calls_of_acalls (vs := [v, .int .i64 k]) (us := [.sl false 1 (z.map (fun s : List UInt8 => [AV.v (.string (mkB s))])), .v (.int .i64 k)]) h rfl fun i u x hu hx => ?_
  match i, hu, hx with
  | 0, hu, hx => simp at hu hx; subst hu hx; exact ⟨hr, rfl⟩
  | 1, hu, hx => simp at hu hx; subst hu hx; exact ⟨.v _, rfl⟩
  | i + 2, hu, hx => simp at hu
set_option maxRecDepth 100000 in
theorem logBack_lifted (os : Os) (started : os.Started) (H : Type) (enc : TypeId × Value → H) :
    ReturnsInHanded {} Try.checked os 6 .any (Rows.logBackSpec.pre6 enc Try.prog Try.f6 Rows.logBackRow.domain false) (Rows.logBackSpec.post enc Try.prog Try.f6 false true false false) := by
  refine returnsInHanded_of_change_sized (C := Try.checked) Try.own started (by kernel_rfl) Try.func6
    (ChangeSpec.witness6 (enc := enc) (C := Try.checked) false ⟨#[], #[.slice none 0 0, .int .i64 0], []⟩ 8 (by kernel_rfl) (by kernel_rfl) (by kernel_rfl) (by kernel_rfl)) ?_
  intro W base args ds gs before hval0 hW _ hsz0 _
  have hsz : (DataW.weightsEach Try.prog (Try.f6.params.toList ++ Rows.logBackSpec.plain.varTypes Try.prog) (ds ++ gs)).all (· ≤ reachBytes) = true := hsz0
  have hval : ∀ (j : Nat) t v, Try.f6.params[j]? = some t → args[j]? = some v → Value.okWide Try.prog W .any base t v := hval0
  have hW' := hW
  obtain ⟨p, q, hA0, hV, rfl, _, _⟩ := hW
  have hA : DataW.TrodAll enc Try.prog W 0 (fun _ => true) true Try.f6.params.toList args.toList ds p := hA0
  clear hsz0 hval0 hA0
  rw [Try.params6] at hA hval hsz
  obtain ⟨v0, vs0, d0, ds0, p0, q0, hargs, rfl, rfl, h0, rr0⟩ := trodAll_cons hA
  obtain ⟨v1, vs1, d1, ds1, p1, q1, rfl, rfl, rfl, h1, rr1⟩ := trodAll_cons rr0
  obtain ⟨rfl, rfl, rfl⟩ := trodAll_nil rr1
  obtain rfl : args = #[v0, v1] := by cases args; simp_all
  obtain ⟨rfl, rfl⟩ := trodVars_none hV
  have w0 : ∀ n ∈ d0.weights Try.prog 32, n ≤ reachBytes := fun n hn => of_decide_eq_true (List.all_eq_true.1 hsz n (DataW.weights_mem_each (j := 0) rfl rfl n hn))
  have w1 : ∀ n ∈ d1.weights Try.prog 3, n ≤ reachBytes := fun n hn => of_decide_eq_true (List.all_eq_true.1 hsz n (DataW.weights_mem_each (j := 1) rfl rfl n hn))
  simp only [List.append_nil] at hW'
  have hlt := hW'.lt
  have hl0 : ∀ x ∈ p0, x.block < W.heap.size := fun x hx => by first | exact hlt x hx | (refine hlt x ?_; simp [hx])
  have k0 : ∀ W', Below W.heap.size W W' → DataW.Trod enc Try.prog W' 0 (fun b => decide (b < W.heap.size)) true 32 v0 d0 p0 := fun W' hb => Below.trod Try.laidOut (by kernel_rfl) (of_decide_eq_true (by kernel_rfl)) h0 hb hl0
  have hl1 : ∀ x ∈ p1, x.block < W.heap.size := fun x hx => by first | exact hlt x hx | (refine hlt x ?_; simp [hx])
  have k1 : ∀ W', Below W.heap.size W W' → DataW.Trod enc Try.prog W' 0 (fun b => decide (b < W.heap.size)) true 3 v1 d1 p1 := fun W' hb => Below.trod Try.laidOut (by kernel_rfl) (of_decide_eq_true (by kernel_rfl)) h1 hb hl1
  obtain ⟨a0, a0w, r0⟩ := arg_sl opn_sl__string Try.underlying32 (hval 0 32 v0 rfl rfl) h0 w0
  obtain ⟨a1, rfl, rfl, rfl, x1⟩ := open_int Try.underlying3 (hval 1 3 v1 rfl rfl) h1
  have a1w := i64_of_wf x1
  refine (logBack_walk a0 a1 a1w v0 W r0).mono fun e W' ⟨he, hb⟩ => ?_
  subst he
  exact ⟨_, rfl, _, _, _, [], _, [], hW', trodAll_cons_mk (shut_bool Try.underlying4 _) trodAll_mk0, (trodAll_cons_mk (k0 _ hb) (trodAll_cons_mk (k1 _ hb) trodAll_mk0)), rfl, hb.frame _, fun h => by cases h⟩

/-- The law 'LogBack': it returns true, whatever it is handed. -/
theorem logBack_holds : Rows.LogBackSaid :=
  OpenClaim.holds_of_wide 6 Try.f6 rfl rfl rfl rfl rfl rfl rfl ⟨rfl, rfl, rfl, rfl, rfl⟩ rfl rfl rfl rfl rfl (by kernel_rfl) Try.func6 (by kernel_rfl)
    (of_decide_eq_true (by kernel_rfl)) (by unfold Func.isWrapper; first | (rw [if_pos (by decide +kernel)]; kernel_rfl) | (rw [if_neg (by decide +kernel)]; exact ⟨rfl, rfl⟩))
    (fun os started H enc _ => logBack_lifted os started H enc)
#print axioms logBack_holds
end Go.Proofs.Ytgidmcfnnmheoaa
