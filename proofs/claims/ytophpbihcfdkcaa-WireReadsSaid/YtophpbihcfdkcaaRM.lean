/- The walks of the laws of the wire, over abstract values: the contracts they call, and WireBack. -/
import Derived.Test.YtophpbihcfdkcaaRL
import Derived.Test.YtophpbihcfdkcaaRH
import Derived.Test.YtophpbihcfdkcaaL1
import Derived.Test.YtophpbihcfdkcaaVB
namespace Go.Proofs.Ytophpbihcfdkcaa
open Go.RowKit P
set_option linter.unusedSimpArgs false
set_option linter.unusedVariables false
attribute [local irreducible] AS.nf OpV ARun Stk QSem QSemA ACalls EffOp AppOk SrcOk Awp Aops
set_option maxHeartbeats 1000000

theorem rel_tu2 (X : GW) (a b : Value) : Rel X (.tu [.v a, .v b]) (.tuple #[a, b]) := by
  refine .tu _ _ rfl fun i u x hu hx => ?_
  match i, hu, hx with
  | 0, hu, hx => simp at hu hx; subst hu hx; exact .v _
  | 1, hu, hx => simp at hu hx; subst hu hx; exact .v _
  | n + 2, hu, hx => simp at hu
theorem wireBegun_a : ACalls Try.prog 17 [] [] (fun out H => out = .ret (.v (.bool true)) ∧ H = []) :=
  acalls_of_calls (vs := []) ⟨_, Try.func17, by kernel_rfl, rfl⟩ fun w => wireBegun_any w
theorem write_is (L : List Srs) (hL : OkL L) (t : List UInt8) (e : Nat) (h : writeB (L.map toSr) = (t, e)) : ACalls Try.prog 20 [.sl false 2 (L.map srsRow)] [] (fun out H => out = .ret (.tu [.v (.string (mkB t)), .v (.int .i64 e)]) ∧ H = []) :=
  acalls_ro ⟨_, Try.func20, by kernel_rfl, rfl⟩ rfl (fun X => rel_tu2 X _ _) rfl fun X vs hv hr => by
    rw [one_arg hv]
    have := write_any _ _ X.w (rel_series2 (hr 0 _ rfl) hL)
    rw [h] at this
    exact this
theorem read_is (s : List UInt8) (L : List Srs) (e : Nat) (h : readR s = (L, e)) (hs : s.length ≤ 1000000000000000) : ACalls Try.prog 28 [.v (.string (mkB s))] [] (fun out H => out = .ret (.tu [.sl false 2 (L.map srsRow), .v (.int .i64 e)]) ∧ H = []) := by
  have := read_a s hs
  rw [h] at this
  exact this
theorem same_is (L : List Srs) (R : List (List AV)) (hR : R = L.map srsRow) (hl : L.length ≤ 20000) (hs : ∀ y ∈ L, SmallSrs y) : ACalls Try.prog 30 [.sl false 2 (L.map srsRow), .sl false 2 R] [] (fun out H => out = .ret (.v (.bool true)) ∧ H = []) := by
  subst hR
  have := sameSeries_a L L hl hl hs hs
  rw [decide_eq_true rfl] at this
  exact this
theorem small_chk {L : List Srs} (h : checkB (L.map toSr) = 0) : L.length ≤ 20000 ∧ ∀ y ∈ L, SmallSrs y := by
  obtain ⟨h1, h2⟩ := small_of_check h
  exact ⟨by omega, fun y hy => ⟨by have := (h2 y hy).1; omega, by have := (h2 y hy).2.1; omega⟩⟩
set_option maxRecDepth 100000 in
theorem wireBack_a (L : List Srs) (hL : OkL L) : ACalls Try.prog 11 [.sl false 2 (L.map srsRow)] [] (fun out H => out = .ret (.v (.bool true)) ∧ H = []) := by
  obtain ⟨t, e, hw⟩ : ∃ t e, writeB (L.map toSr) = (t, e) := ⟨_, _, rfl⟩
  by_cases he : e = 0
  · subst he
    have hr := write_read hL hw
    obtain ⟨hc, _, hl⟩ := writeB_ok hw
    obtain ⟨s1, s2⟩ := small_chk hc
    refine acalls_enter _ 45 [.tmp 2] Try.func11 (by kernel_rfl) rfl rfl rfl rfl ?_
    dsimp only [slotsOf]
    repeat (first
      | ((first | apply ar_un | apply stk_un); (next => (first | (simp only [go_sem, Nat.reduceBEq, Nat.reduceEqDiff, reduceIte, reduceCtorEq, String.reduceEq, Nat.reduceAdd, Int.reduceToNat]; exact rfl))))
      | (apply ar_op' rfl rfl rfl rfl; (next => (first
       | (refine evalE_ok (T := TT) rfl ?_; (first | exact trivial))
       | (apply opk ⟨_, .binOp .eql _ _ _ _, _, _, _, _⟩; first
        | (refine opv_cmp_t rfl rfl rfl ?_; (next => (first | exact rfl)))
        | (refine opv_seq_t rfl rfl rfl ?_; (next => (first | rfl)))
        | fail)
       | (apply opk ⟨_, .binOp .neq _ _ _ _, _, _, _, _⟩; first | (refine opv_cmp_f rfl rfl rfl ?_; (next => (first | (simp only [cmpP]; omega)))) | fail)
       | (apply opk ⟨_, .pick _ _ _, _, _, _, _⟩; first | (refine opv_pickt rfl ?_ rfl; (next => (first | rfl))) | fail)
       | fail)))
      | (refine arO _ ?_; first
       | (refine arO ⟨_, .move _, _, _, _, _⟩ ?_; first | refine ar_move_sl rfl rfl rfl rfl ?_ | fail)
       | (refine arO ⟨_, .assign _, _, _, _, _⟩ ?_; first | refine ar_assign_sl rfl rfl rfl rfl ?_ | fail)
       | (refine arO ⟨_, .call { callee := .value _, args := _, argTypes := _ }, _, _, _, _⟩ ?_; first
        | (apply ar_callM0 rfl (wireBegun_a) rfl rfl; (next => (repeat (first | exact PArgs.nil))); (next => rfl); (next => rfl); rintro _ _ ⟨rfl, rfl⟩; refine ⟨_, rfl, ?_⟩)
        | (apply ar_callM0 rfl (write_is L hL t 0 hw) rfl rfl; (next => (repeat (first | exact PArgs.nil | (apply PArgs.cons; (next => (first | exact PArg.rd rfl (Le1.refl _) rfl)))))); (next => rfl); (next => rfl); rintro _ _ ⟨rfl, rfl⟩; refine ⟨_, rfl, ?_⟩)
        | (apply ar_callM0 rfl (read_is t L 0 hr (by omega)) rfl rfl; (next => (repeat (first | exact PArgs.nil | (apply PArgs.cons; (next => (first | exact PArg.rd rfl (Le1.refl _) rfl)))))); (next => rfl); (next => rfl); rintro _ _ ⟨rfl, rfl⟩; refine ⟨_, rfl, ?_⟩)
        | (apply ar_callM0 rfl (same_is L (L.map srsRow) rfl s1 s2) rfl rfl; (next => (repeat (first | exact PArgs.nil | (apply PArgs.cons; (next => (first | exact PArg.rd rfl (Le1.refl _) rfl)))))); (next => rfl); (next => rfl); rintro _ _ ⟨rfl, rfl⟩; refine ⟨_, rfl, ?_⟩)
        | fail)
       | fail)
      | refine ar_seq ?_
      | (refine arE ?_; refine ar_endM [0, 2, 3, 4, 5, 6, 7, 9, 16] rfl ?_)
      | refine ar_region ?_
      | refine ar_skip ?_
      | (refine arC (.cond _ _ _) ?_; first | (refine ar_cond_false rfl ?_ ?_; (next => (first | rfl))) | fail)
      | (refine arC .ret ?_; refine ar_retM [2] ?_)
      | refine stk_nil ?_
      | fail)
    first | exact qret_mk rfl (⟨by simp, rfl⟩) | (trace_state; exact qret_mk rfl (⟨by simp, rfl⟩))
  · obtain ⟨rfl, he3⟩ := writeB_bad hw he
    refine acalls_enter _ 45 [.tmp 2] Try.func11 (by kernel_rfl) rfl rfl rfl rfl ?_
    dsimp only [slotsOf]
    repeat (first
      | ((first | apply ar_un | apply stk_un); (next => (first | (simp only [go_sem, Nat.reduceBEq, Nat.reduceEqDiff, reduceIte, reduceCtorEq, String.reduceEq, Nat.reduceAdd, Int.reduceToNat]; exact rfl))))
      | (apply ar_op' rfl rfl rfl rfl; (next => (first
       | (refine evalE_ok (T := TT) rfl ?_; (first | exact trivial))
       | (apply opk ⟨_, .binOp .eql _ _ _ _, _, _, _, _⟩; first | (refine opv_seq_t rfl rfl rfl ?_; (next => (first | rfl))) | fail)
       | (apply opk ⟨_, .binOp .neq _ _ _ _, _, _, _, _⟩; first | (refine opv_cmp_t rfl rfl rfl ?_; (next => (first | (simp only [cmpP]; omega)))) | fail)
       | fail)))
      | (refine arO _ ?_; first
       | (refine arO ⟨_, .move _, _, _, _, _⟩ ?_; first | refine ar_move_sl rfl rfl rfl rfl ?_ | fail)
       | (refine arO ⟨_, .call { callee := .value _, args := _, argTypes := _ }, _, _, _, _⟩ ?_; first
        | (apply ar_callM0 rfl (wireBegun_a) rfl rfl; (next => (repeat (first | exact PArgs.nil))); (next => rfl); (next => rfl); rintro _ _ ⟨rfl, rfl⟩; refine ⟨_, rfl, ?_⟩)
        | (apply ar_callM0 rfl (write_is L hL [] e hw) rfl rfl; (next => (repeat (first | exact PArgs.nil | (apply PArgs.cons; (next => (first | exact PArg.rd rfl (Le1.refl _) rfl)))))); (next => rfl); (next => rfl); rintro _ _ ⟨rfl, rfl⟩; refine ⟨_, rfl, ?_⟩)
        | fail)
       | fail)
      | refine ar_seq ?_
      | (refine arE ?_; refine ar_endM [0, 2, 3, 4, 5, 6, 7, 9, 16] rfl ?_)
      | refine ar_region ?_
      | refine ar_skip ?_
      | (refine arC (.cond _ _ _) ?_; first | (refine ar_cond_true rfl ?_ ?_; (next => (first | rfl))) | (refine ar_cond_false rfl ?_ ?_; (next => (first | rfl))) | fail)
      | (refine arC .ret ?_; refine ar_retM [2] ?_)
      | refine stk_c_ret ?_
      | refine stk_nil ?_
      | fail)
    first | exact qret_mk rfl (⟨by simp, rfl⟩) | (trace_state; exact qret_mk rfl (⟨by simp, rfl⟩))
end Go.Proofs.Ytophpbihcfdkcaa
