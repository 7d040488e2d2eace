/- slices.Clip, walked: what it yields has no spare room. -/
import Derived.Test.YtofidfkojmbdoaaHJ
import Derived.Test.YtofidfkojmbdoaaTT
import Derived.Test.YtofidfkojmbdoaaHT
namespace Go.Proofs.Ytofidfkojmbdoaa
open Go.RowKit P
set_option linter.unusedSimpArgs false
set_option linter.unusedVariables false
attribute [local irreducible] AS.nf OpV ARun Stk QSem QSemA ACalls EffOp AppOk SrcOk Awp Aops
set_option maxHeartbeats 1000000
set_option maxRecDepth 100000 in
theorem clip_a (sz : Nat) (l : List (List AV)) (hsz : sz = 4) : ACalls Try.prog 58 [.sl false sz l] [] (fun out H => out = .ret (.cl sz l) ∧ H = []) := by
  subst hsz
  refine acalls_enter _ 9 [.tmp 2] Try.func58 (by kernel_rfl) rfl rfl rfl rfl ?_
  dsimp only [slotsOf]
  repeat (first
    | ((first | apply ar_un | apply stk_un); (next => (first | (simp only [go_sem, Nat.reduceBEq, Nat.reduceEqDiff, reduceIte, reduceCtorEq, String.reduceEq, Nat.reduceAdd, Int.reduceToNat]; exact rfl) | exact rfl)))
    | (first
     | refine ar_unwantedN rfl rfl rfl rfl ?_
     | refine ar_unwantedU rfl rfl rfl rfl ?_
     | (apply ar_opN rfl rfl rfl rfl; (next => (first
      | exact opv_pickt_cb rfl rfl
      | exact opv_pickf_cb rfl rfl
      | exact opv_pickt rfl rfl rfl
      | exact opv_pickf rfl rfl rfl
      | exact opv_len_str (T := TT) rfl rfl rfl
      | exact opv_len_sl (T := TT) rfl rfl rfl
      | fail)))
     | fail)
    | (apply ar_op' rfl rfl rfl rfl; (next => exact opv_slice3_cl (T := TT) (i := 0) (j := (l.length : Int)) (m := (l.length : Int)) (k1 := .i64) rfl rfl rfl rfl rfl rfl (by omega) (by omega) rfl (by omega)))
    | (apply ar_op' rfl rfl rfl rfl; (next => (first
     | (refine evalE_ok (T := TT) rfl ?_; (first | exact trivial | omega | (simp [NFL] <;> omega)))
     | (apply opk ⟨_, .move _, _, _, _, _⟩; first | exact opv_const (cst_plain _) (.inl rfl) | fail)
     | (apply opk ⟨_, .call { callee := .builtin .len, args := _, argTypes := _ }, _, _, _, _⟩; first
      | exact opv_len_str (T := TT) rfl rfl rfl
      | exact opv_len_sl (T := TT) rfl rfl rfl
      | exact opv_len_nil (T := TT) rfl rfl rfl
      | fail)
     | (apply opk ⟨_, .slice _ _ _ _ _, _, _, _, _⟩; first
      | (refine opv_slice_str (T := TT) (k1 := .i64) (k2 := .u64) rfl rfl rfl rfl ?_ ?_ ?_; (next => (first | omega | (simp [NFL] <;> omega))); (next => (first | omega | (simp [NFL] <;> omega))); (next => (first | omega | (simp [NFL] <;> omega))))
      | (refine opv_slice_str (T := TT) (k1 := .u64) (k2 := .i64) rfl rfl rfl rfl ?_ ?_ ?_; (next => (first | omega | (simp [NFL] <;> omega))); (next => (first | omega | (simp [NFL] <;> omega))); (next => (first | omega | (simp [NFL] <;> omega))))
      | (refine opv_slice_str (T := TT) (k1 := .u64) (k2 := .u64) rfl rfl rfl rfl ?_ ?_ ?_; (next => (first | omega | (simp [NFL] <;> omega))); (next => (first | omega | (simp [NFL] <;> omega))); (next => (first | omega | (simp [NFL] <;> omega))))
      | fail)
     | fail)))
    | (refine arO _ ?_; first
     | (refine arO ⟨_, .move _, _, _, _, _⟩ ?_; first | refine ar_move_sl rfl rfl rfl rfl ?_ | fail)
     | (refine arO ⟨_, .assign _, _, _, _, _⟩ ?_; first
      | refine ar_assign_sl rfl rfl rfl rfl ?_
      | refine ar_op rfl rfl rfl rfl (opv_const (cst_plain _) (.inr rfl)) ?_
      | fail)
     | fail)
    | refine ar_seq ?_
    | (refine arE ?_; refine ar_endM [0, 2] rfl ?_)
    | refine ar_region ?_
    | refine ar_block ?_
    | refine ar_skip ?_
    | refine ar_blk ?_
    | refine ar_dedup rfl ?_
    | (refine arC (.cond _ _ _) ?_; first
     | (refine ar_cond_true rfl ?_ ?_; (next => (first | rfl | (simp only [decide_eq_true_eq, beq_iff_eq, bne_iff_ne, ge_iff_le, gt_iff_lt, ne_eq, Bool.not_eq_true', decide_eq_false_iff_not]; omega))))
     | (refine ar_cond_false rfl ?_ ?_; (next => (first
      | rfl
      | (simp only [decide_eq_false_iff_not, beq_eq_false_iff_ne, bne_eq_false_iff_eq, ge_iff_le, gt_iff_lt, ne_eq, Bool.not_eq_false', decide_eq_true_eq]; omega))))
     | fail)
    | refine ar_exit ?_
    | refine stk_b_hit ?_
    | refine stk_b_miss rfl ?_
    | refine stk_c_exit ?_
    | refine stk_l_exit ?_
    | (refine arC .ret ?_; refine ar_retM [2] ?_)
    | refine stk_c_ret ?_
    | refine stk_b_ret ?_
    | refine stk_l_ret ?_
    | refine stk_nil ?_
    | fail)
  first | exact qret_mk rfl (⟨by simp, rfl⟩) | (trace_state; exact qret_mk rfl (⟨by simp, rfl⟩))
def clip_h (N : Nat) : List (TV EE.T) → PV EE.T
  | [u0] => match argD (.sl (.nam 7)) u0 with
    | some x0 => .one (.a (.clip (.nam 7) x0))
    | _ => .bad
  | _ => .bad
theorem clip_hok (N : Nat) (us : List (TV EE.T)) : (clip_h N us).ok fun u => ∀ ρ, ACalls Try.prog 58 (us.map (TV.to EE.toEnc ρ)) [] (fun out H => out = .ret (u.to EE.toEnc ρ) ∧ H = []) := by
  unfold clip_h
  split
  · split
    · rename_i u0 x0 h0
      intro ρ
      refine acalls_le (us' := [.a (.d (.sl (.nam 7)) x0)]) ?_ (clip_a _ _ rfl)
      exact ⟨argD_le h0 ρ, trivial⟩
    · trivial
  · trivial
end Go.Proofs.Ytofidfkojmbdoaa
