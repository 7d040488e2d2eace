/- The walk of the law TopPacked, over abstract values. -/
import Derived.Test.YtophpbihcfdkcaaRM
import Derived.Test.YtophpbihcfdkcaaVL
import Derived.Test.YtophpbihcfdkcaaRU
namespace Go.Proofs.Ytophpbihcfdkcaa
open Go.RowKit P
set_option linter.unusedSimpArgs false
set_option linter.unusedVariables false
attribute [local irreducible] AS.nf OpV ARun Stk QSem QSemA ACalls EffOp AppOk SrcOk Awp Aops
set_option maxHeartbeats 16000000

set_option maxRecDepth 100000 in
theorem topPacked_a (L : List Srs) (hL : OkL L) : ACalls Try.prog 14 [.sl false 2 (L.map srsRow)] [] (fun out H => out = .ret (.v (.bool true)) ∧ H = []) := by
  obtain ⟨t, e, hw⟩ : ∃ t e, writeB (L.map toSr) = (t, e) := ⟨_, _, rfl⟩
  by_cases he : e = 0
  · subst he
    have hr := write_read hL hw
    obtain ⟨hc, _, hl⟩ := writeB_ok hw
    obtain ⟨s1, s2⟩ := small_chk hc
    have hp : packB t = ((packB t).1, 0) := by unfold packB; rw [if_neg (by omega)]
    have hu : unpackB (packB t).1 20000 = (t, 0) := unpack_pack (by omega) 20000 (by omega) (by omega)
    have hpl := packB_len (by omega) hp
    generalize (packB t).1 = p at hp hu hpl
    refine acalls_enter _ 58 [.tmp 2] Try.func14 (by kernel_rfl) rfl rfl rfl rfl ?_
    dsimp only [slotsOf]
    repeat (first
      | ((first | apply ar_un | apply stk_un); (next => (first | (simp only [go_sem, Nat.reduceBEq, Nat.reduceEqDiff, reduceIte, reduceCtorEq, String.reduceEq, Nat.reduceAdd, Int.reduceToNat]; exact rfl))))
      | (apply ar_opN rfl rfl rfl rfl; (next => (first | exact opv_pickt rfl rfl rfl | exact opv_pickf rfl rfl rfl)))
      | (apply ar_op' rfl rfl rfl rfl; (next => (first
       | (refine evalE_ok (T := TT) rfl ?_; (first | exact trivial))
       | (apply opk ⟨_, .binOp .eql _ _ _ _, _, _, _, _⟩; first
        | (refine opv_cmp_t rfl rfl rfl ?_; (next => (first | exact rfl)))
        | (refine opv_seq_t rfl rfl rfl ?_; (next => (first | rfl)))
        | fail)
       | (apply opk ⟨_, .binOp .neq _ _ _ _, _, _, _, _⟩; first | (refine opv_cmp_f rfl rfl rfl ?_; (next => (first | (simp only [cmpP]; omega)))) | fail)
       | fail)))
      | (refine arO _ ?_; first
       | (refine arO ⟨_, .move _, _, _, _, _⟩ ?_; first | refine ar_move_sl rfl rfl rfl rfl ?_ | fail)
       | (refine arO ⟨_, .assign _, _, _, _, _⟩ ?_; first | refine ar_assign_sl rfl rfl rfl rfl ?_ | fail)
       | (refine arO ⟨_, .call { callee := .value _, args := _, argTypes := _ }, _, _, _, _⟩ ?_; first
        | (apply ar_callM0 rfl (wireBegun_a) rfl rfl; (next => (repeat (first | exact PArgs.nil))); (next => rfl); (next => rfl); rintro _ _ ⟨rfl, rfl⟩; refine ⟨_, rfl, ?_⟩)
        | (apply ar_callM0 rfl (pressBegun_a) rfl rfl; (next => (repeat (first | exact PArgs.nil))); (next => rfl); (next => rfl); rintro _ _ ⟨rfl, rfl⟩; refine ⟨_, rfl, ?_⟩)
        | (apply ar_callM0 rfl (write_is L hL t 0 hw) rfl rfl; (next => (repeat (first | exact PArgs.nil | (apply PArgs.cons; (next => (first | exact PArg.rd rfl (Le1.refl _) rfl)))))); (next => rfl); (next => rfl); rintro _ _ ⟨rfl, rfl⟩; refine ⟨_, rfl, ?_⟩)
        | (apply ar_callM0 rfl (pack_is t p 0 hp (by omega)) rfl rfl; (next => (repeat (first | exact PArgs.nil | (apply PArgs.cons; (next => (first | exact PArg.rd rfl (Le1.refl _) rfl)))))); (next => rfl); (next => rfl); rintro _ _ ⟨rfl, rfl⟩; refine ⟨_, rfl, ?_⟩)
        | (apply ar_callM0 rfl (unpack_is p 20000 t 0 hu (by omega) (by omega)) rfl rfl; (next => (repeat (first | exact PArgs.nil | (apply PArgs.cons; (next => (first | exact PArg.rd rfl (Le1.refl _) rfl)))))); (next => rfl); (next => rfl); rintro _ _ ⟨rfl, rfl⟩; refine ⟨_, rfl, ?_⟩)
        | (apply ar_callM0 rfl (read_is t L 0 hr (by omega)) rfl rfl; (next => (repeat (first | exact PArgs.nil | (apply PArgs.cons; (next => (first | exact PArg.rd rfl (Le1.refl _) rfl)))))); (next => rfl); (next => rfl); rintro _ _ ⟨rfl, rfl⟩; refine ⟨_, rfl, ?_⟩)
        | (apply ar_callM0 rfl (same_is L (L.map srsRow) rfl s1 s2) rfl rfl; (next => (repeat (first | exact PArgs.nil | (apply PArgs.cons; (next => (first | exact PArg.rd rfl (Le1.refl _) rfl)))))); (next => rfl); (next => rfl); rintro _ _ ⟨rfl, rfl⟩; refine ⟨_, rfl, ?_⟩)
        | fail)
       | fail)
      | refine ar_seq ?_
      | (refine arE ?_; refine ar_endM [0, 2, 3, 4, 5, 6, 7, 8, 9, 15, 22] rfl ?_)
      | refine ar_region ?_
      | refine ar_skip ?_
      | (refine arC (.cond _ _ _) ?_; first | (refine ar_cond_false rfl ?_ ?_; (next => (first | rfl))) | fail)
      | (refine arC .ret ?_; refine ar_retM [2] ?_)
      | refine stk_nil ?_
      | fail)
    first | exact qret_mk rfl (⟨by simp, rfl⟩) | (trace_state; exact qret_mk rfl (⟨by simp, rfl⟩))
  · obtain ⟨rfl, he3⟩ := writeB_bad hw he
    refine acalls_enter _ 58 [.tmp 2] Try.func14 (by kernel_rfl) rfl rfl rfl rfl ?_
    dsimp only [slotsOf]
    repeat (first
      | ((first | apply ar_un | apply stk_un); (next => (first | (simp only [go_sem, Nat.reduceBEq, Nat.reduceEqDiff, reduceIte, reduceCtorEq, String.reduceEq, Nat.reduceAdd, Int.reduceToNat]; exact rfl))))
      | (apply ar_opN rfl rfl rfl rfl; (next => (first | exact opv_pickf rfl rfl rfl)))
      | (apply ar_op' rfl rfl rfl rfl; (next => (first
       | (refine evalE_ok (T := TT) rfl ?_; (first | exact trivial))
       | (apply opk ⟨_, .binOp .neq _ _ _ _, _, _, _, _⟩; first | (refine opv_cmp_t rfl rfl rfl ?_; (next => (first | (simp only [cmpP]; omega)))) | fail)
       | fail)))
      | (refine arO _ ?_; first
       | (refine arO ⟨_, .move _, _, _, _, _⟩ ?_; first | refine ar_move_sl rfl rfl rfl rfl ?_ | fail)
       | (refine arO ⟨_, .call { callee := .value _, args := _, argTypes := _ }, _, _, _, _⟩ ?_; first
        | (apply ar_callM0 rfl (wireBegun_a) rfl rfl; (next => (repeat (first | exact PArgs.nil))); (next => rfl); (next => rfl); rintro _ _ ⟨rfl, rfl⟩; refine ⟨_, rfl, ?_⟩)
        | (apply ar_callM0 rfl (pressBegun_a) rfl rfl; (next => (repeat (first | exact PArgs.nil))); (next => rfl); (next => rfl); rintro _ _ ⟨rfl, rfl⟩; refine ⟨_, rfl, ?_⟩)
        | (apply ar_callM0 rfl (write_is L hL [] e hw) rfl rfl; (next => (repeat (first | exact PArgs.nil | (apply PArgs.cons; (next => (first | exact PArg.rd rfl (Le1.refl _) rfl)))))); (next => rfl); (next => rfl); rintro _ _ ⟨rfl, rfl⟩; refine ⟨_, rfl, ?_⟩)
        | fail)
       | fail)
      | refine ar_seq ?_
      | (refine arE ?_; refine ar_endM [0, 2, 3, 4, 5, 6, 7, 8, 9, 15, 22] rfl ?_)
      | refine ar_region ?_
      | refine ar_skip ?_
      | (refine arC (.cond _ _ _) ?_; first | (refine ar_cond_true rfl ?_ ?_; (next => (first | rfl))) | (refine ar_cond_false rfl ?_ ?_; (next => (first | rfl))) | fail)
      | (refine arC .ret ?_; refine ar_retM [2] ?_)
      | refine stk_c_ret ?_
      | refine stk_nil ?_
      | fail)
    first | exact qret_mk rfl (⟨by simp, rfl⟩) | (trace_state; exact qret_mk rfl (⟨by simp, rfl⟩))
end Go.Proofs.Ytophpbihcfdkcaa
