/- strings.Replacer's buildOnce, walked over abstract values. -/
import Derived.Test.YtbpgpfigndlohaaGreatTC
import Derived.Test.YtbpgpfigndlohaaGreatRU
namespace Go.Proofs.YtbpgpfigndlohaaGreat
open Go.RowKit P
set_option linter.unusedSimpArgs false
set_option linter.unusedVariables false
attribute [local irreducible] AS.nf OpV ARun Stk QSem QSemA ACalls EffOp AppOk SrcOk Awp Aops tabA rowA
set_option maxHeartbeats 1000000
/-- A replacer that has just been made ready. -/
def doneA (k : Nat) : List AV := [.v (.int .u32 0), .v (.int .i32 1), .v (.int .u32 0), .ifc 106 (.v (.pointer (some ⟨k, 0, none⟩))), .v (.slice none 0 0)]
set_option maxRecDepth 100000 in
theorem buildOnce_a (B : Nat) : ACalls Tryz.prog 32 [.v (.pointer (some ⟨B, 0, none⟩))] [(B, rep1A)] (fun out H => ∃ k r, k ≠ r ∧ k ≠ B ∧ r ≠ B ∧ out = .ret (.tu []) ∧ ∀ q cs, look [(B, doneA k), (k, tabA r), (r, rowA)] q = some cs → look H q = some cs) := by
  have h := build_a B
  unfold rep1A at h ⊢
  generalize hsix : (sixT.map (cells EE.toEnc .str)) = six' at h ⊢
  refine acalls_enter _ 10 [] Tryz.func32 (by kernel_rfl) rfl rfl rfl rfl ?_
  dsimp only [slotsOf]
  repeat (first
    | ((first | apply ar_un | apply stk_un); (next => (first | (simp only [go_sem, Nat.reduceBEq, Nat.reduceEqDiff, reduceIte, reduceCtorEq, String.reduceEq, Nat.reduceAdd, Int.reduceToNat]; exact rfl) | exact rfl)))
    | (apply ar_op' rfl rfl rfl rfl; (next => (first
     | (refine evalE_ok (T := TT) rfl ?_; (first | exact trivial | omega | (simp [NFL] <;> omega)))
     | (apply opk ⟨_, .move _, _, _, _, _⟩; first | exact opv_const (cst_plain _) (.inl rfl) | fail)
     | (apply opk ⟨_, .fieldAddr _ _ _, _, _, _, _⟩; first
      | exact opv_field_el (T := TT) rfl rfl rfl rfl rfl rfl
      | exact opv_field_box (T := TT) rfl rfl rfl rfl rfl
      | fail)
     | fail)))
    | (refine arO _ ?_; first
     | (refine arO ⟨_, .move _, _, _, _, _⟩ ?_; first | refine ar_move_sl rfl rfl rfl rfl ?_ | fail)
     | (refine arO ⟨_, .assign _, _, _, _, _⟩ ?_; first
      | refine ar_assign_sl rfl rfl rfl rfl ?_
      | refine ar_op rfl rfl rfl rfl (opv_const (cst_plain _) (.inr rfl)) ?_
      | fail)
     | (refine arO ⟨_, .store _ _ _, _, _, _, _⟩ ?_; first
      | (apply ar_effM rfl rfl; (next => (first
       | (apply effTo_store_own (T := TT) rfl rfl rfl; (next => (first
        | rfl
        | exact look_hd
        | assumption
        | ((repeat (first | exact look_hd | assumption | (apply look_tl; (next => (first | assumption | (intro e; exact absurd e.symm (by assumption)) | fail))) | fail)); done)
        | fail)); (next => rfl); (next => rfl); (next => rfl))
       | (apply effTo_store (T := TT) rfl; (next => (first
        | rfl
        | exact look_hd
        | assumption
        | ((repeat (first | exact look_hd | assumption | (apply look_tl; (next => (first | assumption | (intro e; exact absurd e.symm (by assumption)) | fail))) | fail)); done)
        | fail)); (next => rfl); (next => rfl); (next => rfl); (next => rfl); (next => rfl); (next => rfl); (next => rfl); (next => rfl))
       | fail)))
      | fail)
     | (refine arO ⟨_, .call { callee := .value _, args := _, argTypes := _ }, _, _, _, _⟩ ?_; first
      | (apply ar_callMH rfl (h) rfl rfl; (next => (repeat (first
       | exact PArgs.nil
       | (apply PArgs.cons; (next => (first
        | exact PArg.own rfl rfl
        | exact PArg.rd rfl (Le1.refl _) rfl
        | exact PArg.rd rfl (Le1.rd _ _ _) rfl
        | exact PArg.nil rfl
        | exact PArg.rd rfl (Le1.nil _ _) rfl
        | (refine PArg.rd rfl (Le1.of_eq ?_) rfl; congr 2 <;> (first | omega | (simp; omega) | (simp [NFL]; done))))))))); (next => rfl); (next => rfl); (next => rfl); rintro _ _ ⟨k, r, hkr, hkB, hrB, rfl, rfl⟩; refine ⟨_, rfl, ?_⟩)
      | fail)
     | fail)
    | refine ar_seq ?_
    | (refine arE ?_; refine ar_endM [0] rfl ?_)
    | refine ar_region ?_
    | refine ar_block ?_
    | refine ar_skip ?_
    | refine ar_blk ?_
    | refine ar_dedup rfl ?_
    | (refine arC (.cond _ _ _) ?_; first
     | (refine ar_cond_true rfl ?_ ?_; (next => (first | rfl | (simp only [decide_eq_true_eq, beq_iff_eq, bne_iff_ne, ge_iff_le, gt_iff_lt, ne_eq, Bool.not_eq_true', decide_eq_false_iff_not]; omega))))
     | (refine ar_cond_false rfl ?_ ?_; (next => (first
      | rfl
      | (simp only [decide_eq_false_iff_not, beq_eq_false_iff_ne, bne_eq_false_iff_eq, ge_iff_le, gt_iff_lt, ne_eq, Bool.not_eq_false', decide_eq_true_eq]; omega))))
     | fail)
    | refine ar_exit ?_
    | refine stk_b_hit ?_
    | refine stk_b_miss rfl ?_
    | refine stk_c_exit ?_
    | refine stk_l_exit ?_
    | (refine arC .ret ?_; refine ar_retM [] ?_)
    | refine stk_c_ret ?_
    | refine stk_b_ret ?_
    | refine stk_l_ret ?_
    | refine stk_nil ?_
    | fail)
  refine ar_nil ⟨.tu [], rfl, k, r, hkr, hkB, hrB, rfl, fun q cs hq => ?_⟩
  simp only [look_cons, look_nil] at hq ⊢
  by_cases e : q = B
  · rw [if_pos e] at hq ⊢; exact hq
  · rw [if_neg e] at hq
    rw [if_neg e, if_neg e, if_neg e]; exact hq
end Go.Proofs.YtbpgpfigndlohaaGreat
