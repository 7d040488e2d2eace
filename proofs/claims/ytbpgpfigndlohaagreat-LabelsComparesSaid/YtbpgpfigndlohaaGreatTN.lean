/- strings.NewReplacer, walked over abstract values. -/
import Derived.Test.YtbpgpfigndlohaaGreatTT
import Derived.Test.YtbpgpfigndlohaaGreatGE
import Derived.Test.YtbpgpfigndlohaaGreatRU
namespace Go.Proofs.YtbpgpfigndlohaaGreat
open Go.RowKit P
set_option linter.unusedSimpArgs false
set_option linter.unusedVariables false
attribute [local irreducible] AS.nf OpV ARun Stk QSem QSemA ACalls EffOp AppOk SrcOk Awp Aops
set_option maxHeartbeats 1000000
def six : List (List AV) := [[.v (.string (mkB [92]))], [.v (.string (mkB [92, 92]))], [.v (.string (mkB [34]))], [.v (.string (mkB [92, 34]))], [.v (.string (mkB [10]))], [.v (.string (mkB [92, 110]))]]
theorem six_one : RowsOne six := fun r hr u hu => by
  simp only [six, List.mem_cons, List.not_mem_nil, or_false] at hr
  rcases hr with rfl | rfl | rfl | rfl | rfl | rfl <;> (simp at hu; subst hu; rfl)
/-- A replacer that has not been used. -/
def repBox : List AV := [.v (.int .u32 0), .v (.int .i32 0), .v (.int .u32 0), .v .nilIface, .sl false 1 six]
set_option maxRecDepth 100000 in
theorem newReplacer_a : ACalls Tryz.prog 20 [.sl false 1 six] [] (fun out H => ∃ B, out = .ret (.v (.pointer (some ⟨B, 0, none⟩))) ∧ H = [(B, repBox)]) := by
  refine acalls_enter _ 12 [.tmp 2] Tryz.func20 (by kernel_rfl) rfl rfl rfl rfl ?_
  dsimp only [slotsOf]
  repeat (first
    | ((first | apply ar_un | apply stk_un); (next => (first | (simp only [go_sem, Nat.reduceBEq, Nat.reduceEqDiff, reduceIte, reduceCtorEq, String.reduceEq, Nat.reduceAdd, Int.reduceToNat]; exact rfl) | exact rfl)))
    | (apply ar_op' rfl rfl rfl rfl; (next => (first
     | (refine evalE_ok (T := TT) rfl ?_; (first | exact trivial | omega | (simp [NFL] <;> omega)))
     | (apply opk ⟨_, .move _, _, _, _, _⟩; first | exact opv_const (cst_plain _) (.inl rfl) | fail)
     | (apply opk ⟨_, .binOp .rem _ _ _ _, _, _, _, _⟩; first | (refine opv_rem rfl rfl rfl ?_; (next => (first | omega | (simp [NFL] <;> omega)))) | fail)
     | (apply opk ⟨_, .binOp .eql _ _ _ _, _, _, _, _⟩; first
      | (refine opv_cmp_t rfl rfl rfl ?_; (next => (first | exact rfl | (simp only [cmpP]; omega) | (simp only [cmpP]; simp [NFL] <;> omega))))
      | (refine opv_cmp_f rfl rfl rfl ?_; (next => (first | exact rfl | (simp only [cmpP]; omega) | (simp only [cmpP]; simp [NFL] <;> omega))))
      | exact opv_bin rfl rfl rfl
      | (refine opv_seq_t rfl rfl rfl ?_; (next => (first | rfl | assumption)))
      | (refine opv_seq_f rfl rfl rfl ?_; (next => (first | rfl | assumption)))
      | exact opv_str rfl rfl rfl
      | fail)
     | (apply opk ⟨_, .call { callee := .builtin .len, args := _, argTypes := _ }, _, _, _, _⟩; first
      | exact opv_len_str (T := TT) rfl rfl rfl
      | exact opv_len_sl (T := TT) rfl rfl rfl
      | exact opv_len_nil (T := TT) rfl rfl rfl
      | fail)
     | (apply opk ⟨_, .build _ _, _, _, _, _⟩; first | exact opv_build (T := TT) rfl rfl rfl rfl rfl | fail)
     | (apply opk ⟨_, .makeInterface _ _, _, _, _, _⟩; first | exact opv_mkif (T := TT) rfl rfl rfl | fail)
     | fail)))
    | (refine arO _ ?_; first
     | (refine arO ⟨_, .move _, _, _, _, _⟩ ?_; first | refine ar_move_sl rfl rfl rfl rfl ?_ | fail)
     | (refine arO ⟨_, .assign _, _, _, _, _⟩ ?_; first
      | refine ar_assign_sl rfl rfl rfl rfl ?_
      | refine ar_op rfl rfl rfl rfl (opv_const (cst_plain _) (.inr rfl)) ?_
      | fail)
     | (refine arO ⟨_, .call { callee := .builtin .append, args := _, argTypes := _ }, _, _, _, _⟩ ?_; first
      | (apply ar_effM rfl rfl; (next => (first
       | (apply effTo_append (T := TT) rfl rfl rfl rfl rfl rfl rfl rfl rfl rfl; (next => (first | exact trivial | exact rowsOne_byteA _ | assumption | (simp [RowsOne, AV.one, AV.rd, AV.cells, cst, Value.oneCell'] <;> omega))); (next => (first | omega | (simp [NFL] <;> omega))))
       | (apply effTo_append (T := TT) rfl (own_c look_hd rfl) rfl rfl rfl rfl rfl rfl rfl rfl; (next => (first | exact trivial | exact rowsOne_byteA _ | assumption | (simp [RowsOne, AV.one, AV.rd, AV.cells, cst, Value.oneCell'] <;> omega))); (next => (first | omega | (simp [NFL] <;> omega))))
       | (apply effTo_append (T := TT) rfl (own_c (look_tl (by first | assumption | (intro e; exact absurd e.symm (by assumption))) look_hd) rfl) rfl rfl rfl rfl rfl rfl rfl rfl; (next => (first | exact trivial | exact rowsOne_byteA _ | assumption | (simp [RowsOne, AV.one, AV.rd, AV.cells, cst, Value.oneCell'] <;> omega))); (next => (first | omega | (simp [NFL] <;> omega))))
       | (apply effTo_append_nil (T := TT) rfl rfl rfl rfl rfl rfl rfl rfl rfl; (next => (first | exact trivial | exact rowsOne_byteA _ | assumption | (simp [RowsOne, AV.one, AV.rd, AV.cells, cst, Value.oneCell'] <;> omega))); (next => (first | omega | (simp [NFL] <;> omega))))
       | fail)))
      | fail)
     | (refine arO ⟨_, .box _ _, _, _, _, _⟩ ?_; first
      | (refine ar_eff rfl rfl (eff_boxB rfl rfl rfl rfl ?_); intro kb hkb; (repeat (have hkn := (freshK_ne hkb).1; replace hkb := (freshK_ne hkb).2)); (try have hkl := freshK_look hkb); clear hkb; refine ar_nf ?_)
      | fail)
     | (refine arO ⟨_, .panic _, _, _, _, _⟩ ?_; first | refine ar_panic rfl rfl rfl rfl ?_ | fail)
     | fail)
    | refine ar_seq ?_
    | (refine arE ?_; refine ar_endM [0, 2, 6] rfl ?_)
    | refine ar_region ?_
    | refine ar_block ?_
    | refine ar_skip ?_
    | refine ar_blk ?_
    | refine ar_dedup rfl ?_
    | (refine arC (.cond _ _ _) ?_; first
     | (refine ar_cond_true rfl ?_ ?_; (next => (first | rfl | (simp only [decide_eq_true_eq, beq_iff_eq, bne_iff_ne, ge_iff_le, gt_iff_lt, ne_eq, Bool.not_eq_true', decide_eq_false_iff_not]; omega))))
     | (refine ar_cond_false rfl ?_ ?_; (next => (first
      | rfl
      | (simp only [decide_eq_false_iff_not, beq_eq_false_iff_ne, bne_eq_false_iff_eq, ge_iff_le, gt_iff_lt, ne_eq, Bool.not_eq_false', decide_eq_true_eq]; omega))))
     | fail)
    | refine ar_exit ?_
    | refine stk_b_hit ?_
    | refine stk_b_miss rfl ?_
    | refine stk_c_exit ?_
    | refine stk_l_exit ?_
    | (refine arC .ret ?_; refine ar_retM [2] ?_)
    | refine stk_c_ret ?_
    | refine stk_b_ret ?_
    | refine stk_l_ret ?_
    | refine stk_nil ?_
    | fail)
  refine ar_eff rfl rfl (eff_append_nil (T := TT) (m := six) (sz := 1) rfl rfl rfl (.inr ⟨_, rfl⟩) rfl rfl (fun F X a hs => adds_rel six_one X a (opV_rel' hs rfl)) (by decide) rfl ?_)
  refine ar_subO rfl (fun F X tm hs => hs.lay (.s 9)) ?_
  refine ar_op' rfl rfl rfl rfl (opv_build (T := TT) rfl rfl rfl rfl rfl) ?_
  refine ar_eff rfl rfl (eff_boxB rfl rfl rfl rfl fun k hk => ?_)
  repeat (first
    | ((first | apply ar_un | apply stk_un); (next => (first | (simp only [go_sem, Nat.reduceBEq, Nat.reduceEqDiff, reduceIte, reduceCtorEq, String.reduceEq, Nat.reduceAdd, Int.reduceToNat]; exact rfl) | exact rfl)))
    | (apply ar_op' rfl rfl rfl rfl; (next => (first
     | (refine evalE_ok (T := TT) rfl ?_; (first | exact trivial | omega | (simp [NFL] <;> omega)))
     | (apply opk ⟨_, .move _, _, _, _, _⟩; first | exact opv_const (cst_plain _) (.inl rfl) | fail)
     | (apply opk ⟨_, .binOp .rem _ _ _ _, _, _, _, _⟩; first | (refine opv_rem rfl rfl rfl ?_; (next => (first | omega | (simp [NFL] <;> omega)))) | fail)
     | (apply opk ⟨_, .binOp .eql _ _ _ _, _, _, _, _⟩; first
      | (refine opv_cmp_t rfl rfl rfl ?_; (next => (first | exact rfl | (simp only [cmpP]; omega) | (simp only [cmpP]; simp [NFL] <;> omega))))
      | (refine opv_cmp_f rfl rfl rfl ?_; (next => (first | exact rfl | (simp only [cmpP]; omega) | (simp only [cmpP]; simp [NFL] <;> omega))))
      | exact opv_bin rfl rfl rfl
      | (refine opv_seq_t rfl rfl rfl ?_; (next => (first | rfl | assumption)))
      | (refine opv_seq_f rfl rfl rfl ?_; (next => (first | rfl | assumption)))
      | exact opv_str rfl rfl rfl
      | fail)
     | (apply opk ⟨_, .call { callee := .builtin .len, args := _, argTypes := _ }, _, _, _, _⟩; first
      | exact opv_len_str (T := TT) rfl rfl rfl
      | exact opv_len_sl (T := TT) rfl rfl rfl
      | exact opv_len_nil (T := TT) rfl rfl rfl
      | fail)
     | (apply opk ⟨_, .build _ _, _, _, _, _⟩; first | exact opv_build (T := TT) rfl rfl rfl rfl rfl | fail)
     | (apply opk ⟨_, .makeInterface _ _, _, _, _, _⟩; first | exact opv_mkif (T := TT) rfl rfl rfl | fail)
     | fail)))
    | (refine arO _ ?_; first
     | (refine arO ⟨_, .move _, _, _, _, _⟩ ?_; first | refine ar_move_sl rfl rfl rfl rfl ?_ | fail)
     | (refine arO ⟨_, .assign _, _, _, _, _⟩ ?_; first
      | refine ar_assign_sl rfl rfl rfl rfl ?_
      | refine ar_op rfl rfl rfl rfl (opv_const (cst_plain _) (.inr rfl)) ?_
      | fail)
     | (refine arO ⟨_, .call { callee := .builtin .append, args := _, argTypes := _ }, _, _, _, _⟩ ?_; first
      | (apply ar_effM rfl rfl; (next => (first
       | (apply effTo_append (T := TT) rfl rfl rfl rfl rfl rfl rfl rfl rfl rfl; (next => (first | exact trivial | exact rowsOne_byteA _ | assumption | (simp [RowsOne, AV.one, AV.rd, AV.cells, cst, Value.oneCell'] <;> omega))); (next => (first | omega | (simp [NFL] <;> omega))))
       | (apply effTo_append (T := TT) rfl (own_c look_hd rfl) rfl rfl rfl rfl rfl rfl rfl rfl; (next => (first | exact trivial | exact rowsOne_byteA _ | assumption | (simp [RowsOne, AV.one, AV.rd, AV.cells, cst, Value.oneCell'] <;> omega))); (next => (first | omega | (simp [NFL] <;> omega))))
       | (apply effTo_append (T := TT) rfl (own_c (look_tl (by first | assumption | (intro e; exact absurd e.symm (by assumption))) look_hd) rfl) rfl rfl rfl rfl rfl rfl rfl rfl; (next => (first | exact trivial | exact rowsOne_byteA _ | assumption | (simp [RowsOne, AV.one, AV.rd, AV.cells, cst, Value.oneCell'] <;> omega))); (next => (first | omega | (simp [NFL] <;> omega))))
       | (apply effTo_append_nil (T := TT) rfl rfl rfl rfl rfl rfl rfl rfl rfl; (next => (first | exact trivial | exact rowsOne_byteA _ | assumption | (simp [RowsOne, AV.one, AV.rd, AV.cells, cst, Value.oneCell'] <;> omega))); (next => (first | omega | (simp [NFL] <;> omega))))
       | fail)))
      | fail)
     | (refine arO ⟨_, .box _ _, _, _, _, _⟩ ?_; first
      | (refine ar_eff rfl rfl (eff_boxB rfl rfl rfl rfl ?_); intro kb hkb; (repeat (have hkn := (freshK_ne hkb).1; replace hkb := (freshK_ne hkb).2)); (try have hkl := freshK_look hkb); clear hkb; refine ar_nf ?_)
      | fail)
     | (refine arO ⟨_, .panic _, _, _, _, _⟩ ?_; first | refine ar_panic rfl rfl rfl rfl ?_ | fail)
     | fail)
    | refine ar_seq ?_
    | (refine arE ?_; refine ar_endM [0, 2, 6] rfl ?_)
    | refine ar_region ?_
    | refine ar_block ?_
    | refine ar_skip ?_
    | refine ar_blk ?_
    | refine ar_dedup rfl ?_
    | (refine arC (.cond _ _ _) ?_; first
     | (refine ar_cond_true rfl ?_ ?_; (next => (first | rfl | (simp only [decide_eq_true_eq, beq_iff_eq, bne_iff_ne, ge_iff_le, gt_iff_lt, ne_eq, Bool.not_eq_true', decide_eq_false_iff_not]; omega))))
     | (refine ar_cond_false rfl ?_ ?_; (next => (first
      | rfl
      | (simp only [decide_eq_false_iff_not, beq_eq_false_iff_ne, bne_eq_false_iff_eq, ge_iff_le, gt_iff_lt, ne_eq, Bool.not_eq_false', decide_eq_true_eq]; omega))))
     | fail)
    | refine ar_exit ?_
    | refine stk_b_hit ?_
    | refine stk_b_miss rfl ?_
    | refine stk_c_exit ?_
    | refine stk_l_exit ?_
    | (refine arC .ret ?_; refine ar_retM [2] ?_)
    | refine stk_c_ret ?_
    | refine stk_b_ret ?_
    | refine stk_l_ret ?_
    | refine stk_nil ?_
    | fail)
  first | exact qret_mk rfl (⟨k, rfl, rfl⟩) | (trace_state; exact qret_mk rfl (⟨k, rfl, rfl⟩))
end Go.Proofs.YtbpgpfigndlohaaGreat
