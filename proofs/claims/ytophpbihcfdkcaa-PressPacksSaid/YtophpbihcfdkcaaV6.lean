/- UnpackOf's closure, walked over abstract values. -/
import Derived.Test.YtophpbihcfdkcaaV5
namespace Go.Proofs.Ytophpbihcfdkcaa
open Go.RowKit P
set_option linter.unusedSimpArgs false
set_option linter.unusedVariables false
attribute [local irreducible] AS.nf OpV ARun Stk QSem QSemA ACalls EffOp AppOk SrcOk Awp Aops
set_option maxHeartbeats 1000000

set_option maxRecDepth 100000 in
theorem low_none (ka kt : Nat) (hne : kt ≠ ka) (s : List UInt8) (at_ m : Nat) (hm : m ≤ 1000) (hat : at_ ≤ s.length) (hs : s.length ≤ 140737488355328) (h : s.length < at_ + m) :
    ACalls Try.prog 39 [.v (.int .i64 m), .v (.pointer (some ⟨ka, 0, none⟩)), .v (.pointer (some ⟨kt, 0, none⟩))] [(ka, [.v (.int .i64 at_)]), (kt, [.v (.string (mkB s))])] (fun out H => out = .ret (.v (.int .i64 (-1))) ∧ H = [(ka, [.v (.int .i64 at_)]), (kt, [.v (.string (mkB s))])]) := by
  refine acalls_enter _ 32 [.tmp 4] Try.func39 (by kernel_rfl) rfl rfl rfl rfl ?_
  dsimp only [slotsOf]
  repeat (first
    | ((first | apply ar_un | apply stk_un); (next => (first | (simp only [go_sem, Nat.reduceBEq, Nat.reduceEqDiff, reduceIte, reduceCtorEq, String.reduceEq, Nat.reduceAdd, Int.reduceToNat]; exact rfl) | exact rfl)))
    | (apply ar_op' rfl rfl rfl rfl; (next => (first
     | (refine evalE_ok (T := TT) rfl ?_; (first | exact trivial | omega | (simp [NFL] <;> omega)))
     | (apply opk ⟨_, .move _, _, _, _, _⟩; first | exact opv_const (cst_plain _) (.inl rfl) | fail)
     | (apply opk ⟨_, .binOp .add _ _ _ _, _, _, _, _⟩; first | exact opv_bin rfl rfl rfl | fail)
     | (apply opk ⟨_, .binOp .sub _ _ _ _, _, _, _, _⟩; first | exact opv_bin rfl rfl rfl | fail)
     | (apply opk ⟨_, .binOp .mul _ _ _ _, _, _, _, _⟩; first | exact opv_bin rfl rfl rfl | fail)
     | (apply opk ⟨_, .binOp .gtr _ _ _ _, _, _, _, _⟩; first
      | (refine opv_cmp_t rfl rfl rfl ?_; (next => (first | exact rfl | (simp only [cmpP]; omega) | (simp only [cmpP]; simp [NFL] <;> omega))))
      | (refine opv_cmp_f rfl rfl rfl ?_; (next => (first | exact rfl | (simp only [cmpP]; omega) | (simp only [cmpP]; simp [NFL] <;> omega))))
      | exact opv_bin rfl rfl rfl
      | exact opv_str rfl rfl rfl
      | fail)
     | (apply opk ⟨_, .binOp .geq _ _ _ _, _, _, _, _⟩; first
      | (refine opv_cmp_t rfl rfl rfl ?_; (next => (first | exact rfl | (simp only [cmpP]; omega) | (simp only [cmpP]; simp [NFL] <;> omega))))
      | (refine opv_cmp_f rfl rfl rfl ?_; (next => (first | exact rfl | (simp only [cmpP]; omega) | (simp only [cmpP]; simp [NFL] <;> omega))))
      | exact opv_bin rfl rfl rfl
      | exact opv_str rfl rfl rfl
      | fail)
     | (apply opk ⟨_, .convert _ _ _, _, _, _, _⟩; first
      | (refine opv_conv_byte (T := TT) rfl rfl rfl ?_; (next => (first | exact .inl rfl | exact .inr (.inl rfl) | exact .inr (.inr rfl))))
      | (refine opv_conv64 (T := TT) rfl rfl rfl ?_; (next => (first | omega | (simp [NFL] <;> omega))))
      | (refine opv_convu64 (T := TT) rfl rfl rfl ?_; (next => (first | omega | (simp [NFL] <;> omega))))
      | exact opv_conv8 (T := TT) rfl rfl rfl
      | exact opv_conv_int (T := TT) rfl rfl rfl
      | exact opv_conv_str (T := TT) rfl rfl rfl
      | exact opv_bytes_str (T := TT) rfl rfl rfl rfl
      | exact opv_str_bytes (T := TT) rfl rfl rfl rfl
      | fail)
     | (apply opk ⟨_, .call { callee := .builtin .len, args := _, argTypes := _ }, _, _, _, _⟩; first
      | exact opv_len_str (T := TT) rfl rfl rfl
      | exact opv_len_sl (T := TT) rfl rfl rfl
      | exact opv_len_nil (T := TT) rfl rfl rfl
      | fail)
     | (apply opk ⟨_, .load _ _, _, _, _, _⟩; first | exact opv_load_el (T := TT) rfl rfl rfl | exact opv_load_els (T := TT) rfl rfl rfl rfl | fail)
     | fail)))
    | (refine arO _ ?_; first
     | (refine arO ⟨_, .move _, _, _, _, _⟩ ?_; first | refine ar_move_sl rfl rfl rfl rfl ?_ | fail)
     | (refine arO ⟨_, .assign _, _, _, _, _⟩ ?_; first
      | refine ar_assign_sl rfl rfl rfl rfl ?_
      | refine ar_op rfl rfl rfl rfl (opv_const (cst_plain _) (.inr rfl)) ?_
      | fail)
     | (refine arO ⟨_, .load _ _, _, _, _, _⟩ ?_; first
      | refine ar_load_own (T := TT) rfl rfl rfl rfl look_hd rfl rfl rfl rfl ?_
      | (refine ar_load_own (T := TT) rfl rfl rfl rfl (look_tl ?_ look_hd) rfl rfl rfl rfl ?_; (next => (first | assumption | (intro e; exact absurd e.symm (by assumption)))))
      | (refine ar_load_own (T := TT) rfl rfl rfl rfl (look_tl ?_ (look_tl ?_ look_hd)) rfl rfl rfl rfl ?_; (next => (first | assumption | (intro e; exact absurd e.symm (by assumption)))); (next => (first | assumption | (intro e; exact absurd e.symm (by assumption)))))
      | fail)
     | (refine arO ⟨_, .store _ _ _, _, _, _, _⟩ ?_; first
      | (apply ar_effM rfl rfl; (next => (first
       | (apply effTo_store_own (T := TT) rfl rfl rfl; (next => (first
        | rfl
        | exact look_hd
        | assumption
        | ((repeat (first | exact look_hd | assumption | (apply look_tl; (next => (first | assumption | (intro e; exact absurd e.symm (by assumption)) | fail))) | fail)); done)
        | fail)); (next => rfl); (next => rfl); (next => rfl))
       | (apply effTo_store (T := TT) rfl; (next => (first
        | rfl
        | exact look_hd
        | assumption
        | ((repeat (first | exact look_hd | assumption | (apply look_tl; (next => (first | assumption | (intro e; exact absurd e.symm (by assumption)) | fail))) | fail)); done)
        | fail)); (next => rfl); (next => rfl); (next => rfl); (next => rfl); (next => rfl); (next => rfl); (next => rfl); (next => rfl))
       | fail)))
      | fail)
     | fail)
    | refine ar_seq ?_
    | (refine arE ?_; refine ar_endM [0, 1, 2, 4, 5, 6, 12, 16] rfl ?_)
    | refine ar_region ?_
    | refine ar_block ?_
    | refine ar_skip ?_
    | refine ar_blk ?_
    | refine ar_dedup rfl ?_
    | (refine arC (.cond _ _ _) ?_; first
     | (refine ar_cond_true rfl ?_ ?_; (next => (first | rfl | (simp only [decide_eq_true_eq, beq_iff_eq, bne_iff_ne, ge_iff_le, gt_iff_lt, ne_eq, Bool.not_eq_true', decide_eq_false_iff_not]; omega))))
     | (refine ar_cond_false rfl ?_ ?_; (next => (first
      | rfl
      | (simp only [decide_eq_false_iff_not, beq_eq_false_iff_ne, bne_eq_false_iff_eq, ge_iff_le, gt_iff_lt, ne_eq, Bool.not_eq_false', decide_eq_true_eq]; omega))))
     | fail)
    | refine ar_exit ?_
    | refine stk_b_hit ?_
    | refine stk_b_miss rfl ?_
    | refine stk_c_exit ?_
    | refine stk_l_exit ?_
    | (refine arC .ret ?_; refine ar_retM [4] ?_)
    | refine stk_c_ret ?_
    | refine stk_b_ret ?_
    | refine stk_l_ret ?_
    | refine stk_nil ?_
    | fail)
  first | exact qret_mk rfl (⟨rfl, rfl⟩) | (trace_state; exact qret_mk rfl (⟨rfl, rfl⟩))
set_option maxRecDepth 100000 in
theorem low_some (ka kt : Nat) (hne : kt ≠ ka) (s : List UInt8) (at_ m : Nat) (hm : m ≤ 4) (hat : at_ ≤ s.length) (hs : s.length ≤ 140737488355328) (h : ¬ s.length < at_ + m) :
    ACalls Try.prog 39 [.v (.int .i64 m), .v (.pointer (some ⟨ka, 0, none⟩)), .v (.pointer (some ⟨kt, 0, none⟩))] [(ka, [.v (.int .i64 at_)]), (kt, [.v (.string (mkB s))])] (fun out H => out = .ret (.v (.int .i64 (leN ((s.drop at_).take m)))) ∧ H = [(ka, [.v (.int .i64 (at_ + m))]), (kt, [.v (.string (mkB s))])]) := by
  refine acalls_enter _ 32 [.tmp 4] Try.func39 (by kernel_rfl) rfl rfl rfl rfl ?_
  dsimp only [slotsOf]
  repeat (first
    | ((first | apply ar_un | apply stk_un); (next => (first | (simp only [go_sem, Nat.reduceBEq, Nat.reduceEqDiff, reduceIte, reduceCtorEq, String.reduceEq, Nat.reduceAdd, Int.reduceToNat]; exact rfl) | exact rfl)))
    | (apply ar_op' rfl rfl rfl rfl; (next => (first
     | (refine evalE_ok (T := TT) rfl ?_; (first | exact trivial | omega | (simp [NFL] <;> omega)))
     | (apply opk ⟨_, .move _, _, _, _, _⟩; first | exact opv_const (cst_plain _) (.inl rfl) | fail)
     | (apply opk ⟨_, .binOp .add _ _ _ _, _, _, _, _⟩; first | exact opv_bin rfl rfl rfl | fail)
     | (apply opk ⟨_, .binOp .sub _ _ _ _, _, _, _, _⟩; first | exact opv_bin rfl rfl rfl | fail)
     | (apply opk ⟨_, .binOp .mul _ _ _ _, _, _, _, _⟩; first | exact opv_bin rfl rfl rfl | fail)
     | (apply opk ⟨_, .binOp .gtr _ _ _ _, _, _, _, _⟩; first
      | (refine opv_cmp_t rfl rfl rfl ?_; (next => (first | exact rfl | (simp only [cmpP]; omega) | (simp only [cmpP]; simp [NFL] <;> omega))))
      | (refine opv_cmp_f rfl rfl rfl ?_; (next => (first | exact rfl | (simp only [cmpP]; omega) | (simp only [cmpP]; simp [NFL] <;> omega))))
      | exact opv_bin rfl rfl rfl
      | exact opv_str rfl rfl rfl
      | fail)
     | (apply opk ⟨_, .binOp .geq _ _ _ _, _, _, _, _⟩; first
      | (refine opv_cmp_t rfl rfl rfl ?_; (next => (first | exact rfl | (simp only [cmpP]; omega) | (simp only [cmpP]; simp [NFL] <;> omega))))
      | (refine opv_cmp_f rfl rfl rfl ?_; (next => (first | exact rfl | (simp only [cmpP]; omega) | (simp only [cmpP]; simp [NFL] <;> omega))))
      | exact opv_bin rfl rfl rfl
      | exact opv_str rfl rfl rfl
      | fail)
     | (apply opk ⟨_, .convert _ _ _, _, _, _, _⟩; first
      | (refine opv_conv_byte (T := TT) rfl rfl rfl ?_; (next => (first | exact .inl rfl | exact .inr (.inl rfl) | exact .inr (.inr rfl))))
      | (refine opv_conv64 (T := TT) rfl rfl rfl ?_; (next => (first | omega | (simp [NFL] <;> omega))))
      | (refine opv_convu64 (T := TT) rfl rfl rfl ?_; (next => (first | omega | (simp [NFL] <;> omega))))
      | exact opv_conv8 (T := TT) rfl rfl rfl
      | exact opv_conv_int (T := TT) rfl rfl rfl
      | exact opv_conv_str (T := TT) rfl rfl rfl
      | exact opv_bytes_str (T := TT) rfl rfl rfl rfl
      | exact opv_str_bytes (T := TT) rfl rfl rfl rfl
      | fail)
     | (apply opk ⟨_, .call { callee := .builtin .len, args := _, argTypes := _ }, _, _, _, _⟩; first
      | exact opv_len_str (T := TT) rfl rfl rfl
      | exact opv_len_sl (T := TT) rfl rfl rfl
      | exact opv_len_nil (T := TT) rfl rfl rfl
      | fail)
     | (apply opk ⟨_, .load _ _, _, _, _, _⟩; first | exact opv_load_el (T := TT) rfl rfl rfl | exact opv_load_els (T := TT) rfl rfl rfl rfl | fail)
     | fail)))
    | (refine arO _ ?_; first
     | (refine arO ⟨_, .move _, _, _, _, _⟩ ?_; first | refine ar_move_sl rfl rfl rfl rfl ?_ | fail)
     | (refine arO ⟨_, .assign _, _, _, _, _⟩ ?_; first
      | refine ar_assign_sl rfl rfl rfl rfl ?_
      | refine ar_op rfl rfl rfl rfl (opv_const (cst_plain _) (.inr rfl)) ?_
      | fail)
     | (refine arO ⟨_, .load _ _, _, _, _, _⟩ ?_; first
      | refine ar_load_own (T := TT) rfl rfl rfl rfl look_hd rfl rfl rfl rfl ?_
      | (refine ar_load_own (T := TT) rfl rfl rfl rfl (look_tl ?_ look_hd) rfl rfl rfl rfl ?_; (next => (first | assumption | (intro e; exact absurd e.symm (by assumption)))))
      | (refine ar_load_own (T := TT) rfl rfl rfl rfl (look_tl ?_ (look_tl ?_ look_hd)) rfl rfl rfl rfl ?_; (next => (first | assumption | (intro e; exact absurd e.symm (by assumption)))); (next => (first | assumption | (intro e; exact absurd e.symm (by assumption)))))
      | fail)
     | (refine arO ⟨_, .store _ _ _, _, _, _, _⟩ ?_; first
      | (apply ar_effM rfl rfl; (next => (first
       | (apply effTo_store_own (T := TT) rfl rfl rfl; (next => (first
        | rfl
        | exact look_hd
        | assumption
        | ((repeat (first | exact look_hd | assumption | (apply look_tl; (next => (first | assumption | (intro e; exact absurd e.symm (by assumption)) | fail))) | fail)); done)
        | fail)); (next => rfl); (next => rfl); (next => rfl))
       | (apply effTo_store (T := TT) rfl; (next => (first
        | rfl
        | exact look_hd
        | assumption
        | ((repeat (first | exact look_hd | assumption | (apply look_tl; (next => (first | assumption | (intro e; exact absurd e.symm (by assumption)) | fail))) | fail)); done)
        | fail)); (next => rfl); (next => rfl); (next => rfl); (next => rfl); (next => rfl); (next => rfl); (next => rfl); (next => rfl))
       | fail)))
      | fail)
     | fail)
    | refine ar_seq ?_
    | (refine arE ?_; refine ar_endM [0, 1, 2, 4, 5, 6, 12, 16] rfl ?_)
    | refine ar_region ?_
    | refine ar_block ?_
    | refine ar_skip ?_
    | refine ar_blk ?_
    | refine ar_dedup rfl ?_
    | (refine arC (.cond _ _ _) ?_; first
     | (refine ar_cond_true rfl ?_ ?_; (next => (first | rfl | (simp only [decide_eq_true_eq, beq_iff_eq, bne_iff_ne, ge_iff_le, gt_iff_lt, ne_eq, Bool.not_eq_true', decide_eq_false_iff_not]; omega))))
     | (refine ar_cond_false rfl ?_ ?_; (next => (first
      | rfl
      | (simp only [decide_eq_false_iff_not, beq_eq_false_iff_ne, bne_eq_false_iff_eq, ge_iff_le, gt_iff_lt, ne_eq, Bool.not_eq_false', decide_eq_true_eq]; omega))))
     | fail)
    | refine ar_exit ?_
    | refine stk_b_hit ?_
    | refine stk_b_miss rfl ?_
    | refine stk_c_exit ?_
    | refine stk_l_exit ?_
    | (refine arC .ret ?_; refine ar_retM [4] ?_)
    | refine stk_c_ret ?_
    | refine stk_b_ret ?_
    | refine stk_l_ret ?_
    | refine stk_nil ?_
    | fail)
  refine ar_loop (fun j : Nat => ⟨32, [(0, .v (.int .i64 m)), (1, .v (.pointer (some ⟨ka, 0, none⟩))), (2, .v (.pointer (some ⟨kt, 0, none⟩))), (5, .v (.int .i64 (leN ((s.drop (at_ + j)).take (m - j))))), (6, .v (.int .i64 ((j : Int) - 1)))], [(ka, [.v (.int .i64 at_)]), (kt, [.v (.string (mkB s))])], []⟩) (fun j => j ≤ m) (fun j => j) m ⟨rfl, ?_, ?_, rfl⟩ (Nat.le_refl _) ?_
  · (repeat' (first
    | exact trivial
    | exact LeL.refl _
    | exact .refl _
    | refine ⟨⟨_, rfl, ?_⟩, ?_⟩
    | refine ⟨⟨_, look_hd, ?_⟩, ?_⟩
    | refine ⟨⟨_, look_tl (by first | assumption | (intro e; exact absurd e.symm (by assumption))) look_hd, ?_⟩, ?_⟩
    | refine ⟨⟨_, look_tl (by first | assumption | (intro e; exact absurd e.symm (by assumption))) (look_tl (by first | assumption | (intro e; exact absurd e.symm (by assumption))) look_hd), ?_⟩, ?_⟩
    | refine ⟨⟨_, look_tl (by first | assumption | (intro e; exact absurd e.symm (by assumption))) (look_tl (by first | assumption | (intro e; exact absurd e.symm (by assumption))) (look_tl (by first | assumption | (intro e; exact absurd e.symm (by assumption))) look_hd)), ?_⟩, ?_⟩
    | refine ⟨⟨_, look_tl (by first | assumption | (intro e; exact absurd e.symm (by assumption))) (look_tl (by first | assumption | (intro e; exact absurd e.symm (by assumption))) (look_tl (by first | assumption | (intro e; exact absurd e.symm (by assumption))) (look_tl (by first | assumption | (intro e; exact absurd e.symm (by assumption))) look_hd))), ?_⟩, ?_⟩
    | exact .nil _ _
    | exact .rd _ _ _
    | refine LeL.cons ?_ ?_
    | exact LeL.nil
    | refine Le1.of_eq ?_))
    simp [leN]
  · (repeat' (first
    | exact trivial
    | exact LeL.refl _
    | exact .refl _
    | refine ⟨⟨_, rfl, ?_⟩, ?_⟩
    | refine ⟨⟨_, look_hd, ?_⟩, ?_⟩
    | refine ⟨⟨_, look_tl (by first | assumption | (intro e; exact absurd e.symm (by assumption))) look_hd, ?_⟩, ?_⟩
    | refine ⟨⟨_, look_tl (by first | assumption | (intro e; exact absurd e.symm (by assumption))) (look_tl (by first | assumption | (intro e; exact absurd e.symm (by assumption))) look_hd), ?_⟩, ?_⟩
    | refine ⟨⟨_, look_tl (by first | assumption | (intro e; exact absurd e.symm (by assumption))) (look_tl (by first | assumption | (intro e; exact absurd e.symm (by assumption))) (look_tl (by first | assumption | (intro e; exact absurd e.symm (by assumption))) look_hd)), ?_⟩, ?_⟩
    | refine ⟨⟨_, look_tl (by first | assumption | (intro e; exact absurd e.symm (by assumption))) (look_tl (by first | assumption | (intro e; exact absurd e.symm (by assumption))) (look_tl (by first | assumption | (intro e; exact absurd e.symm (by assumption))) (look_tl (by first | assumption | (intro e; exact absurd e.symm (by assumption))) look_hd))), ?_⟩, ?_⟩
    | exact .nil _ _
    | exact .rd _ _ _
    | refine LeL.cons ?_ ?_
    | exact LeL.nil
    | refine Le1.of_eq ?_))
  · intro j hj
    have hV := leN_lt ((s.drop (at_ + j)).take (m - j))
    have hl : ((s.drop (at_ + j)).take (m - j)).length = m - j := by rw [List.length_take, List.length_drop]; omega
    have hp : 256 ^ ((s.drop (at_ + j)).take (m - j)).length ≤ 4294967296 := by rw [hl]; exact Nat.le_trans (Nat.pow_le_pow_right (by decide) (show m - j ≤ 4 by omega)) (by decide)
    obtain ⟨V, hV0⟩ : ∃ V, V = leN ((s.drop (at_ + j)).take (m - j)) := ⟨_, rfl⟩
    rw [← hV0] at hV ⊢
    have hV1 : V ≤ 4294967296 := by omega
    clear hV hp hl
    by_cases hj0 : j = 0
    · subst hj0
      repeat (first
        | ((first | apply ar_un | apply stk_un); (next => (first | (simp only [go_sem, Nat.reduceBEq, Nat.reduceEqDiff, reduceIte, reduceCtorEq, String.reduceEq, Nat.reduceAdd, Int.reduceToNat]; exact rfl) | exact rfl)))
        | (apply ar_op' rfl rfl rfl rfl; (next => (first
         | (refine evalE_ok (T := TT) rfl ?_; (first | exact trivial | omega | (simp [NFL] <;> omega)))
         | (apply opk ⟨_, .move _, _, _, _, _⟩; first | exact opv_const (cst_plain _) (.inl rfl) | fail)
         | (apply opk ⟨_, .binOp .add _ _ _ _, _, _, _, _⟩; first | exact opv_bin rfl rfl rfl | fail)
         | (apply opk ⟨_, .binOp .sub _ _ _ _, _, _, _, _⟩; first | exact opv_bin rfl rfl rfl | fail)
         | (apply opk ⟨_, .binOp .mul _ _ _ _, _, _, _, _⟩; first | exact opv_bin rfl rfl rfl | fail)
         | (apply opk ⟨_, .binOp .gtr _ _ _ _, _, _, _, _⟩; first
          | (refine opv_cmp_t rfl rfl rfl ?_; (next => (first | exact rfl | (simp only [cmpP]; omega) | (simp only [cmpP]; simp [NFL] <;> omega))))
          | (refine opv_cmp_f rfl rfl rfl ?_; (next => (first | exact rfl | (simp only [cmpP]; omega) | (simp only [cmpP]; simp [NFL] <;> omega))))
          | exact opv_bin rfl rfl rfl
          | exact opv_str rfl rfl rfl
          | fail)
         | (apply opk ⟨_, .binOp .geq _ _ _ _, _, _, _, _⟩; first
          | (refine opv_cmp_t rfl rfl rfl ?_; (next => (first | exact rfl | (simp only [cmpP]; omega) | (simp only [cmpP]; simp [NFL] <;> omega))))
          | (refine opv_cmp_f rfl rfl rfl ?_; (next => (first | exact rfl | (simp only [cmpP]; omega) | (simp only [cmpP]; simp [NFL] <;> omega))))
          | exact opv_bin rfl rfl rfl
          | exact opv_str rfl rfl rfl
          | fail)
         | (apply opk ⟨_, .convert _ _ _, _, _, _, _⟩; first
          | (refine opv_conv_byte (T := TT) rfl rfl rfl ?_; (next => (first | exact .inl rfl | exact .inr (.inl rfl) | exact .inr (.inr rfl))))
          | (refine opv_conv64 (T := TT) rfl rfl rfl ?_; (next => (first | omega | (simp [NFL] <;> omega))))
          | (refine opv_convu64 (T := TT) rfl rfl rfl ?_; (next => (first | omega | (simp [NFL] <;> omega))))
          | exact opv_conv8 (T := TT) rfl rfl rfl
          | exact opv_conv_int (T := TT) rfl rfl rfl
          | exact opv_conv_str (T := TT) rfl rfl rfl
          | exact opv_bytes_str (T := TT) rfl rfl rfl rfl
          | exact opv_str_bytes (T := TT) rfl rfl rfl rfl
          | fail)
         | (apply opk ⟨_, .call { callee := .builtin .len, args := _, argTypes := _ }, _, _, _, _⟩; first
          | exact opv_len_str (T := TT) rfl rfl rfl
          | exact opv_len_sl (T := TT) rfl rfl rfl
          | exact opv_len_nil (T := TT) rfl rfl rfl
          | fail)
         | (apply opk ⟨_, .load _ _, _, _, _, _⟩; first | exact opv_load_el (T := TT) rfl rfl rfl | exact opv_load_els (T := TT) rfl rfl rfl rfl | fail)
         | fail)))
        | (refine arO _ ?_; first
         | (refine arO ⟨_, .move _, _, _, _, _⟩ ?_; first | refine ar_move_sl rfl rfl rfl rfl ?_ | fail)
         | (refine arO ⟨_, .assign _, _, _, _, _⟩ ?_; first
          | refine ar_assign_sl rfl rfl rfl rfl ?_
          | refine ar_op rfl rfl rfl rfl (opv_const (cst_plain _) (.inr rfl)) ?_
          | fail)
         | (refine arO ⟨_, .load _ _, _, _, _, _⟩ ?_; first
          | refine ar_load_own (T := TT) rfl rfl rfl rfl look_hd rfl rfl rfl rfl ?_
          | (refine ar_load_own (T := TT) rfl rfl rfl rfl (look_tl ?_ look_hd) rfl rfl rfl rfl ?_; (next => (first | assumption | (intro e; exact absurd e.symm (by assumption)))))
          | (refine ar_load_own (T := TT) rfl rfl rfl rfl (look_tl ?_ (look_tl ?_ look_hd)) rfl rfl rfl rfl ?_; (next => (first | assumption | (intro e; exact absurd e.symm (by assumption)))); (next => (first | assumption | (intro e; exact absurd e.symm (by assumption)))))
          | fail)
         | (refine arO ⟨_, .store _ _ _, _, _, _, _⟩ ?_; first
          | (apply ar_effM rfl rfl; (next => (first
           | (apply effTo_store_own (T := TT) rfl rfl rfl; (next => (first
            | rfl
            | exact look_hd
            | assumption
            | ((repeat (first | exact look_hd | assumption | (apply look_tl; (next => (first | assumption | (intro e; exact absurd e.symm (by assumption)) | fail))) | fail)); done)
            | fail)); (next => rfl); (next => rfl); (next => rfl))
           | (apply effTo_store (T := TT) rfl; (next => (first
            | rfl
            | exact look_hd
            | assumption
            | ((repeat (first | exact look_hd | assumption | (apply look_tl; (next => (first | assumption | (intro e; exact absurd e.symm (by assumption)) | fail))) | fail)); done)
            | fail)); (next => rfl); (next => rfl); (next => rfl); (next => rfl); (next => rfl); (next => rfl); (next => rfl); (next => rfl))
           | fail)))
          | fail)
         | fail)
        | refine ar_seq ?_
        | (refine arE ?_; refine ar_endM [0, 1, 2, 4, 5, 6, 12, 16] rfl ?_)
        | refine ar_region ?_
        | refine ar_block ?_
        | refine ar_skip ?_
        | refine ar_blk ?_
        | refine ar_dedup rfl ?_
        | (refine arC (.cond _ _ _) ?_; first
         | (refine ar_cond_true rfl ?_ ?_; (next => (first | rfl | (simp only [decide_eq_true_eq, beq_iff_eq, bne_iff_ne, ge_iff_le, gt_iff_lt, ne_eq, Bool.not_eq_true', decide_eq_false_iff_not]; omega))))
         | (refine ar_cond_false rfl ?_ ?_; (next => (first
          | rfl
          | (simp only [decide_eq_false_iff_not, beq_eq_false_iff_ne, bne_eq_false_iff_eq, ge_iff_le, gt_iff_lt, ne_eq, Bool.not_eq_false', decide_eq_true_eq]; omega))))
         | fail)
        | refine ar_exit ?_
        | refine stk_b_hit ?_
        | refine stk_b_miss rfl ?_
        | refine stk_c_exit ?_
        | refine stk_l_exit ?_
        | (refine arC .ret ?_; refine ar_retM [4] ?_)
        | refine stk_c_ret ?_
        | refine stk_b_ret ?_
        | refine stk_l_ret ?_
        | refine stk_nil ?_
        | fail)
      first | exact qret_mk rfl (⟨by rw [hV0]; rfl, rfl⟩) | (trace_state; exact qret_mk rfl (⟨by rw [hV0]; rfl, rfl⟩))
    · obtain ⟨i, rfl⟩ : ∃ i, j = i + 1 := ⟨j - 1, by omega⟩
      have hc := (s.getD ((at_ : Int) + (((i + 1 : Nat) : Int) - 1)).toNat 0).toNat_lt
      repeat (first
        | ((first | apply ar_un | apply stk_un); (next => (first | (simp only [go_sem, Nat.reduceBEq, Nat.reduceEqDiff, reduceIte, reduceCtorEq, String.reduceEq, Nat.reduceAdd, Int.reduceToNat]; exact rfl) | exact rfl)))
        | (apply ar_op' rfl rfl rfl rfl; (next => exact opv_add64 rfl rfl rfl (by simp only [bsOf_mkB]; omega)))
        | (apply ar_op' rfl rfl rfl rfl; (next => (first
         | (refine evalE_ok (T := TT) rfl ?_; (first | exact trivial | omega | (simp [NFL] <;> omega)))
         | (apply opk ⟨_, .move _, _, _, _, _⟩; first | exact opv_const (cst_plain _) (.inl rfl) | fail)
         | (apply opk ⟨_, .binOp .add _ _ _ _, _, _, _, _⟩; first | exact opv_bin rfl rfl rfl | fail)
         | (apply opk ⟨_, .binOp .sub _ _ _ _, _, _, _, _⟩; first | exact opv_bin rfl rfl rfl | fail)
         | (apply opk ⟨_, .binOp .mul _ _ _ _, _, _, _, _⟩; first | exact opv_bin rfl rfl rfl | fail)
         | (apply opk ⟨_, .binOp .gtr _ _ _ _, _, _, _, _⟩; first
          | (refine opv_cmp_t rfl rfl rfl ?_; (next => (first | exact rfl | (simp only [cmpP]; omega) | (simp only [cmpP]; simp [NFL] <;> omega))))
          | (refine opv_cmp_f rfl rfl rfl ?_; (next => (first | exact rfl | (simp only [cmpP]; omega) | (simp only [cmpP]; simp [NFL] <;> omega))))
          | exact opv_bin rfl rfl rfl
          | exact opv_str rfl rfl rfl
          | fail)
         | (apply opk ⟨_, .binOp .geq _ _ _ _, _, _, _, _⟩; first
          | (refine opv_cmp_t rfl rfl rfl ?_; (next => (first | exact rfl | (simp only [cmpP]; omega) | (simp only [cmpP]; simp [NFL] <;> omega))))
          | (refine opv_cmp_f rfl rfl rfl ?_; (next => (first | exact rfl | (simp only [cmpP]; omega) | (simp only [cmpP]; simp [NFL] <;> omega))))
          | exact opv_bin rfl rfl rfl
          | exact opv_str rfl rfl rfl
          | fail)
         | (apply opk ⟨_, .convert _ _ _, _, _, _, _⟩; first
          | (refine opv_conv_byte (T := TT) rfl rfl rfl ?_; (next => (first | exact .inl rfl | exact .inr (.inl rfl) | exact .inr (.inr rfl))))
          | (refine opv_conv64 (T := TT) rfl rfl rfl ?_; (next => (first | omega | (simp [NFL] <;> omega))))
          | (refine opv_convu64 (T := TT) rfl rfl rfl ?_; (next => (first | omega | (simp [NFL] <;> omega))))
          | exact opv_conv8 (T := TT) rfl rfl rfl
          | exact opv_conv_int (T := TT) rfl rfl rfl
          | exact opv_conv_str (T := TT) rfl rfl rfl
          | exact opv_bytes_str (T := TT) rfl rfl rfl rfl
          | exact opv_str_bytes (T := TT) rfl rfl rfl rfl
          | fail)
         | (apply opk ⟨_, .call { callee := .builtin .len, args := _, argTypes := _ }, _, _, _, _⟩; first
          | exact opv_len_str (T := TT) rfl rfl rfl
          | exact opv_len_sl (T := TT) rfl rfl rfl
          | exact opv_len_nil (T := TT) rfl rfl rfl
          | fail)
         | (apply opk ⟨_, .load _ _, _, _, _, _⟩; first | exact opv_load_el (T := TT) rfl rfl rfl | exact opv_load_els (T := TT) rfl rfl rfl rfl | fail)
         | fail)))
        | (refine arO _ ?_; first
         | (refine arO ⟨_, .move _, _, _, _, _⟩ ?_; first | refine ar_move_sl rfl rfl rfl rfl ?_ | fail)
         | (refine arO ⟨_, .assign _, _, _, _, _⟩ ?_; first
          | refine ar_assign_sl rfl rfl rfl rfl ?_
          | refine ar_op rfl rfl rfl rfl (opv_const (cst_plain _) (.inr rfl)) ?_
          | fail)
         | (refine arO ⟨_, .load _ _, _, _, _, _⟩ ?_; first
          | refine ar_load_own (T := TT) rfl rfl rfl rfl look_hd rfl rfl rfl rfl ?_
          | (refine ar_load_own (T := TT) rfl rfl rfl rfl (look_tl ?_ look_hd) rfl rfl rfl rfl ?_; (next => (first | assumption | (intro e; exact absurd e.symm (by assumption)))))
          | (refine ar_load_own (T := TT) rfl rfl rfl rfl (look_tl ?_ (look_tl ?_ look_hd)) rfl rfl rfl rfl ?_; (next => (first | assumption | (intro e; exact absurd e.symm (by assumption)))); (next => (first | assumption | (intro e; exact absurd e.symm (by assumption)))))
          | fail)
         | (refine arO ⟨_, .store _ _ _, _, _, _, _⟩ ?_; first
          | (apply ar_effM rfl rfl; (next => (first
           | (apply effTo_store_own (T := TT) rfl rfl rfl; (next => (first
            | rfl
            | exact look_hd
            | assumption
            | ((repeat (first | exact look_hd | assumption | (apply look_tl; (next => (first | assumption | (intro e; exact absurd e.symm (by assumption)) | fail))) | fail)); done)
            | fail)); (next => rfl); (next => rfl); (next => rfl))
           | (apply effTo_store (T := TT) rfl; (next => (first
            | rfl
            | exact look_hd
            | assumption
            | ((repeat (first | exact look_hd | assumption | (apply look_tl; (next => (first | assumption | (intro e; exact absurd e.symm (by assumption)) | fail))) | fail)); done)
            | fail)); (next => rfl); (next => rfl); (next => rfl); (next => rfl); (next => rfl); (next => rfl); (next => rfl); (next => rfl))
           | fail)))
          | fail)
         | fail)
        | refine ar_seq ?_
        | (refine arE ?_; refine ar_endM [0, 1, 2, 4, 5, 6, 12, 16] rfl ?_)
        | refine ar_region ?_
        | refine ar_block ?_
        | refine ar_skip ?_
        | refine ar_blk ?_
        | refine ar_dedup rfl ?_
        | (refine arC (.cond _ _ _) ?_; first
         | (refine ar_cond_true rfl ?_ ?_; (next => (first | rfl | (simp only [decide_eq_true_eq, beq_iff_eq, bne_iff_ne, ge_iff_le, gt_iff_lt, ne_eq, Bool.not_eq_true', decide_eq_false_iff_not]; omega))))
         | (refine ar_cond_false rfl ?_ ?_; (next => (first
          | rfl
          | (simp only [decide_eq_false_iff_not, beq_eq_false_iff_ne, bne_eq_false_iff_eq, ge_iff_le, gt_iff_lt, ne_eq, Bool.not_eq_false', decide_eq_true_eq]; omega))))
         | fail)
        | refine ar_exit ?_
        | refine stk_b_hit ?_
        | refine stk_b_miss rfl ?_
        | refine stk_c_exit ?_
        | refine stk_l_exit ?_
        | (refine arC .ret ?_; refine ar_retM [4] ?_)
        | refine stk_c_ret ?_
        | refine stk_b_ret ?_
        | refine stk_l_ret ?_
        | refine stk_nil ?_
        | fail)
      refine ar_back ⟨i, ⟨rfl, ?_, ?_, rfl⟩, by omega, by omega⟩
      · (repeat' (first
        | exact trivial
        | exact LeL.refl _
        | exact .refl _
        | refine ⟨⟨_, rfl, ?_⟩, ?_⟩
        | refine ⟨⟨_, look_hd, ?_⟩, ?_⟩
        | refine ⟨⟨_, look_tl (by first | assumption | (intro e; exact absurd e.symm (by assumption))) look_hd, ?_⟩, ?_⟩
        | refine ⟨⟨_, look_tl (by first | assumption | (intro e; exact absurd e.symm (by assumption))) (look_tl (by first | assumption | (intro e; exact absurd e.symm (by assumption))) look_hd), ?_⟩, ?_⟩
        | refine ⟨⟨_, look_tl (by first | assumption | (intro e; exact absurd e.symm (by assumption))) (look_tl (by first | assumption | (intro e; exact absurd e.symm (by assumption))) (look_tl (by first | assumption | (intro e; exact absurd e.symm (by assumption))) look_hd)), ?_⟩, ?_⟩
        | refine ⟨⟨_, look_tl (by first | assumption | (intro e; exact absurd e.symm (by assumption))) (look_tl (by first | assumption | (intro e; exact absurd e.symm (by assumption))) (look_tl (by first | assumption | (intro e; exact absurd e.symm (by assumption))) (look_tl (by first | assumption | (intro e; exact absurd e.symm (by assumption))) look_hd))), ?_⟩, ?_⟩
        | exact .nil _ _
        | exact .rd _ _ _
        | refine LeL.cons ?_ ?_
        | exact LeL.nil
        | refine Le1.of_eq ?_))
        · congr 2
          rw [show ((at_ : Int) + (((i + 1 : Nat) : Int) - 1)).toNat = at_ + i by omega, hV0]
          have hlt : at_ + i < s.length := by omega
          rw [List.drop_eq_getElem_cons hlt, show m - i = (m - (i + 1)) + 1 by omega, List.take_succ_cons]
          simp only [leN, List.getD_eq_getElem?_getD, List.getElem?_eq_getElem hlt, Option.getD_some]
          rw [show at_ + i + 1 = at_ + (i + 1) by omega]
          omega
        · congr 2; omega
      · (repeat' (first
        | exact trivial
        | exact LeL.refl _
        | exact .refl _
        | refine ⟨⟨_, rfl, ?_⟩, ?_⟩
        | refine ⟨⟨_, look_hd, ?_⟩, ?_⟩
        | refine ⟨⟨_, look_tl (by first | assumption | (intro e; exact absurd e.symm (by assumption))) look_hd, ?_⟩, ?_⟩
        | refine ⟨⟨_, look_tl (by first | assumption | (intro e; exact absurd e.symm (by assumption))) (look_tl (by first | assumption | (intro e; exact absurd e.symm (by assumption))) look_hd), ?_⟩, ?_⟩
        | refine ⟨⟨_, look_tl (by first | assumption | (intro e; exact absurd e.symm (by assumption))) (look_tl (by first | assumption | (intro e; exact absurd e.symm (by assumption))) (look_tl (by first | assumption | (intro e; exact absurd e.symm (by assumption))) look_hd)), ?_⟩, ?_⟩
        | refine ⟨⟨_, look_tl (by first | assumption | (intro e; exact absurd e.symm (by assumption))) (look_tl (by first | assumption | (intro e; exact absurd e.symm (by assumption))) (look_tl (by first | assumption | (intro e; exact absurd e.symm (by assumption))) (look_tl (by first | assumption | (intro e; exact absurd e.symm (by assumption))) look_hd))), ?_⟩, ?_⟩
        | exact .nil _ _
        | exact .rd _ _ _
        | refine LeL.cons ?_ ?_
        | exact LeL.nil
        | refine Le1.of_eq ?_))
end Go.Proofs.Ytophpbihcfdkcaa
