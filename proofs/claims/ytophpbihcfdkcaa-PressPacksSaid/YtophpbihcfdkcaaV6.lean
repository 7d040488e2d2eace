/- UnpackOf's closure, walked over abstract values. -/
import Derived.Test.YtophpbihcfdkcaaV5
namespace Go.Proofs.Ytophpbihcfdkcaa
open Go.RowKit P
set_option linter.unusedSimpArgs false
set_option linter.unusedVariables false
attribute [local irreducible] OpV ARun Stk QSem QSemA ACalls EffOp AppOk SrcOk Awp Aops
set_option maxHeartbeats 1000000

set_option maxRecDepth 100000 in
theorem low_none (ka kt : Nat) (hne : kt ≠ ka) (s : List UInt8) (at_ m : Nat) (hm : m ≤ 1000) (hat : at_ ≤ s.length) (hs : s.length ≤ 140737488355328) (h : s.length < at_ + m) :
    ACalls Try.prog 39 [.v (.int .i64 m), .v (.pointer (some ⟨ka, 0, none⟩)), .v (.pointer (some ⟨kt, 0, none⟩))] [(ka, [.v (.int .i64 at_)]), (kt, [.v (.string (mkB s))])] (fun out H => out = .ret (.v (.int .i64 (-1))) ∧ H = [(ka, [.v (.int .i64 at_)]), (kt, [.v (.string (mkB s))])]) := by
  refine acalls_enter _ 32 [.tmp 4] Try.func39 (by kernel_rfl) rfl rfl rfl rfl ?_
  dsimp only [slotsOf]
  repeat (first
      | (refine arO _ ?_; first
        | (apply ar_op' rfl rfl rfl rfl; (next => exact opD))
        | (refine arO ⟨_, .assign _, _, _, _, _⟩ ?_; first
          | refine ar_op rfl rfl rfl rfl (opv_const (cst_plain _) (.inr rfl)) ?_
          | refine ar_assign_sl rfl rfl rfl rfl ?_
          | fail)
        | (refine arO ⟨_, .move _, _, _, _, _⟩ ?_; first | refine ar_move_sl rfl rfl rfl rfl ?_ | fail)
        | (refine arO ⟨_, .load _ _, _, _, _, _⟩ ?_; first
          | refine ar_load_own (T := TT) rfl rfl rfl rfl look_hd rfl rfl rfl ?_
          | (refine ar_load_own (T := TT) rfl rfl rfl rfl (look_tl ?_ look_hd) rfl rfl rfl ?_; (next => (first | assumption | (intro e; exact absurd e.symm (by assumption)))))
          | (refine ar_load_own (T := TT) rfl rfl rfl rfl (look_tl ?_ (look_tl ?_ look_hd)) rfl rfl rfl ?_; (next => (first | assumption | (intro e; exact absurd e.symm (by assumption)))); (next => (first | assumption | (intro e; exact absurd e.symm (by assumption)))))
          | fail)
        | (refine arO ⟨_, .call { callee := .builtin .append, args := _, argTypes := _ }, _, _, _, _⟩ ?_; first | refine ar_effD rfl rfl ?_ | fail)
        | (refine arO ⟨_, .store _ _ _, _, _, _, _⟩ ?_; first | refine ar_effD rfl rfl ?_ | fail)
        | (refine arO ⟨_, .mapUpdate _ _ _ _, _, _, _, _⟩ ?_; first | refine ar_effD rfl rfl ?_ | fail)
        | (refine arO ⟨_, .makeMap _ _, _, _, _, _⟩ ?_; first
          | (refine ar_eff rfl rfl (eff_makemap_s (T := TT) rfl rfl rfl rfl ?_); intro kb hkb; (repeat (have hkn := (freshK_ne hkb).1; replace hkb := (freshK_ne hkb).2)); clear hkb; refine ar_normD ?_)
          | fail)
        | (refine arO ⟨_, .alloc _, _, _, _, _⟩ ?_; first
          | (refine ar_eff rfl rfl (eff_alloc (T := TT) rfl rfl ?_); intro kb hkb; (repeat (have hkn := (freshK_ne hkb).1; replace hkb := (freshK_ne hkb).2)); clear hkb; refine ar_normD ?_)
          | fail)
        | (refine arO ⟨_, .box _ _, _, _, _, _⟩ ?_; first
          | (refine ar_eff rfl rfl (eff_boxB rfl rfl rfl rfl ?_); intro kb hkb; (repeat (have hkn := (freshK_ne hkb).1; replace hkb := (freshK_ne hkb).2)); clear hkb; refine ar_normD ?_)
          | fail)
        | refine ar_unwanted' rfl rfl rfl rfl ?_
        | fail)
      | refine ar_seq ?_
      | (refine arE ?_; refine ar_endD [0, 1, 2, 4, 5, 6, 12, 16] ?_)
      | refine ar_region ?_
      | refine ar_block ?_
      | refine ar_skip ?_
      | refine ar_blk ?_
      | refine ar_dedup rfl ?_
      | (refine arC (.cond _ _ _) ?_; first | refine ar_condT rfl ?_ | refine ar_condF rfl ?_ | fail)
      | refine ar_exit ?_
      | refine stk_b_hit ?_
      | refine stk_b_miss rfl ?_
      | refine stk_c_exit ?_
      | refine stk_l_exit ?_
      | (refine arC .ret ?_; refine ar_retD [4] ?_)
      | refine stk_c_ret ?_
      | refine stk_b_ret ?_
      | refine stk_l_ret ?_
      | refine stk_nil ?_
      | (refine arC (.region _ _ true) ?_; refine ar_nop (ar_draw mixed (by kernel_rfl) rfl ?_); (repeat (first | (apply q_op rfl rfl rfl; (next => exact opDQ)) | refine q_unwanted rfl rfl rfl ?_ | fail)); refine q_nil ?_; refine ar_endD [0, 1, 2, 4, 5, 6, 12, 16] ?_)
      | fail)
  first | exact qret_mk rfl (⟨rfl, rfl⟩) | (trace_state; exact qret_mk rfl (⟨rfl, rfl⟩))
set_option maxRecDepth 100000 in
theorem low_some (ka kt : Nat) (hne : kt ≠ ka) (s : List UInt8) (at_ m : Nat) (hm : m ≤ 4) (hat : at_ ≤ s.length) (hs : s.length ≤ 140737488355328) (h : ¬ s.length < at_ + m) :
    ACalls Try.prog 39 [.v (.int .i64 m), .v (.pointer (some ⟨ka, 0, none⟩)), .v (.pointer (some ⟨kt, 0, none⟩))] [(ka, [.v (.int .i64 at_)]), (kt, [.v (.string (mkB s))])] (fun out H => out = .ret (.v (.int .i64 (leN ((s.drop at_).take m)))) ∧ H = [(ka, [.v (.int .i64 (at_ + m))]), (kt, [.v (.string (mkB s))])]) := by
  refine acalls_enter _ 32 [.tmp 4] Try.func39 (by kernel_rfl) rfl rfl rfl rfl ?_
  dsimp only [slotsOf]
  repeat (first
      | (refine arO _ ?_; first
        | (apply ar_op' rfl rfl rfl rfl; (next => exact opD))
        | (refine arO ⟨_, .assign _, _, _, _, _⟩ ?_; first
          | refine ar_op rfl rfl rfl rfl (opv_const (cst_plain _) (.inr rfl)) ?_
          | refine ar_assign_sl rfl rfl rfl rfl ?_
          | fail)
        | (refine arO ⟨_, .move _, _, _, _, _⟩ ?_; first | refine ar_move_sl rfl rfl rfl rfl ?_ | fail)
        | (refine arO ⟨_, .load _ _, _, _, _, _⟩ ?_; first
          | refine ar_load_own (T := TT) rfl rfl rfl rfl look_hd rfl rfl rfl ?_
          | (refine ar_load_own (T := TT) rfl rfl rfl rfl (look_tl ?_ look_hd) rfl rfl rfl ?_; (next => (first | assumption | (intro e; exact absurd e.symm (by assumption)))))
          | (refine ar_load_own (T := TT) rfl rfl rfl rfl (look_tl ?_ (look_tl ?_ look_hd)) rfl rfl rfl ?_; (next => (first | assumption | (intro e; exact absurd e.symm (by assumption)))); (next => (first | assumption | (intro e; exact absurd e.symm (by assumption)))))
          | fail)
        | (refine arO ⟨_, .call { callee := .builtin .append, args := _, argTypes := _ }, _, _, _, _⟩ ?_; first | refine ar_effD rfl rfl ?_ | fail)
        | (refine arO ⟨_, .store _ _ _, _, _, _, _⟩ ?_; first | refine ar_effD rfl rfl ?_ | fail)
        | (refine arO ⟨_, .mapUpdate _ _ _ _, _, _, _, _⟩ ?_; first | refine ar_effD rfl rfl ?_ | fail)
        | (refine arO ⟨_, .makeMap _ _, _, _, _, _⟩ ?_; first
          | (refine ar_eff rfl rfl (eff_makemap_s (T := TT) rfl rfl rfl rfl ?_); intro kb hkb; (repeat (have hkn := (freshK_ne hkb).1; replace hkb := (freshK_ne hkb).2)); clear hkb; refine ar_normD ?_)
          | fail)
        | (refine arO ⟨_, .alloc _, _, _, _, _⟩ ?_; first
          | (refine ar_eff rfl rfl (eff_alloc (T := TT) rfl rfl ?_); intro kb hkb; (repeat (have hkn := (freshK_ne hkb).1; replace hkb := (freshK_ne hkb).2)); clear hkb; refine ar_normD ?_)
          | fail)
        | (refine arO ⟨_, .box _ _, _, _, _, _⟩ ?_; first
          | (refine ar_eff rfl rfl (eff_boxB rfl rfl rfl rfl ?_); intro kb hkb; (repeat (have hkn := (freshK_ne hkb).1; replace hkb := (freshK_ne hkb).2)); clear hkb; refine ar_normD ?_)
          | fail)
        | refine ar_unwanted' rfl rfl rfl rfl ?_
        | fail)
      | refine ar_seq ?_
      | (refine arE ?_; refine ar_endD [0, 1, 2, 4, 5, 6, 12, 16] ?_)
      | refine ar_region ?_
      | refine ar_block ?_
      | refine ar_skip ?_
      | refine ar_blk ?_
      | refine ar_dedup rfl ?_
      | (refine arC (.cond _ _ _) ?_; first | refine ar_condT rfl ?_ | refine ar_condF rfl ?_ | fail)
      | refine ar_exit ?_
      | refine stk_b_hit ?_
      | refine stk_b_miss rfl ?_
      | refine stk_c_exit ?_
      | refine stk_l_exit ?_
      | (refine arC .ret ?_; refine ar_retD [4] ?_)
      | refine stk_c_ret ?_
      | refine stk_b_ret ?_
      | refine stk_l_ret ?_
      | refine stk_nil ?_
      | (refine arC (.region _ _ true) ?_; refine ar_nop (ar_draw mixed (by kernel_rfl) rfl ?_); (repeat (first | (apply q_op rfl rfl rfl; (next => exact opDQ)) | refine q_unwanted rfl rfl rfl ?_ | fail)); refine q_nil ?_; refine ar_endD [0, 1, 2, 4, 5, 6, 12, 16] ?_)
      | fail)
  refine ar_loop (fun j : Nat => ⟨32, [(0, .v (.int .i64 m)), (1, .v (.pointer (some ⟨ka, 0, none⟩))), (2, .v (.pointer (some ⟨kt, 0, none⟩))), (5, .v (.int .i64 (leN ((s.drop (at_ + j)).take (m - j))))), (6, .v (.int .i64 ((j : Int) - 1)))], [(ka, [.v (.int .i64 at_)]), (kt, [.v (.string (mkB s))])], []⟩) (fun j => j ≤ m) (fun j => j) m ⟨rfl, ?_, ?_, rfl⟩ (Nat.le_refl _) ?_
  · (repeat' (first | exact trivial | exact LeL.refl _ | exact .refl _ | refine ⟨⟨_, rfl, ?_⟩, ?_⟩ | refine ⟨⟨_, look_hd, ?_⟩, ?_⟩ | refine ⟨⟨_, look_tl (by first | assumption | (intro e; exact absurd e.symm (by assumption))) look_hd, ?_⟩, ?_⟩ | exact .nil _ _ | exact .rd _ _ _ | refine LeL.cons ?_ ?_ | exact LeL.nil | refine Le1.of_eq ?_))
    simp [leN]
  · (repeat' (first | exact trivial | exact LeL.refl _ | exact .refl _ | refine ⟨⟨_, rfl, ?_⟩, ?_⟩ | refine ⟨⟨_, look_hd, ?_⟩, ?_⟩ | refine ⟨⟨_, look_tl (by first | assumption | (intro e; exact absurd e.symm (by assumption))) look_hd, ?_⟩, ?_⟩ | exact .nil _ _ | exact .rd _ _ _ | refine LeL.cons ?_ ?_ | exact LeL.nil | refine Le1.of_eq ?_))
  · intro j hj
    have hV := leN_lt ((s.drop (at_ + j)).take (m - j))
    have hl : ((s.drop (at_ + j)).take (m - j)).length = m - j := by rw [List.length_take, List.length_drop]; omega
    have hp : 256 ^ ((s.drop (at_ + j)).take (m - j)).length ≤ 4294967296 := by rw [hl]; exact Nat.le_trans (Nat.pow_le_pow_right (by decide) (show m - j ≤ 4 by omega)) (by decide)
    obtain ⟨V, hV0⟩ : ∃ V, V = leN ((s.drop (at_ + j)).take (m - j)) := ⟨_, rfl⟩
    rw [← hV0] at hV ⊢
    have hV1 : V ≤ 4294967296 := by omega
    clear hV hp hl
    by_cases hj0 : j = 0
    · subst hj0
      repeat (first
          | (refine arO _ ?_; first
            | (apply ar_op' rfl rfl rfl rfl; (next => exact opD))
            | (refine arO ⟨_, .assign _, _, _, _, _⟩ ?_; first
              | refine ar_op rfl rfl rfl rfl (opv_const (cst_plain _) (.inr rfl)) ?_
              | refine ar_assign_sl rfl rfl rfl rfl ?_
              | fail)
            | (refine arO ⟨_, .move _, _, _, _, _⟩ ?_; first | refine ar_move_sl rfl rfl rfl rfl ?_ | fail)
            | (refine arO ⟨_, .load _ _, _, _, _, _⟩ ?_; first
              | refine ar_load_own (T := TT) rfl rfl rfl rfl look_hd rfl rfl rfl ?_
              | (refine ar_load_own (T := TT) rfl rfl rfl rfl (look_tl ?_ look_hd) rfl rfl rfl ?_; (next => (first | assumption | (intro e; exact absurd e.symm (by assumption)))))
              | (refine ar_load_own (T := TT) rfl rfl rfl rfl (look_tl ?_ (look_tl ?_ look_hd)) rfl rfl rfl ?_; (next => (first | assumption | (intro e; exact absurd e.symm (by assumption)))); (next => (first | assumption | (intro e; exact absurd e.symm (by assumption)))))
              | fail)
            | (refine arO ⟨_, .call { callee := .builtin .append, args := _, argTypes := _ }, _, _, _, _⟩ ?_; first | refine ar_effD rfl rfl ?_ | fail)
            | (refine arO ⟨_, .store _ _ _, _, _, _, _⟩ ?_; first | refine ar_effD rfl rfl ?_ | fail)
            | (refine arO ⟨_, .mapUpdate _ _ _ _, _, _, _, _⟩ ?_; first | refine ar_effD rfl rfl ?_ | fail)
            | (refine arO ⟨_, .makeMap _ _, _, _, _, _⟩ ?_; first
              | (refine ar_eff rfl rfl (eff_makemap_s (T := TT) rfl rfl rfl rfl ?_); intro kb hkb; (repeat (have hkn := (freshK_ne hkb).1; replace hkb := (freshK_ne hkb).2)); clear hkb; refine ar_normD ?_)
              | fail)
            | (refine arO ⟨_, .alloc _, _, _, _, _⟩ ?_; first
              | (refine ar_eff rfl rfl (eff_alloc (T := TT) rfl rfl ?_); intro kb hkb; (repeat (have hkn := (freshK_ne hkb).1; replace hkb := (freshK_ne hkb).2)); clear hkb; refine ar_normD ?_)
              | fail)
            | (refine arO ⟨_, .box _ _, _, _, _, _⟩ ?_; first
              | (refine ar_eff rfl rfl (eff_boxB rfl rfl rfl rfl ?_); intro kb hkb; (repeat (have hkn := (freshK_ne hkb).1; replace hkb := (freshK_ne hkb).2)); clear hkb; refine ar_normD ?_)
              | fail)
            | refine ar_unwanted' rfl rfl rfl rfl ?_
            | fail)
          | refine ar_seq ?_
          | (refine arE ?_; refine ar_endD [0, 1, 2, 4, 5, 6, 12, 16] ?_)
          | refine ar_region ?_
          | refine ar_block ?_
          | refine ar_skip ?_
          | refine ar_blk ?_
          | refine ar_dedup rfl ?_
          | (refine arC (.cond _ _ _) ?_; first | refine ar_condT rfl ?_ | refine ar_condF rfl ?_ | fail)
          | refine ar_exit ?_
          | refine stk_b_hit ?_
          | refine stk_b_miss rfl ?_
          | refine stk_c_exit ?_
          | refine stk_l_exit ?_
          | (refine arC .ret ?_; refine ar_retD [4] ?_)
          | refine stk_c_ret ?_
          | refine stk_b_ret ?_
          | refine stk_l_ret ?_
          | refine stk_nil ?_
          | (refine arC (.region _ _ true) ?_; refine ar_nop (ar_draw mixed (by kernel_rfl) rfl ?_); (repeat (first | (apply q_op rfl rfl rfl; (next => exact opDQ)) | refine q_unwanted rfl rfl rfl ?_ | fail)); refine q_nil ?_; refine ar_endD [0, 1, 2, 4, 5, 6, 12, 16] ?_)
          | fail)
      first | exact qret_mk rfl (⟨by rw [hV0]; rfl, rfl⟩) | (trace_state; exact qret_mk rfl (⟨by rw [hV0]; rfl, rfl⟩))
    · obtain ⟨i, rfl⟩ : ∃ i, j = i + 1 := ⟨j - 1, by omega⟩
      have hc := (s.getD ((at_ : Int) + (((i + 1 : Nat) : Int) - 1)).toNat 0).toNat_lt
      repeat (first
          | (refine arO _ ?_; first
            | (apply ar_op' rfl rfl rfl rfl; (next => exact opD))
            | (refine arO ⟨_, .assign _, _, _, _, _⟩ ?_; first
              | refine ar_op rfl rfl rfl rfl (opv_const (cst_plain _) (.inr rfl)) ?_
              | refine ar_assign_sl rfl rfl rfl rfl ?_
              | fail)
            | (refine arO ⟨_, .move _, _, _, _, _⟩ ?_; first | refine ar_move_sl rfl rfl rfl rfl ?_ | fail)
            | (refine arO ⟨_, .load _ _, _, _, _, _⟩ ?_; first
              | refine ar_load_own (T := TT) rfl rfl rfl rfl look_hd rfl rfl rfl ?_
              | (refine ar_load_own (T := TT) rfl rfl rfl rfl (look_tl ?_ look_hd) rfl rfl rfl ?_; (next => (first | assumption | (intro e; exact absurd e.symm (by assumption)))))
              | (refine ar_load_own (T := TT) rfl rfl rfl rfl (look_tl ?_ (look_tl ?_ look_hd)) rfl rfl rfl ?_; (next => (first | assumption | (intro e; exact absurd e.symm (by assumption)))); (next => (first | assumption | (intro e; exact absurd e.symm (by assumption)))))
              | fail)
            | (refine arO ⟨_, .call { callee := .builtin .append, args := _, argTypes := _ }, _, _, _, _⟩ ?_; first | refine ar_effD rfl rfl ?_ | fail)
            | (refine arO ⟨_, .store _ _ _, _, _, _, _⟩ ?_; first | refine ar_effD rfl rfl ?_ | fail)
            | (refine arO ⟨_, .mapUpdate _ _ _ _, _, _, _, _⟩ ?_; first | refine ar_effD rfl rfl ?_ | fail)
            | (refine arO ⟨_, .makeMap _ _, _, _, _, _⟩ ?_; first
              | (refine ar_eff rfl rfl (eff_makemap_s (T := TT) rfl rfl rfl rfl ?_); intro kb hkb; (repeat (have hkn := (freshK_ne hkb).1; replace hkb := (freshK_ne hkb).2)); clear hkb; refine ar_normD ?_)
              | fail)
            | (refine arO ⟨_, .alloc _, _, _, _, _⟩ ?_; first
              | (refine ar_eff rfl rfl (eff_alloc (T := TT) rfl rfl ?_); intro kb hkb; (repeat (have hkn := (freshK_ne hkb).1; replace hkb := (freshK_ne hkb).2)); clear hkb; refine ar_normD ?_)
              | fail)
            | (refine arO ⟨_, .box _ _, _, _, _, _⟩ ?_; first
              | (refine ar_eff rfl rfl (eff_boxB rfl rfl rfl rfl ?_); intro kb hkb; (repeat (have hkn := (freshK_ne hkb).1; replace hkb := (freshK_ne hkb).2)); clear hkb; refine ar_normD ?_)
              | fail)
            | refine ar_unwanted' rfl rfl rfl rfl ?_
            | fail)
          | refine ar_seq ?_
          | (refine arE ?_; refine ar_endD [0, 1, 2, 4, 5, 6, 12, 16] ?_)
          | refine ar_region ?_
          | refine ar_block ?_
          | refine ar_skip ?_
          | refine ar_blk ?_
          | refine ar_dedup rfl ?_
          | (refine arC (.cond _ _ _) ?_; first | refine ar_condT rfl ?_ | refine ar_condF rfl ?_ | fail)
          | refine ar_exit ?_
          | refine stk_b_hit ?_
          | refine stk_b_miss rfl ?_
          | refine stk_c_exit ?_
          | refine stk_l_exit ?_
          | (refine arC .ret ?_; refine ar_retD [4] ?_)
          | refine stk_c_ret ?_
          | refine stk_b_ret ?_
          | refine stk_l_ret ?_
          | refine stk_nil ?_
          | (refine arC (.region _ _ true) ?_; refine ar_nop (ar_draw mixed (by kernel_rfl) rfl ?_); (repeat (first | (apply q_op rfl rfl rfl; (next => exact opDQ)) | refine q_unwanted rfl rfl rfl ?_ | fail)); refine q_nil ?_; refine ar_endD [0, 1, 2, 4, 5, 6, 12, 16] ?_)
          | fail)
      refine ar_back ⟨i, ⟨rfl, ?_, ?_, rfl⟩, by omega, by omega⟩
      · (repeat' (first | exact trivial | exact LeL.refl _ | exact .refl _ | refine ⟨⟨_, rfl, ?_⟩, ?_⟩ | refine ⟨⟨_, look_hd, ?_⟩, ?_⟩ | refine ⟨⟨_, look_tl (by first | assumption | (intro e; exact absurd e.symm (by assumption))) look_hd, ?_⟩, ?_⟩ | exact .nil _ _ | exact .rd _ _ _ | refine LeL.cons ?_ ?_ | exact LeL.nil | refine Le1.of_eq ?_))
        · congr 2
          rw [show ((at_ : Int) + (((i + 1 : Nat) : Int) - 1)).toNat = at_ + i by omega, hV0]
          have hlt : at_ + i < s.length := by omega
          rw [List.drop_eq_getElem_cons hlt, show m - i = (m - (i + 1)) + 1 by omega, List.take_succ_cons]
          simp only [leN, List.getD_eq_getElem?_getD, List.getElem?_eq_getElem hlt, Option.getD_some]
          rw [show at_ + i + 1 = at_ + (i + 1) by omega]
          omega
        · congr 2; omega
      · (repeat' (first | exact trivial | exact LeL.refl _ | exact .refl _ | refine ⟨⟨_, rfl, ?_⟩, ?_⟩ | refine ⟨⟨_, look_hd, ?_⟩, ?_⟩ | refine ⟨⟨_, look_tl (by first | assumption | (intro e; exact absurd e.symm (by assumption))) look_hd, ?_⟩, ?_⟩ | exact .nil _ _ | exact .rd _ _ _ | refine LeL.cons ?_ ?_ | exact LeL.nil | refine Le1.of_eq ?_))
end Go.Proofs.Ytophpbihcfdkcaa
