/- The walks of the laws PressUnpacks and PressPacks, over abstract values. -/
import Derived.Test.YtophpbihcfdkcaaVL
import Derived.Test.YtophpbihcfdkcaaV7
namespace Go.Proofs.Ytophpbihcfdkcaa
open Go.RowKit P
set_option linter.unusedSimpArgs false
set_option linter.unusedVariables false
attribute [local irreducible] OpV ARun Stk QSem QSemA ACalls EffOp AppOk SrcOk Awp Aops
set_option maxHeartbeats 1000000

theorem unpackOf_is (s : List UInt8) (most : Int) (t : List UInt8) (e : Nat) (h : unpackB s most = (t, e)) (hs : s.length ≤ 140737488351232) (hmi : -9223372036854775808 ≤ most ∧ most ≤ 9223372036854775807) :
    ACalls Try.prog 24 [.v (.string (mkB s)), .v (.int .i64 most)] [] (fun out H => out = .ret (.tu [.v (.string (mkB t)), .v (.int .i64 e)]) ∧ H = []) := by
  have := unpackOf_a s most hs hmi
  rw [h] at this
  exact this
set_option maxRecDepth 100000 in
theorem pressUnpacks_a (s : List UInt8) (most : Int) (hs : s.length ≤ 140737488351232) (hmi : -9223372036854775808 ≤ most ∧ most ≤ 9223372036854775807) : ACalls Try.prog 6 [.v (.string (mkB s)), .v (.int .i64 most)] [] (fun out H => out = .ret (.v (.bool true)) ∧ H = []) := by
  obtain ⟨t, e, hu⟩ : ∃ t e, unpackB s most = (t, e) := ⟨_, _, rfl⟩
  refine acalls_enter _ 29 [.tmp 4] Try.func6 (by kernel_rfl) rfl rfl rfl rfl ?_
  dsimp only [slotsOf]
  repeat (first
      | (refine arO _ ?_; first
        | (apply ar_op' rfl rfl rfl rfl; (next => exact opD))
        | (refine arO ⟨_, .assign _, _, _, _, _⟩ ?_; first
          | refine ar_op rfl rfl rfl rfl (opv_const (cst_plain _) (.inr rfl)) ?_
          | refine ar_assign_sl rfl rfl rfl rfl ?_
          | fail)
        | (refine arO ⟨_, .move _, _, _, _, _⟩ ?_; first | refine ar_move_sl rfl rfl rfl rfl ?_ | fail)
        | (refine arO ⟨_, .load _ _, _, _, _, _⟩ ?_; first
          | refine ar_load_own (T := TT) rfl rfl rfl rfl look_hd rfl rfl rfl ?_
          | (refine ar_load_own (T := TT) rfl rfl rfl rfl (look_tl ?_ look_hd) rfl rfl rfl ?_; (next => (first | assumption | (intro e; exact absurd e.symm (by assumption)))))
          | (refine ar_load_own (T := TT) rfl rfl rfl rfl (look_tl ?_ (look_tl ?_ look_hd)) rfl rfl rfl ?_; (next => (first | assumption | (intro e; exact absurd e.symm (by assumption)))); (next => (first | assumption | (intro e; exact absurd e.symm (by assumption)))))
          | fail)
        | (refine arO ⟨_, .call { callee := .builtin .append, args := _, argTypes := _ }, _, _, _, _⟩ ?_; first | refine ar_effD rfl rfl ?_ | fail)
        | (refine arO ⟨_, .store _ _ _, _, _, _, _⟩ ?_; first | refine ar_effD rfl rfl ?_ | fail)
        | (refine arO ⟨_, .mapUpdate _ _ _ _, _, _, _, _⟩ ?_; first | refine ar_effD rfl rfl ?_ | fail)
        | (refine arO ⟨_, .makeMap _ _, _, _, _, _⟩ ?_; first
          | (refine ar_eff rfl rfl (eff_makemap_s (T := TT) rfl rfl rfl rfl ?_); intro kb hkb; (repeat (have hkn := (freshK_ne hkb).1; replace hkb := (freshK_ne hkb).2)); clear hkb; refine ar_normD ?_)
          | fail)
        | (refine arO ⟨_, .alloc _, _, _, _, _⟩ ?_; first
          | (refine ar_eff rfl rfl (eff_alloc (T := TT) rfl rfl ?_); intro kb hkb; (repeat (have hkn := (freshK_ne hkb).1; replace hkb := (freshK_ne hkb).2)); clear hkb; refine ar_normD ?_)
          | fail)
        | (refine arO ⟨_, .box _ _, _, _, _, _⟩ ?_; first
          | (refine ar_eff rfl rfl (eff_boxB rfl rfl rfl rfl ?_); intro kb hkb; (repeat (have hkn := (freshK_ne hkb).1; replace hkb := (freshK_ne hkb).2)); clear hkb; refine ar_normD ?_)
          | fail)
        | (refine arO ⟨_, .call { callee := .value _, args := _, argTypes := _ }, _, _, _, _⟩ ?_; first
          | (refine ar_callD0 rfl (unpack_is s most t e hu (by omega) hmi) ?_; rintro _ _ ⟨rfl, rfl⟩; refine ⟨_, rfl, ?_⟩; refine ar_normD ?_)
          | (refine ar_callD0 rfl (unpackOf_is s most t e hu hs hmi) ?_; rintro _ _ ⟨rfl, rfl⟩; refine ⟨_, rfl, ?_⟩; refine ar_normD ?_)
          | (refine ar_callD0 rfl (pressBegun_a) ?_; rintro _ _ ⟨rfl, rfl⟩; refine ⟨_, rfl, ?_⟩; refine ar_normD ?_)
          | (refine ar_callD0 rfl (textIs_a t e (unpackB_err hu)) ?_; rintro _ _ ⟨rfl, rfl⟩; refine ⟨_, rfl, ?_⟩; refine ar_normD ?_)
          | fail)
        | refine ar_unwanted' rfl rfl rfl rfl ?_
        | fail)
      | refine ar_seq ?_
      | (refine arE ?_; refine ar_endD [0, 1, 4, 5, 6, 7, 8] ?_)
      | refine ar_region ?_
      | refine ar_block ?_
      | refine ar_skip ?_
      | refine ar_blk ?_
      | refine ar_dedup rfl ?_
      | (refine arC (.cond _ _ _) ?_; first | refine ar_condT rfl ?_ | refine ar_condF rfl ?_ | fail)
      | refine ar_exit ?_
      | refine stk_b_hit ?_
      | refine stk_b_miss rfl ?_
      | refine stk_c_exit ?_
      | refine stk_l_exit ?_
      | (refine arC .ret ?_; refine ar_retD [4] ?_)
      | refine stk_c_ret ?_
      | refine stk_b_ret ?_
      | refine stk_l_ret ?_
      | refine stk_nil ?_
      | (refine arC (.region _ _ true) ?_; refine ar_nop (ar_draw mixed (by kernel_rfl) rfl ?_); (repeat (first | (apply q_op rfl rfl rfl; (next => exact opDQ)) | refine q_unwanted rfl rfl rfl ?_ | fail)); refine q_nil ?_; refine ar_endD [0, 1, 4, 5, 6, 7, 8] ?_)
      | fail)
  first | exact qret_mk rfl (⟨rfl, rfl⟩) | (trace_state; exact qret_mk rfl (⟨rfl, rfl⟩))
set_option maxRecDepth 100000 in
theorem pressPacks_a (s : List UInt8) (hs : s.length ≤ 140737488351232) : ACalls Try.prog 7 [.v (.string (mkB s))] [] (fun out H => out = .ret (.v (.bool true)) ∧ H = []) := by
  refine acalls_enter _ 55 [.tmp 2] Try.func7 (by kernel_rfl) rfl rfl rfl rfl ?_
  dsimp only [slotsOf]
  by_cases hbig : 20000 < s.length
  · have hp : packB s = ([], 2) := by unfold packB; rw [if_pos hbig]
    repeat (first
        | (refine arO _ ?_; first
          | (apply ar_op' rfl rfl rfl rfl; (next => exact opD))
          | (refine arO ⟨_, .assign _, _, _, _, _⟩ ?_; first
            | refine ar_op rfl rfl rfl rfl (opv_const (cst_plain _) (.inr rfl)) ?_
            | refine ar_assign_sl rfl rfl rfl rfl ?_
            | fail)
          | (refine arO ⟨_, .move _, _, _, _, _⟩ ?_; first | refine ar_move_sl rfl rfl rfl rfl ?_ | fail)
          | (refine arO ⟨_, .load _ _, _, _, _, _⟩ ?_; first
            | refine ar_load_own (T := TT) rfl rfl rfl rfl look_hd rfl rfl rfl ?_
            | (refine ar_load_own (T := TT) rfl rfl rfl rfl (look_tl ?_ look_hd) rfl rfl rfl ?_; (next => (first | assumption | (intro e; exact absurd e.symm (by assumption)))))
            | (refine ar_load_own (T := TT) rfl rfl rfl rfl (look_tl ?_ (look_tl ?_ look_hd)) rfl rfl rfl ?_; (next => (first | assumption | (intro e; exact absurd e.symm (by assumption)))); (next => (first | assumption | (intro e; exact absurd e.symm (by assumption)))))
            | fail)
          | (refine arO ⟨_, .call { callee := .builtin .append, args := _, argTypes := _ }, _, _, _, _⟩ ?_; first | refine ar_effD rfl rfl ?_ | fail)
          | (refine arO ⟨_, .store _ _ _, _, _, _, _⟩ ?_; first | refine ar_effD rfl rfl ?_ | fail)
          | (refine arO ⟨_, .mapUpdate _ _ _ _, _, _, _, _⟩ ?_; first | refine ar_effD rfl rfl ?_ | fail)
          | (refine arO ⟨_, .makeMap _ _, _, _, _, _⟩ ?_; first
            | (refine ar_eff rfl rfl (eff_makemap_s (T := TT) rfl rfl rfl rfl ?_); intro kb hkb; (repeat (have hkn := (freshK_ne hkb).1; replace hkb := (freshK_ne hkb).2)); clear hkb; refine ar_normD ?_)
            | fail)
          | (refine arO ⟨_, .alloc _, _, _, _, _⟩ ?_; first
            | (refine ar_eff rfl rfl (eff_alloc (T := TT) rfl rfl ?_); intro kb hkb; (repeat (have hkn := (freshK_ne hkb).1; replace hkb := (freshK_ne hkb).2)); clear hkb; refine ar_normD ?_)
            | fail)
          | (refine arO ⟨_, .box _ _, _, _, _, _⟩ ?_; first
            | (refine ar_eff rfl rfl (eff_boxB rfl rfl rfl rfl ?_); intro kb hkb; (repeat (have hkn := (freshK_ne hkb).1; replace hkb := (freshK_ne hkb).2)); clear hkb; refine ar_normD ?_)
            | fail)
          | (refine arO ⟨_, .call { callee := .value _, args := _, argTypes := _ }, _, _, _, _⟩ ?_; first
            | (refine ar_callD0 rfl (pressBegun_a) ?_; rintro _ _ ⟨rfl, rfl⟩; refine ⟨_, rfl, ?_⟩; refine ar_normD ?_)
            | (refine ar_callD0 rfl (pack_is s [] 2 hp (by omega)) ?_; rintro _ _ ⟨rfl, rfl⟩; refine ⟨_, rfl, ?_⟩; refine ar_normD ?_)
            | fail)
          | refine ar_unwanted' rfl rfl rfl rfl ?_
          | fail)
        | refine ar_seq ?_
        | (refine arE ?_; refine ar_endD [0, 2, 3, 4, 5, 6, 14] ?_)
        | refine ar_region ?_
        | refine ar_block ?_
        | refine ar_skip ?_
        | refine ar_blk ?_
        | refine ar_dedup rfl ?_
        | (refine arC (.cond _ _ _) ?_; first | refine ar_condT rfl ?_ | refine ar_condF rfl ?_ | fail)
        | refine ar_exit ?_
        | refine stk_b_hit ?_
        | refine stk_b_miss rfl ?_
        | refine stk_c_exit ?_
        | refine stk_l_exit ?_
        | (refine arC .ret ?_; refine ar_retD [2] ?_)
        | refine stk_c_ret ?_
        | refine stk_b_ret ?_
        | refine stk_l_ret ?_
        | refine stk_nil ?_
        | (refine arC (.region _ _ true) ?_; refine ar_nop (ar_draw mixed (by kernel_rfl) rfl ?_); (repeat (first | (apply q_op rfl rfl rfl; (next => exact opDQ)) | refine q_unwanted rfl rfl rfl ?_ | fail)); refine q_nil ?_; refine ar_endD [0, 2, 3, 4, 5, 6, 14] ?_)
        | fail)
    first | exact qret_mk rfl (⟨rfl, rfl⟩) | (trace_state; exact qret_mk rfl (⟨rfl, rfl⟩))
  · have hp : packB s = ((packB s).1, 0) := by unfold packB; rw [if_neg hbig]
    have hu := unpack_pack (s := s) (by omega) 20000 (by omega) (by omega)
    have htl := packB_len (by omega) hp
    have hpl : (packB s).1.length ≤ s.length + s.length / 6 + 32 := by
      have h1 : packB s = (packR s [] 0 0 (num s.length), 0) := by unfold packB; rw [if_neg hbig]
      rw [h1]; exact pack_len (by omega)
    generalize (packB s).1 = t at hp hu htl hpl
    repeat (first
        | (refine arO _ ?_; first
          | (apply ar_op' rfl rfl rfl rfl; (next => exact opD))
          | (refine arO ⟨_, .assign _, _, _, _, _⟩ ?_; first
            | refine ar_op rfl rfl rfl rfl (opv_const (cst_plain _) (.inr rfl)) ?_
            | refine ar_assign_sl rfl rfl rfl rfl ?_
            | fail)
          | (refine arO ⟨_, .move _, _, _, _, _⟩ ?_; first | refine ar_move_sl rfl rfl rfl rfl ?_ | fail)
          | (refine arO ⟨_, .load _ _, _, _, _, _⟩ ?_; first
            | refine ar_load_own (T := TT) rfl rfl rfl rfl look_hd rfl rfl rfl ?_
            | (refine ar_load_own (T := TT) rfl rfl rfl rfl (look_tl ?_ look_hd) rfl rfl rfl ?_; (next => (first | assumption | (intro e; exact absurd e.symm (by assumption)))))
            | (refine ar_load_own (T := TT) rfl rfl rfl rfl (look_tl ?_ (look_tl ?_ look_hd)) rfl rfl rfl ?_; (next => (first | assumption | (intro e; exact absurd e.symm (by assumption)))); (next => (first | assumption | (intro e; exact absurd e.symm (by assumption)))))
            | fail)
          | (refine arO ⟨_, .call { callee := .builtin .append, args := _, argTypes := _ }, _, _, _, _⟩ ?_; first | refine ar_effD rfl rfl ?_ | fail)
          | (refine arO ⟨_, .store _ _ _, _, _, _, _⟩ ?_; first | refine ar_effD rfl rfl ?_ | fail)
          | (refine arO ⟨_, .mapUpdate _ _ _ _, _, _, _, _⟩ ?_; first | refine ar_effD rfl rfl ?_ | fail)
          | (refine arO ⟨_, .makeMap _ _, _, _, _, _⟩ ?_; first
            | (refine ar_eff rfl rfl (eff_makemap_s (T := TT) rfl rfl rfl rfl ?_); intro kb hkb; (repeat (have hkn := (freshK_ne hkb).1; replace hkb := (freshK_ne hkb).2)); clear hkb; refine ar_normD ?_)
            | fail)
          | (refine arO ⟨_, .alloc _, _, _, _, _⟩ ?_; first
            | (refine ar_eff rfl rfl (eff_alloc (T := TT) rfl rfl ?_); intro kb hkb; (repeat (have hkn := (freshK_ne hkb).1; replace hkb := (freshK_ne hkb).2)); clear hkb; refine ar_normD ?_)
            | fail)
          | (refine arO ⟨_, .box _ _, _, _, _, _⟩ ?_; first
            | (refine ar_eff rfl rfl (eff_boxB rfl rfl rfl rfl ?_); intro kb hkb; (repeat (have hkn := (freshK_ne hkb).1; replace hkb := (freshK_ne hkb).2)); clear hkb; refine ar_normD ?_)
            | fail)
          | (refine arO ⟨_, .call { callee := .value _, args := _, argTypes := _ }, _, _, _, _⟩ ?_; first
            | (refine ar_callD0 rfl (pressBegun_a) ?_; rintro _ _ ⟨rfl, rfl⟩; refine ⟨_, rfl, ?_⟩; refine ar_normD ?_)
            | (refine ar_callD0 rfl (pack_is s t 0 hp (by omega)) ?_; rintro _ _ ⟨rfl, rfl⟩; refine ⟨_, rfl, ?_⟩; refine ar_normD ?_)
            | (refine ar_callD0 rfl (unpackOf_is t 20000 s 0 hu (by omega) (by omega)) ?_; rintro _ _ ⟨rfl, rfl⟩; refine ⟨_, rfl, ?_⟩; refine ar_normD ?_)
            | fail)
          | refine ar_unwanted' rfl rfl rfl rfl ?_
          | fail)
        | refine ar_seq ?_
        | (refine arE ?_; refine ar_endD [0, 2, 3, 4, 5, 6, 14] ?_)
        | refine ar_region ?_
        | refine ar_block ?_
        | refine ar_skip ?_
        | refine ar_blk ?_
        | refine ar_dedup rfl ?_
        | (refine arC (.cond _ _ _) ?_; first | refine ar_condT rfl ?_ | refine ar_condF rfl ?_ | fail)
        | refine ar_exit ?_
        | refine stk_b_hit ?_
        | refine stk_b_miss rfl ?_
        | refine stk_c_exit ?_
        | refine stk_l_exit ?_
        | (refine arC .ret ?_; refine ar_retD [2] ?_)
        | refine stk_c_ret ?_
        | refine stk_b_ret ?_
        | refine stk_l_ret ?_
        | refine stk_nil ?_
        | (refine arC (.region _ _ true) ?_; refine ar_nop (ar_draw mixed (by kernel_rfl) rfl ?_); (repeat (first | (apply q_op rfl rfl rfl; (next => exact opDQ)) | refine q_unwanted rfl rfl rfl ?_ | fail)); refine q_nil ?_; refine ar_endD [0, 2, 3, 4, 5, 6, 14] ?_)
        | fail)
    first | exact qret_mk rfl (⟨rfl, rfl⟩) | (trace_state; exact qret_mk rfl (⟨rfl, rfl⟩))
end Go.Proofs.Ytophpbihcfdkcaa
