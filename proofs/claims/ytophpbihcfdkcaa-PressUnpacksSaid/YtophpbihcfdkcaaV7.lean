/- The reference's UnpackOf, walked over abstract values. Written by gen/v7.py. -/
import Derived.Test.YtophpbihcfdkcaaV6
import Derived.Test.YtophpbihcfdkcaaRU
namespace Go.Proofs.Ytophpbihcfdkcaa
open Go.RowKit P
set_option linter.unusedSimpArgs false
set_option linter.unusedVariables false
attribute [local irreducible] AS.nf OpV ARun Stk QSem QSemA ACalls EffOp AppOk SrcOk Awp Aops
set_option maxHeartbeats 100000000

theorem getD_drop (s : List UInt8) (a : Nat) (h : a < s.length) : s.drop a = s.getD a 0 :: s.drop (a + 1) := by
  rw [List.drop_eq_getElem_cons h]; simp [h]
theorem take_snoc (s : List UInt8) (a i : Nat) (h : a + i < s.length) : (s.drop a).take (i + 1) = (s.drop a).take i ++ [s.getD (a + i) 0] := by
  have hl : i < (s.drop a).length := by rw [List.length_drop]; omega
  rw [List.take_succ_eq_append_getElem hl]
  simp [h]
theorem copyB_snoc' (back n : Nat) (o : List UInt8) (x : UInt8) (h : x = (copyB back n o).getD ((copyB back n o).length - back) 0) : copyB back (n + 1) o = copyB back n o ++ [x] := by rw [copyB_snoc, h]

set_option maxRecDepth 100000 in
theorem unpackOf_a (s : List UInt8) (most : Int) (hs : s.length ≤ 140737488351232) (hmi : -9223372036854775808 ≤ most ∧ most ≤ 9223372036854775807) :
    ACalls Try.prog 24 [.v (.string (mkB s)), .v (.int .i64 most)] [] (fun out H => out = .ret (.tu [.v (.string (mkB (unpackB s most).1)), .v (.int .i64 (unpackB s most).2)]) ∧ H = []) := by
  refine acalls_enter _ 162 [.tmp 4, .tmp 5] Try.func24 (by kernel_rfl) rfl rfl rfl rfl ?_
  dsimp only [slotsOf]
  by_cases hm : most < 0 ∨ 20000 < most
  · have hu : unpackB s most = ([], 3) := by unfold unpackB; rw [if_pos hm]
    rw [hu]
    rcases hm with hm0 | hm0
    all_goals (repeat (first
      | ((first | apply ar_un | apply stk_un); (next => (first | (simp only [go_sem, Nat.reduceBEq, Nat.reduceEqDiff, reduceIte, reduceCtorEq, String.reduceEq, Nat.reduceAdd, Int.reduceToNat]; exact rfl))))
      | (first
       | refine ar_unwantedN rfl rfl rfl rfl ?_
       | (apply ar_opN rfl rfl rfl rfl; (next => (first | exact opv_pickt_cb rfl rfl | exact opv_pickf rfl rfl rfl | fail)))
       | fail)
      | (refine arC .ret ?_; refine ar_retM0 [4, 5] ?_)
      | (apply ar_op' rfl rfl rfl rfl; (next => (first
       | (refine evalE_ok (T := TT) rfl ?_; (first | exact trivial))
       | (apply opk ⟨_, .binOp .lss _ _ _ _, _, _, _, _⟩; first
        | (refine opv_cmp_t rfl rfl rfl ?_; (next => (first | (simp only [cmpP]; omega))))
        | (refine opv_cmp_f rfl rfl rfl ?_; (next => (first | (simp only [cmpP]; omega))))
        | fail)
       | (apply opk ⟨_, .binOp .gtr _ _ _ _, _, _, _, _⟩; first | (refine opv_cmp_t rfl rfl rfl ?_; (next => (first | (simp only [cmpP]; omega)))) | fail)
       | fail)))
      | (refine arO _ ?_; first
       | (refine arO ⟨_, .box _ _, _, _, _, _⟩ ?_; first
        | (refine ar_eff rfl rfl (eff_boxB rfl rfl rfl rfl ?_); intro kb hkb; (repeat (have hkn := (freshK_ne hkb).1; replace hkb := (freshK_ne hkb).2)); (try have hkl := freshK_look hkb); clear hkb; refine ar_nf ?_)
        | fail)
       | fail)
      | refine ar_seq ?_
      | (refine arE ?_; refine ar_endM [0, 1, 2, 4, 5, 6, 7, 8, 9, 10, 11, 12, 13, 14, 15, 16, 17, 18, 24, 32, 36, 43, 54, 57, 81, 84, 102, 103, 111, 117, 121, 140, 143, 159] rfl ?_)
      | refine ar_region ?_
      | (refine arC (.cond _ _ _) ?_; first | (refine ar_cond_true rfl ?_ ?_; (next => (first | rfl))) | fail)
      | refine stk_c_ret ?_
      | refine stk_nil ?_
      | fail))
    all_goals (exact qret_mk rfl (⟨rfl, rfl⟩))
  have hm0 : ¬ most < 0 := by omega
  have hm1 : ¬ 20000 < most := by omega
  obtain ⟨n, k, e, hrd⟩ : ∃ n k e, rd s = (n, k, e) := ⟨_, _, _, rfl⟩
  have hrk : k ≤ 10 ∧ e ≤ 3 := by
    by_cases he : e = 0
    · subst he; have := rd_fine hrd; omega
    · have := rd_bad hrd he; omega
  by_cases he : ¬ e = 0
  · have hu : unpackB s most = ([], 1) := by unfold unpackB; rw [if_neg (by omega), hrd, if_pos he]
    repeat (first
      | ((first | apply ar_un | apply stk_un); (next => (first | (simp only [go_sem, Nat.reduceBEq, Nat.reduceEqDiff, reduceIte, reduceCtorEq, String.reduceEq, Nat.reduceAdd, Int.reduceToNat]; exact rfl))))
      | (first | (apply ar_opN rfl rfl rfl rfl; (next => (first | exact opv_pickf rfl rfl rfl | fail))) | fail)
      | (refine arC .ret ?_; refine ar_retM0 [4, 5] ?_)
      | (apply ar_op' rfl rfl rfl rfl; (next => (first
       | (refine evalE_ok (T := TT) rfl ?_; (first | exact trivial))
       | (apply opk ⟨_, .binOp .neq _ _ _ _, _, _, _, _⟩; first | (refine opv_cmp_t rfl rfl rfl ?_; (next => (first | (simp only [cmpP]; omega)))) | fail)
       | (apply opk ⟨_, .binOp .lss _ _ _ _, _, _, _, _⟩; first | (refine opv_cmp_f rfl rfl rfl ?_; (next => (first | (simp only [cmpP]; omega)))) | fail)
       | (apply opk ⟨_, .binOp .gtr _ _ _ _, _, _, _, _⟩; first | (refine opv_cmp_f rfl rfl rfl ?_; (next => (first | (simp only [cmpP]; omega)))) | fail)
       | fail)))
      | (refine arO _ ?_; first
       | (refine arO ⟨_, .load _ _, _, _, _, _⟩ ?_; first | refine ar_load_own (T := TT) rfl rfl rfl rfl look_hd rfl rfl rfl rfl ?_ | fail)
       | (refine arO ⟨_, .store _ _ _, _, _, _, _⟩ ?_; first
        | (apply ar_effM rfl rfl; (next => (first
         | (apply effTo_store (T := TT) rfl; (next => (first | exact look_hd | fail)); (next => rfl); (next => rfl); (next => rfl); (next => rfl); (next => rfl); (next => rfl); (next => rfl); (next => rfl))
         | fail)))
        | fail)
       | (refine arO ⟨_, .alloc _, _, _, _, _⟩ ?_; first
        | (refine ar_eff rfl rfl (eff_alloc (T := TT) rfl rfl ?_); intro kb hkb; (repeat (have hkn := (freshK_ne hkb).1; replace hkb := (freshK_ne hkb).2)); (try have hkl := freshK_look hkb); clear hkb; refine ar_nf ?_)
        | fail)
       | (refine arO ⟨_, .box _ _, _, _, _, _⟩ ?_; first
        | (refine ar_eff rfl rfl (eff_boxB rfl rfl rfl rfl ?_); intro kb hkb; (repeat (have hkn := (freshK_ne hkb).1; replace hkb := (freshK_ne hkb).2)); (try have hkl := freshK_look hkb); clear hkb; refine ar_nf ?_)
        | fail)
       | (refine arO ⟨_, .call { callee := .value _, args := _, argTypes := _ }, _, _, _, _⟩ ?_; first
        | (apply ar_callM0 rfl (numberAt_a s n k e hrd (by omega)) rfl rfl; (next => (repeat (first | exact PArgs.nil | (apply PArgs.cons; (next => (first | exact PArg.rd rfl (Le1.refl _) rfl)))))); (next => rfl); (next => rfl); rintro _ _ ⟨rfl, rfl⟩; refine ⟨_, rfl, ?_⟩)
        | fail)
       | fail)
      | refine ar_seq ?_
      | (refine arE ?_; refine ar_endM [0, 1, 2, 4, 5, 6, 7, 8, 9, 10, 11, 12, 13, 14, 15, 16, 17, 18, 24, 32, 36, 43, 54, 57, 81, 84, 102, 103, 111, 117, 121, 140, 143, 159] rfl ?_)
      | refine ar_region ?_
      | refine ar_skip ?_
      | refine ar_dedup rfl ?_
      | (refine arC (.cond _ _ _) ?_; first | (refine ar_cond_true rfl ?_ ?_; (next => (first | rfl))) | (refine ar_cond_false rfl ?_ ?_; (next => (first | rfl))) | fail)
      | refine stk_c_ret ?_
      | refine stk_nil ?_
      | fail)
    first | exact qret_mk rfl (⟨by rw [hu]; rfl, rfl⟩) | (trace_state; exact qret_mk rfl (⟨by rw [hu]; rfl, rfl⟩))
  have he0 : e = 0 := by omega
  subst he0
  have hf := rd_fine hrd
  by_cases hn : most < n
  · have hu : unpackB s most = ([], 2) := by unfold unpackB; rw [if_neg (by omega), hrd, if_neg (by simp), if_pos hn]
    repeat (first
      | ((first | apply ar_un | apply stk_un); (next => (first | (simp only [go_sem, Nat.reduceBEq, Nat.reduceEqDiff, reduceIte, reduceCtorEq, String.reduceEq, Nat.reduceAdd, Int.reduceToNat]; exact rfl))))
      | (first | (apply ar_opN rfl rfl rfl rfl; (next => (first | exact opv_pickf rfl rfl rfl | fail))) | fail)
      | (refine arC .ret ?_; refine ar_retM0 [4, 5] ?_)
      | (apply ar_op' rfl rfl rfl rfl; (next => (first
       | (refine evalE_ok (T := TT) rfl ?_; (first | exact trivial))
       | (apply opk ⟨_, .binOp .neq _ _ _ _, _, _, _, _⟩; first | (refine opv_cmp_f rfl rfl rfl ?_; (next => (first | (simp only [cmpP]; omega)))) | fail)
       | (apply opk ⟨_, .binOp .lss _ _ _ _, _, _, _, _⟩; first | (refine opv_cmp_f rfl rfl rfl ?_; (next => (first | (simp only [cmpP]; omega)))) | fail)
       | (apply opk ⟨_, .binOp .gtr _ _ _ _, _, _, _, _⟩; first
        | (refine opv_cmp_t rfl rfl rfl ?_; (next => (first | (simp only [cmpP]; omega))))
        | (refine opv_cmp_f rfl rfl rfl ?_; (next => (first | (simp only [cmpP]; omega))))
        | fail)
       | (apply opk ⟨_, .convert _ _ _, _, _, _, _⟩; first | (refine opv_convu64 (T := TT) rfl rfl rfl ?_; (next => (first | omega))) | fail)
       | fail)))
      | (refine arO _ ?_; first
       | (refine arO ⟨_, .load _ _, _, _, _, _⟩ ?_; first | refine ar_load_own (T := TT) rfl rfl rfl rfl look_hd rfl rfl rfl rfl ?_ | fail)
       | (refine arO ⟨_, .store _ _ _, _, _, _, _⟩ ?_; first
        | (apply ar_effM rfl rfl; (next => (first
         | (apply effTo_store (T := TT) rfl; (next => (first | exact look_hd | fail)); (next => rfl); (next => rfl); (next => rfl); (next => rfl); (next => rfl); (next => rfl); (next => rfl); (next => rfl))
         | fail)))
        | fail)
       | (refine arO ⟨_, .alloc _, _, _, _, _⟩ ?_; first
        | (refine ar_eff rfl rfl (eff_alloc (T := TT) rfl rfl ?_); intro kb hkb; (repeat (have hkn := (freshK_ne hkb).1; replace hkb := (freshK_ne hkb).2)); (try have hkl := freshK_look hkb); clear hkb; refine ar_nf ?_)
        | fail)
       | (refine arO ⟨_, .box _ _, _, _, _, _⟩ ?_; first
        | (refine ar_eff rfl rfl (eff_boxB rfl rfl rfl rfl ?_); intro kb hkb; (repeat (have hkn := (freshK_ne hkb).1; replace hkb := (freshK_ne hkb).2)); (try have hkl := freshK_look hkb); clear hkb; refine ar_nf ?_)
        | fail)
       | (refine arO ⟨_, .call { callee := .value _, args := _, argTypes := _ }, _, _, _, _⟩ ?_; first
        | (apply ar_callM0 rfl (numberAt_a s n k 0 hrd (by omega)) rfl rfl; (next => (repeat (first | exact PArgs.nil | (apply PArgs.cons; (next => (first | exact PArg.rd rfl (Le1.refl _) rfl)))))); (next => rfl); (next => rfl); rintro _ _ ⟨rfl, rfl⟩; refine ⟨_, rfl, ?_⟩)
        | fail)
       | fail)
      | refine ar_seq ?_
      | (refine arE ?_; refine ar_endM [0, 1, 2, 4, 5, 6, 7, 8, 9, 10, 11, 12, 13, 14, 15, 16, 17, 18, 24, 32, 36, 43, 54, 57, 81, 84, 102, 103, 111, 117, 121, 140, 143, 159] rfl ?_)
      | refine ar_region ?_
      | refine ar_skip ?_
      | refine ar_dedup rfl ?_
      | (refine arC (.cond _ _ _) ?_; first | (refine ar_cond_true rfl ?_ ?_; (next => (first | rfl))) | (refine ar_cond_false rfl ?_ ?_; (next => (first | rfl))) | fail)
      | refine stk_c_ret ?_
      | refine stk_nil ?_
      | fail)
    first | exact qret_mk rfl (⟨by rw [hu]; rfl, rfl⟩) | (trace_state; exact qret_mk rfl (⟨by rw [hu]; rfl, rfl⟩))
  have hu : unpackB s most = match elems (s.drop k) [] n with
      | none => ([], 1)
      | some o => if o.length < n then ([], 1) else (o, 0) := by unfold unpackB; rw [if_neg (by omega), hrd, if_neg (by simp), if_neg (by simpa using hn)]; try rfl
  repeat (first
    | ((first | apply ar_un); (next => (first | (simp only [go_sem, Nat.reduceBEq, Nat.reduceEqDiff, reduceIte, reduceCtorEq, String.reduceEq, Nat.reduceAdd, Int.reduceToNat]; exact rfl))))
    | (first | (apply ar_opN rfl rfl rfl rfl; (next => (first | exact opv_pickf rfl rfl rfl | fail))) | fail)
    | (apply ar_op' rfl rfl rfl rfl; (next => (first
     | (refine evalE_ok (T := TT) rfl ?_; (first | exact trivial))
     | (apply opk ⟨_, .binOp .neq _ _ _ _, _, _, _, _⟩; first | (refine opv_cmp_f rfl rfl rfl ?_; (next => (first | (simp only [cmpP]; omega)))) | fail)
     | (apply opk ⟨_, .binOp .lss _ _ _ _, _, _, _, _⟩; first | (refine opv_cmp_f rfl rfl rfl ?_; (next => (first | (simp only [cmpP]; omega)))) | fail)
     | (apply opk ⟨_, .binOp .gtr _ _ _ _, _, _, _, _⟩; first | (refine opv_cmp_f rfl rfl rfl ?_; (next => (first | (simp only [cmpP]; omega)))) | fail)
     | (apply opk ⟨_, .convert _ _ _, _, _, _, _⟩; first
      | (refine opv_conv64 (T := TT) rfl rfl rfl ?_; (next => (first | omega)))
      | (refine opv_convu64 (T := TT) rfl rfl rfl ?_; (next => (first | omega)))
      | fail)
     | fail)))
    | (refine arO _ ?_; first
     | (refine arO ⟨_, .load _ _, _, _, _, _⟩ ?_; first | refine ar_load_own (T := TT) rfl rfl rfl rfl look_hd rfl rfl rfl rfl ?_ | fail)
     | (refine arO ⟨_, .store _ _ _, _, _, _, _⟩ ?_; first
      | (apply ar_effM rfl rfl; (next => (first
       | (apply effTo_store (T := TT) rfl; (next => (first | exact look_hd | fail)); (next => rfl); (next => rfl); (next => rfl); (next => rfl); (next => rfl); (next => rfl); (next => rfl); (next => rfl))
       | fail)))
      | fail)
     | (refine arO ⟨_, .alloc _, _, _, _, _⟩ ?_; first
      | (refine ar_eff rfl rfl (eff_alloc (T := TT) rfl rfl ?_); intro kb hkb; (repeat (have hkn := (freshK_ne hkb).1; replace hkb := (freshK_ne hkb).2)); (try have hkl := freshK_look hkb); clear hkb; refine ar_nf ?_)
      | fail)
     | (refine arO ⟨_, .box _ _, _, _, _, _⟩ ?_; first
      | (refine ar_eff rfl rfl (eff_boxB rfl rfl rfl rfl ?_); intro kb hkb; (repeat (have hkn := (freshK_ne hkb).1; replace hkb := (freshK_ne hkb).2)); (try have hkl := freshK_look hkb); clear hkb; refine ar_nf ?_)
      | fail)
     | (refine arO ⟨_, .call { callee := .value _, args := _, argTypes := _ }, _, _, _, _⟩ ?_; first
      | (apply ar_callM0 rfl (numberAt_a s n k 0 hrd (by omega)) rfl rfl; (next => (repeat (first | exact PArgs.nil | (apply PArgs.cons; (next => (first | exact PArg.rd rfl (Le1.refl _) rfl)))))); (next => rfl); (next => rfl); rintro _ _ ⟨rfl, rfl⟩; refine ⟨_, rfl, ?_⟩)
      | fail)
     | fail)
    | refine ar_seq ?_
    | (refine arE ?_; refine ar_endM [0, 1, 2, 4, 5, 6, 7, 8, 9, 10, 11, 12, 13, 14, 15, 16, 17, 18, 24, 32, 36, 43, 54, 57, 81, 84, 102, 103, 111, 117, 121, 140, 143, 159] rfl ?_)
    | refine ar_region ?_
    | refine ar_block ?_
    | refine ar_skip ?_
    | refine ar_dedup rfl ?_
    | (refine arC (.cond _ _ _) ?_; first | (refine ar_cond_false rfl ?_ ?_; (next => (first | rfl))) | fail)
    | fail)
  rename_i kt hktl
  refine ar_loop (fun y : Nat × List UInt8 => ⟨162, [(2, .v (.pointer (some ⟨kt, 0, none⟩))), (7, .v (.pointer (some ⟨kb, 0, none⟩))), (9, .v (.int .i64 n)), (10, .sl true 1 (byteA y.2)), (11, .fn 39 [.v (.pointer (some ⟨kb, 0, none⟩)), .v (.pointer (some ⟨kt, 0, none⟩))])], [(kb, [.v (.int .i64 y.1)]), (kt, [.v (.string (mkB s))])], []⟩) (fun y => elems (s.drop y.1) y.2 n = elems (s.drop k) [] n ∧ y.2.length ≤ n ∧ y.1 ≤ s.length) (fun y => s.length - y.1) (k, []) ⟨rfl, ?_, ?_, rfl⟩ ⟨rfl, by simp, hf.2.1⟩ ?_
  · (repeat' (first | exact trivial | exact .refl _ | refine ⟨⟨_, rfl, ?_⟩, ?_⟩ | exact .nil _ _))
  · (repeat' (first | exact trivial | exact LeL.refl _ | refine ⟨⟨_, look_hd, ?_⟩, ?_⟩ | refine ⟨⟨_, look_tl (by first | assumption) look_hd, ?_⟩, ?_⟩))
  rintro ⟨a, o⟩ ⟨hq, hol, hal⟩
  dsimp only at hq hol hal ⊢
  by_cases hend : a = s.length
  · subst hend
    rw [List.drop_length, elems_nil] at hq
    rw [← hq] at hu
    dsimp only at hu
    by_cases hlt : o.length < n
    · rw [if_pos hlt] at hu
      repeat (first
        | ((first | apply ar_un | apply stk_un); (next => (first | (simp only [go_sem, Nat.reduceBEq, Nat.reduceEqDiff, reduceIte, reduceCtorEq, String.reduceEq, Nat.reduceAdd, Int.reduceToNat]; exact rfl))))
        | (first | (apply ar_opN rfl rfl rfl rfl; (next => (first | exact opv_len_str (T := TT) rfl rfl rfl | exact opv_len_sl (T := TT) rfl rfl rfl | fail))) | fail)
        | (refine arC .ret ?_; refine ar_retM0 [4, 5] ?_)
        | (apply ar_op' rfl rfl rfl rfl; (next => (first
         | (refine evalE_ok (T := TT) rfl ?_; (first | exact trivial))
         | (apply opk ⟨_, .binOp .neq _ _ _ _, _, _, _, _⟩; first | (refine opv_cmp_t rfl rfl rfl ?_; (next => (first | (simp only [cmpP]; omega)))) | fail)
         | (apply opk ⟨_, .binOp .lss _ _ _ _, _, _, _, _⟩; first | (refine opv_cmp_f rfl rfl rfl ?_; (next => (first | (simp only [cmpP]; omega)))) | fail)
         | fail)))
        | (refine arO _ ?_; first
         | (refine arO ⟨_, .move _, _, _, _, _⟩ ?_; first | refine ar_move_sl rfl rfl rfl rfl ?_ | fail)
         | (refine arO ⟨_, .load _ _, _, _, _, _⟩ ?_; first
          | refine ar_load_own (T := TT) rfl rfl rfl rfl look_hd rfl rfl rfl rfl ?_
          | (refine ar_load_own (T := TT) rfl rfl rfl rfl (look_tl ?_ look_hd) rfl rfl rfl rfl ?_; (next => (first | assumption)))
          | fail)
         | fail)
        | refine ar_seq ?_
        | (refine arE ?_; refine ar_endM [0, 1, 2, 4, 5, 6, 7, 8, 9, 10, 11, 12, 13, 14, 15, 16, 17, 18, 24, 32, 36, 43, 54, 57, 81, 84, 102, 103, 111, 117, 121, 140, 143, 159] rfl ?_)
        | refine ar_region ?_
        | (refine arC (.cond _ _ _) ?_; first | (refine ar_cond_true rfl ?_ ?_; (next => (first | rfl))) | (refine ar_cond_false rfl ?_ ?_; (next => (first | rfl))) | fail)
        | refine ar_exit ?_
        | refine stk_b_hit ?_
        | refine stk_c_exit ?_
        | refine stk_l_exit ?_
        | refine stk_c_ret ?_
        | refine stk_nil ?_
        | fail)
      first | exact qret_mk rfl (⟨by rw [hu]; rfl, rfl⟩) | (trace_state; exact qret_mk rfl (⟨by rw [hu]; rfl, rfl⟩))
    · rw [if_neg hlt] at hu
      repeat (first
        | ((first | apply ar_un | apply stk_un); (next => (first | (simp only [go_sem, Nat.reduceBEq, Nat.reduceEqDiff, reduceIte, reduceCtorEq, String.reduceEq, Nat.reduceAdd, Int.reduceToNat]; exact rfl))))
        | (first | (apply ar_opN rfl rfl rfl rfl; (next => (first | exact opv_len_str (T := TT) rfl rfl rfl | exact opv_len_sl (T := TT) rfl rfl rfl | fail))) | fail)
        | (refine arC .ret ?_; refine ar_retM0 [4, 5] ?_)
        | (apply ar_op' rfl rfl rfl rfl; (next => (first
         | (refine evalE_ok (T := TT) rfl ?_; (first | exact trivial))
         | (apply opk ⟨_, .binOp .neq _ _ _ _, _, _, _, _⟩; first | (refine opv_cmp_f rfl rfl rfl ?_; (next => (first | (simp only [cmpP]; omega)))) | fail)
         | (apply opk ⟨_, .binOp .lss _ _ _ _, _, _, _, _⟩; first | (refine opv_cmp_f rfl rfl rfl ?_; (next => (first | (simp only [cmpP]; omega)))) | fail)
         | (apply opk ⟨_, .convert _ _ _, _, _, _, _⟩; first | exact opv_bytes_str (T := TT) rfl rfl rfl rfl | fail)
         | fail)))
        | (refine arO _ ?_; first
         | (refine arO ⟨_, .move _, _, _, _, _⟩ ?_; first | refine ar_move_sl rfl rfl rfl rfl ?_ | fail)
         | (refine arO ⟨_, .load _ _, _, _, _, _⟩ ?_; first
          | refine ar_load_own (T := TT) rfl rfl rfl rfl look_hd rfl rfl rfl rfl ?_
          | (refine ar_load_own (T := TT) rfl rfl rfl rfl (look_tl ?_ look_hd) rfl rfl rfl rfl ?_; (next => (first | assumption)))
          | fail)
         | fail)
        | refine ar_seq ?_
        | (refine arE ?_; refine ar_endM [0, 1, 2, 4, 5, 6, 7, 8, 9, 10, 11, 12, 13, 14, 15, 16, 17, 18, 24, 32, 36, 43, 54, 57, 81, 84, 102, 103, 111, 117, 121, 140, 143, 159] rfl ?_)
        | refine ar_region ?_
        | refine ar_skip ?_
        | (refine arC (.cond _ _ _) ?_; first | (refine ar_cond_false rfl ?_ ?_; (next => (first | rfl))) | fail)
        | refine ar_exit ?_
        | refine stk_b_hit ?_
        | refine stk_c_exit ?_
        | refine stk_l_exit ?_
        | refine stk_nil ?_
        | fail)
      first | exact qret_mk rfl (⟨by rw [hu]; rfl, rfl⟩) | (trace_state; exact qret_mk rfl (⟨by rw [hu]; rfl, rfl⟩))
  have halt : a < s.length := by omega
  have hcons := getD_drop s a halt
  rw [hcons] at hq
  have hc8 := (s.getD a 0).toNat_lt
  have hgood : ∀ r' o', elemE (s.getD a 0).toNat (s.drop (a + 1)) o n = some (r', o') → elems r' o' n = elems (s.drop k) [] n := fun r' o' h => by rw [← hq, elems_some h]
  have hbad : elemE (s.getD a 0).toNat (s.drop (a + 1)) o n = none → unpackB s most = ([], 1) := fun h => by rw [elems_none h] at hq; rw [← hq] at hu; exact hu
  have hdl : (s.drop (a + 1)).length = s.length - (a + 1) := List.length_drop
  by_cases t0 : (s.getD a 0).toNat % 4 = 0
  · -- a literal
    repeat (first
      | ((first | apply ar_un); (next => (first | (simp only [go_sem, Nat.reduceBEq, Nat.reduceEqDiff, reduceIte, reduceCtorEq, String.reduceEq, Nat.reduceAdd, Int.reduceToNat]; exact rfl))))
      | (first | (apply ar_opN rfl rfl rfl rfl; (next => (first | exact opv_len_str (T := TT) rfl rfl rfl | fail))) | fail)
      | (apply ar_op' rfl rfl rfl rfl; (next => (first
       | (refine evalE_ok (T := TT) rfl ?_; (first | exact trivial | omega | (simp [NFL] <;> omega)))
       | (apply opk ⟨_, .binOp .eql _ _ _ _, _, _, _, _⟩; first | (refine opv_cmp_t rfl rfl rfl ?_; (next => (first | (simp only [cmpP]; omega)))) | fail)
       | (apply opk ⟨_, .binOp .lss _ _ _ _, _, _, _, _⟩; first | (refine opv_cmp_t rfl rfl rfl ?_; (next => (first | (simp only [cmpP]; omega)))) | fail)
       | (apply opk ⟨_, .binOp .geq _ _ _ _, _, _, _, _⟩; first | exact opv_bin rfl rfl rfl | fail)
       | (apply opk ⟨_, .convert _ _ _, _, _, _, _⟩; first | (refine opv_conv_byte (T := TT) rfl rfl rfl ?_; (next => (first | exact .inl rfl))) | fail)
       | fail)))
      | (refine arO _ ?_; first
       | (refine arO ⟨_, .load _ _, _, _, _, _⟩ ?_; first
        | refine ar_load_own (T := TT) rfl rfl rfl rfl look_hd rfl rfl rfl rfl ?_
        | (refine ar_load_own (T := TT) rfl rfl rfl rfl (look_tl ?_ look_hd) rfl rfl rfl rfl ?_; (next => (first | assumption)))
        | fail)
       | (refine arO ⟨_, .store _ _ _, _, _, _, _⟩ ?_; first
        | (apply ar_effM rfl rfl; (next => (first
         | (apply effTo_store (T := TT) rfl; (next => (first | exact look_hd | fail)); (next => rfl); (next => rfl); (next => rfl); (next => rfl); (next => rfl); (next => rfl); (next => rfl); (next => rfl))
         | fail)))
        | fail)
       | fail)
      | refine ar_seq ?_
      | (refine arE ?_; refine ar_endM [0, 1, 2, 4, 5, 6, 7, 8, 9, 10, 11, 12, 13, 14, 15, 16, 17, 18, 24, 32, 36, 43, 54, 57, 81, 84, 102, 103, 111, 117, 121, 140, 143, 159] rfl ?_)
      | refine ar_region ?_
      | refine ar_block ?_
      | refine ar_skip ?_
      | refine ar_dedup rfl ?_
      | (refine arC (.cond _ _ _) ?_; first | (refine ar_cond_true rfl ?_ ?_; (next => (first | rfl))) | fail)
      | fail)
    refine ar_cutL (fun y : Int × Nat => ⟨162, [(2, .v (.pointer (some ⟨kt, 0, none⟩))), (7, .v (.pointer (some ⟨kb, 0, none⟩))), (9, .v (.int .i64 n)), (10, .sl true 1 (byteA o)), (11, .fn 39 [.v (.pointer (some ⟨kb, 0, none⟩)), .v (.pointer (some ⟨kt, 0, none⟩))]), (14, .v (.int .i64 y.1))], [(kb, [.v (.int .i64 y.2)]), (kt, [.v (.string (mkB s))])], []⟩)
      (fun y => (y.1 = -1 ∧ elemE (s.getD a 0).toNat (s.drop (a + 1)) o n = none) ∨ ∃ m : Nat, y.1 = m ∧ y.2 ≤ s.length ∧ a + 1 ≤ y.2 ∧ m ≤ 4294967296 ∧ elemE (s.getD a 0).toNat (s.drop (a + 1)) o n = litE m n (s.drop y.2) o) ?_ ?_
    · by_cases h60 : (s.getD a 0).toNat / 4 < 60
      · repeat (first | refine ar_skip ?_ | (refine arC (.cond _ _ _) ?_; first | (refine ar_cond_false rfl ?_ ?_; (next => (first | (simp only [decide_eq_false_iff_not, beq_eq_false_iff_ne, bne_eq_false_iff_eq, ge_iff_le, gt_iff_lt, ne_eq, Bool.not_eq_false', decide_eq_true_eq]; omega)))) | fail) | fail)
        refine cut_end (((s.getD a 0).toNat / 4 : Nat), a + 1) ⟨rfl, ?_, ?_, rfl⟩ (.inr ⟨(s.getD a 0).toNat / 4, rfl, by omega, Nat.le_refl _, by omega, by unfold elemE; rw [if_pos t0, if_pos h60]⟩)
        · (repeat' (first | exact trivial | exact .refl _ | refine ⟨⟨_, rfl, ?_⟩, ?_⟩))
        · (repeat' (first | exact trivial | exact LeL.refl _ | refine ⟨⟨_, look_hd, ?_⟩, ?_⟩ | refine ⟨⟨_, look_tl (by first | assumption) look_hd, ?_⟩, ?_⟩))
      · obtain ⟨q, hk, hk4⟩ : ∃ q, (s.getD a 0).toNat / 4 = q + 59 ∧ 1 ≤ q ∧ q ≤ 4 := ⟨(s.getD a 0).toNat / 4 - 59, by omega, by omega⟩
        have hkk : (s.getD a 0).toNat / 4 - 59 = q := by omega
        by_cases hlen : s.length < a + 1 + q
        · repeat (first
          | ((first | apply ar_un); (next => (first | (simp only [go_sem, Nat.reduceBEq, Nat.reduceEqDiff, reduceIte, reduceCtorEq, String.reduceEq, Nat.reduceAdd, Int.reduceToNat]; exact rfl))))
          | (apply ar_op' rfl rfl rfl rfl; (next => (first | (refine evalE_ok (T := TT) rfl ?_; (first | exact trivial | omega)) | fail)))
          | (refine arO _ ?_; first
           | (refine arO ⟨_, .call { callee := .value _, args := _, argTypes := _ }, _, _, _, _⟩ ?_; first
            | (apply ar_callMF (us := [.v (.int .i64 q)]) rfl rfl (low_none kb kt hkn s (a + 1) q (by omega) (by omega) (by omega) hlen) rfl rfl; (next => (repeat (first | exact PArgs.nil | (apply PArgs.cons; (next => (first | (refine PArg.rd rfl (Le1.of_eq ?_) rfl; congr 2 <;> (first | omega)))))))); (next => rfl); (next => rfl); (next => rfl); (next => rfl); rintro _ _ ⟨rfl, rfl⟩; refine ⟨_, rfl, ?_⟩)
            | fail)
           | fail)
          | (refine arE ?_; refine ar_endM [0, 1, 2, 4, 5, 6, 7, 8, 9, 10, 11, 12, 13, 14, 15, 16, 17, 18, 24, 32, 36, 43, 54, 57, 81, 84, 102, 103, 111, 117, 121, 140, 143, 159] rfl ?_)
          | refine ar_region ?_
          | (refine arC (.cond _ _ _) ?_; first
           | (refine ar_cond_true rfl ?_ ?_; (next => (first | (simp only [decide_eq_true_eq, beq_iff_eq, bne_iff_ne, ge_iff_le, gt_iff_lt, ne_eq, Bool.not_eq_true', decide_eq_false_iff_not]; omega))))
           | fail)
          | fail)
          refine cut_end (-1, a + 1) ⟨rfl, ?_, ?_, rfl⟩ (.inl ⟨rfl, by unfold elemE; rw [if_pos t0, if_neg h60, hkk, if_pos (by omega)]⟩)
          · (repeat' (first | exact trivial | exact .refl _ | refine ⟨⟨_, rfl, ?_⟩, ?_⟩))
          · (repeat' (first | exact trivial | exact LeL.refl _ | refine ⟨⟨_, look_hd, ?_⟩, ?_⟩ | refine ⟨⟨_, look_tl (by first | assumption) look_hd, ?_⟩, ?_⟩))
        · have hln := leN_lt ((s.drop (a + 1)).take q)
          have htl : ((s.drop (a + 1)).take q).length = q := by rw [List.length_take]; omega
          have hpw : 256 ^ ((s.drop (a + 1)).take q).length ≤ 4294967296 := by rw [htl]; exact Nat.le_trans (Nat.pow_le_pow_right (by decide) hk4.2) (by decide)
          repeat (first
            | ((first | apply ar_un); (next => (first | (simp only [go_sem, Nat.reduceBEq, Nat.reduceEqDiff, reduceIte, reduceCtorEq, String.reduceEq, Nat.reduceAdd, Int.reduceToNat]; exact rfl))))
            | (apply ar_op' rfl rfl rfl rfl; (next => (first | (refine evalE_ok (T := TT) rfl ?_; (first | exact trivial | omega)) | fail)))
            | (refine arO _ ?_; first
             | (refine arO ⟨_, .call { callee := .value _, args := _, argTypes := _ }, _, _, _, _⟩ ?_; first
              | (apply ar_callMF (us := [.v (.int .i64 q)]) rfl rfl (low_some kb kt hkn s (a + 1) q (by omega) (by omega) (by omega) hlen) rfl rfl; (next => (repeat (first | exact PArgs.nil | (apply PArgs.cons; (next => (first | (refine PArg.rd rfl (Le1.of_eq ?_) rfl; congr 2 <;> (first | omega)))))))); (next => rfl); (next => rfl); (next => rfl); (next => rfl); rintro _ _ ⟨rfl, rfl⟩; refine ⟨_, rfl, ?_⟩)
              | fail)
             | fail)
            | (refine arE ?_; refine ar_endM [0, 1, 2, 4, 5, 6, 7, 8, 9, 10, 11, 12, 13, 14, 15, 16, 17, 18, 24, 32, 36, 43, 54, 57, 81, 84, 102, 103, 111, 117, 121, 140, 143, 159] rfl ?_)
            | refine ar_region ?_
            | (refine arC (.cond _ _ _) ?_; first
             | (refine ar_cond_true rfl ?_ ?_; (next => (first | (simp only [decide_eq_true_eq, beq_iff_eq, bne_iff_ne, ge_iff_le, gt_iff_lt, ne_eq, Bool.not_eq_true', decide_eq_false_iff_not]; omega))))
             | fail)
            | fail)
          refine cut_end ((leN ((s.drop (a + 1)).take q) : Nat), a + 1 + q) ⟨rfl, ?_, ?_, rfl⟩ (.inr ⟨_, rfl, by show _ ≤ _; omega, by show _ ≤ a + 1 + q; omega, by omega, by unfold elemE; rw [if_pos t0, if_neg h60, hkk, if_neg (by omega), List.drop_drop]⟩)
          · (repeat' (first | exact trivial | exact .refl _ | refine ⟨⟨_, rfl, ?_⟩, ?_⟩))
          · (repeat' (first | exact trivial | exact LeL.refl _ | refine ⟨⟨_, look_hd, ?_⟩, ?_⟩ | refine ⟨⟨_, look_tl (by first | assumption) look_hd, ?_⟩, ?_⟩))
    · rintro ⟨M, A⟩ (⟨hM, hx⟩ | ⟨m, hM, hA1, hA2, hm, hx⟩)
      · dsimp only at hM hx ⊢
        subst hM
        have hu := hbad hx
        repeat (first
          | ((first | apply ar_un | apply stk_un); (next => (first | (simp only [go_sem, Nat.reduceBEq, Nat.reduceEqDiff, reduceIte, reduceCtorEq, String.reduceEq, Nat.reduceAdd, Int.reduceToNat]; exact rfl))))
          | (first | refine ar_unwantedN rfl rfl rfl rfl ?_ | (apply ar_opN rfl rfl rfl rfl; (next => (first | exact opv_pickt_cb rfl rfl | fail))) | fail)
          | (refine arC .ret ?_; refine ar_retM0 [4, 5] ?_)
          | (apply ar_op' rfl rfl rfl rfl; (next => (first
           | (refine evalE_ok (T := TT) rfl ?_; (first | exact trivial))
           | (apply opk ⟨_, .binOp .lss _ _ _ _, _, _, _, _⟩; first | (refine opv_cmp_t rfl rfl rfl ?_; (next => (first | (simp only [cmpP]; omega)))) | fail)
           | fail)))
          | refine ar_seq ?_
          | (refine arE ?_; refine ar_endM [0, 1, 2, 4, 5, 6, 7, 8, 9, 10, 11, 12, 13, 14, 15, 16, 17, 18, 24, 32, 36, 43, 54, 57, 81, 84, 102, 103, 111, 117, 121, 140, 143, 159] rfl ?_)
          | refine ar_region ?_
          | (refine arC (.cond _ _ _) ?_; first | (refine ar_cond_true rfl ?_ ?_; (next => (first | rfl))) | fail)
          | refine stk_c_ret ?_
          | refine stk_b_ret ?_
          | refine stk_l_ret ?_
          | refine stk_nil ?_
          | fail)
        first | exact qret_mk rfl (⟨by rw [hu]; rfl, rfl⟩) | (trace_state; exact qret_mk rfl (⟨by rw [hu]; rfl, rfl⟩))
      · dsimp only at hM hx hA1 hA2 ⊢
        subst hM
        have hAl : (s.drop A).length = s.length - A := List.length_drop
        by_cases hb : s.length < A + m + 1 ∨ n < o.length + m + 1
        · have hu := hbad (by rw [hx]; unfold litE; rw [if_pos (by omega)])
          have hb3 : s.length < A + m + 1 ∨ (¬ s.length < A + m + 1 ∧ n < o.length + m + 1) := by omega
          rw [hu]
          rcases hb3 with h1 | ⟨h1, h2⟩
          all_goals (repeat (first
            | ((first | apply ar_un | apply stk_un); (next => (first | (simp only [go_sem, Nat.reduceBEq, Nat.reduceEqDiff, reduceIte, reduceCtorEq, String.reduceEq, Nat.reduceAdd, Int.reduceToNat]; exact rfl))))
            | (first
             | refine ar_unwantedN rfl rfl rfl rfl ?_
             | (apply ar_opN rfl rfl rfl rfl; (next => (first | exact opv_pickt_cb rfl rfl | exact opv_pickf rfl rfl rfl | exact opv_len_str (T := TT) rfl rfl rfl | exact opv_len_sl (T := TT) rfl rfl rfl | fail)))
             | fail)
            | (refine arC .ret ?_; refine ar_retM0 [4, 5] ?_)
            | (apply ar_op' rfl rfl rfl rfl; (next => (first
             | (refine evalE_ok (T := TT) rfl ?_; (first | exact trivial | omega))
             | (apply opk ⟨_, .binOp .lss _ _ _ _, _, _, _, _⟩; first | (refine opv_cmp_f rfl rfl rfl ?_; (next => (first | (simp only [cmpP]; omega)))) | fail)
             | (apply opk ⟨_, .binOp .gtr _ _ _ _, _, _, _, _⟩; first
              | (refine opv_cmp_t rfl rfl rfl ?_; (next => (first | (simp only [cmpP]; omega))))
              | (refine opv_cmp_f rfl rfl rfl ?_; (next => (first | (simp only [cmpP]; omega))))
              | fail)
             | fail)))
            | (refine arO _ ?_; first
             | (refine arO ⟨_, .move _, _, _, _, _⟩ ?_; first | refine ar_move_sl rfl rfl rfl rfl ?_ | fail)
             | (refine arO ⟨_, .load _ _, _, _, _, _⟩ ?_; first
              | refine ar_load_own (T := TT) rfl rfl rfl rfl look_hd rfl rfl rfl rfl ?_
              | (refine ar_load_own (T := TT) rfl rfl rfl rfl (look_tl ?_ look_hd) rfl rfl rfl rfl ?_; (next => (first | assumption)))
              | fail)
             | fail)
            | refine ar_seq ?_
            | (refine arE ?_; refine ar_endM [0, 1, 2, 4, 5, 6, 7, 8, 9, 10, 11, 12, 13, 14, 15, 16, 17, 18, 24, 32, 36, 43, 54, 57, 81, 84, 102, 103, 111, 117, 121, 140, 143, 159] rfl ?_)
            | refine ar_region ?_
            | (refine arC (.cond _ _ _) ?_; first | (refine ar_cond_true rfl ?_ ?_; (next => (first | rfl))) | fail)
            | refine stk_c_ret ?_
            | refine stk_b_ret ?_
            | refine stk_l_ret ?_
            | refine stk_nil ?_
            | fail))
          all_goals (exact qret_mk rfl (⟨rfl, rfl⟩))
        have h1 : ¬ s.length < A + m + 1 := by omega
        have h2 : ¬ n < o.length + m + 1 := by omega
        have hx2 : elemE (s.getD a 0).toNat (s.drop (a + 1)) o n = some ((s.drop A).drop (m + 1), o ++ (s.drop A).take (m + 1)) := by rw [hx]; unfold litE; rw [if_neg (by omega)]
        repeat (first
          | ((first | apply ar_un); (next => (first | (simp only [go_sem, Nat.reduceBEq, Nat.reduceEqDiff, reduceIte, reduceCtorEq, String.reduceEq, Nat.reduceAdd, Int.reduceToNat]; exact rfl))))
          | (first
           | (apply ar_opN rfl rfl rfl rfl; (next => (first | exact opv_pickf rfl rfl rfl | exact opv_len_str (T := TT) rfl rfl rfl | exact opv_len_sl (T := TT) rfl rfl rfl | fail)))
           | fail)
          | (apply ar_op' rfl rfl rfl rfl; (next => (first
           | (refine evalE_ok (T := TT) rfl ?_; (first | exact trivial | omega))
           | (apply opk ⟨_, .binOp .lss _ _ _ _, _, _, _, _⟩; first | (refine opv_cmp_f rfl rfl rfl ?_; (next => (first | (simp only [cmpP]; omega)))) | fail)
           | (apply opk ⟨_, .binOp .gtr _ _ _ _, _, _, _, _⟩; first | (refine opv_cmp_f rfl rfl rfl ?_; (next => (first | (simp only [cmpP]; omega)))) | fail)
           | fail)))
          | (refine arO _ ?_; first
           | (refine arO ⟨_, .move _, _, _, _, _⟩ ?_; first | refine ar_move_sl rfl rfl rfl rfl ?_ | fail)
           | (refine arO ⟨_, .load _ _, _, _, _, _⟩ ?_; first
            | refine ar_load_own (T := TT) rfl rfl rfl rfl look_hd rfl rfl rfl rfl ?_
            | (refine ar_load_own (T := TT) rfl rfl rfl rfl (look_tl ?_ look_hd) rfl rfl rfl rfl ?_; (next => (first | assumption)))
            | fail)
           | fail)
          | refine ar_seq ?_
          | (refine arE ?_; refine ar_endM [0, 1, 2, 4, 5, 6, 7, 8, 9, 10, 11, 12, 13, 14, 15, 16, 17, 18, 24, 32, 36, 43, 54, 57, 81, 84, 102, 103, 111, 117, 121, 140, 143, 159] rfl ?_)
          | refine ar_region ?_
          | refine ar_block ?_
          | refine ar_skip ?_
          | (refine arC (.cond _ _ _) ?_; first | (refine ar_cond_false rfl ?_ ?_; (next => (first | rfl))) | fail)
          | fail)
        refine ar_loop (fun i : Nat => ⟨162, [(2, .v (.pointer (some ⟨kt, 0, none⟩))), (7, .v (.pointer (some ⟨kb, 0, none⟩))), (9, .v (.int .i64 n)), (10, .sl true 1 (byteA (o ++ (s.drop A).take i))), (11, .fn 39 [.v (.pointer (some ⟨kb, 0, none⟩)), .v (.pointer (some ⟨kt, 0, none⟩))]), (14, .v (.int .i64 m)), (15, .v (.int .i64 i))], [(kb, [.v (.int .i64 A)]), (kt, [.v (.string (mkB s))])], []⟩) (fun i => i ≤ m + 1) (fun i => m + 1 - i) 0 ⟨rfl, ?_, ?_, rfl⟩ (by omega) ?_
        · (repeat' (first | exact trivial | exact .refl _ | refine ⟨⟨_, rfl, ?_⟩, ?_⟩ | refine Le1.of_eq ?_))
          simp
        · (repeat' (first | exact trivial | exact LeL.refl _ | refine ⟨⟨_, look_hd, ?_⟩, ?_⟩ | refine ⟨⟨_, look_tl (by first | assumption) look_hd, ?_⟩, ?_⟩))
        intro i hi
        have hol2 : (o ++ (s.drop A).take i).length = o.length + i := by rw [List.length_append, List.length_take]; omega
        by_cases him : i ≤ m
        · repeat (first
          | ((first | apply ar_un); (next => (first | (simp only [go_sem, Nat.reduceBEq, Nat.reduceEqDiff, reduceIte, reduceCtorEq, String.reduceEq, Nat.reduceAdd, Int.reduceToNat]; exact rfl))))
          | (apply ar_op' rfl rfl rfl rfl; (next => (first
           | (refine evalE_ok (T := TT) rfl ?_; (first | exact trivial | omega | (simp [NFL] <;> omega)))
           | (apply opk ⟨_, .binOp .leq _ _ _ _, _, _, _, _⟩; first | (refine opv_cmp_t rfl rfl rfl ?_; (next => (first | (simp only [cmpP]; omega)))) | fail)
           | (apply opk ⟨_, .buildSlice _ _ _, _, _, _, _⟩; first | exact opv_build_slice (T := TT) rfl rfl rfl rfl rfl rfl rfl | fail)
           | fail)))
          | (refine arO _ ?_; first
           | (refine arO ⟨_, .move _, _, _, _, _⟩ ?_; first | refine ar_move_sl rfl rfl rfl rfl ?_ | fail)
           | (refine arO ⟨_, .assign _, _, _, _, _⟩ ?_; first | refine ar_assign_sl rfl rfl rfl rfl ?_ | fail)
           | (refine arO ⟨_, .load _ _, _, _, _, _⟩ ?_; first
            | refine ar_load_own (T := TT) rfl rfl rfl rfl look_hd rfl rfl rfl rfl ?_
            | (refine ar_load_own (T := TT) rfl rfl rfl rfl (look_tl ?_ look_hd) rfl rfl rfl rfl ?_; (next => (first | assumption)))
            | fail)
           | (refine arO ⟨_, .call { callee := .builtin .append, args := _, argTypes := _ }, _, _, _, _⟩ ?_; first
            | (apply ar_effM rfl rfl; (next => (first
             | (apply effTo_append (T := TT) rfl rfl rfl rfl rfl rfl rfl rfl rfl rfl; (next => (first | (simp [RowsOne, AV.one, AV.rd, AV.cells, cst, Value.oneCell'] <;> omega))); (next => (first | (simp [NFL] <;> omega))))
             | fail)))
            | fail)
           | fail)
          | refine ar_seq ?_
          | (refine arE ?_; refine ar_endM [0, 1, 2, 4, 5, 6, 7, 8, 9, 10, 11, 12, 13, 14, 15, 16, 17, 18, 24, 32, 36, 43, 54, 57, 81, 84, 102, 103, 111, 117, 121, 140, 143, 159] rfl ?_)
          | refine ar_region ?_
          | refine ar_block ?_
          | refine ar_skip ?_
          | refine ar_blk ?_
          | (refine arC (.cond _ _ _) ?_; first | (refine ar_cond_true rfl ?_ ?_; (next => (first | rfl))) | fail)
          | fail)
          first | refine ar_back ⟨i + 1, ⟨rfl, ?_, ?_, rfl⟩, by omega, by omega⟩ | (trace_state; refine ar_back ⟨i + 1, ⟨rfl, ?_, ?_, rfl⟩, by omega, by omega⟩)
          · (repeat' (first | exact trivial | exact .refl _ | refine ⟨⟨_, rfl, ?_⟩, ?_⟩ | refine Le1.of_eq ?_))
            rw [take_snoc s A i (by omega), ← List.append_assoc, byteA_append _ [_], show ((A : Int) + i).toNat = A + i by omega]
            rfl
          · (repeat' (first | exact trivial | exact LeL.refl _ | refine ⟨⟨_, look_hd, ?_⟩, ?_⟩ | refine ⟨⟨_, look_tl (by first | assumption) look_hd, ?_⟩, ?_⟩))
        · obtain rfl : i = m + 1 := by omega
          repeat (first
            | ((first | apply ar_un); (next => (first | (simp only [go_sem, Nat.reduceBEq, Nat.reduceEqDiff, reduceIte, reduceCtorEq, String.reduceEq, Nat.reduceAdd, Int.reduceToNat]; exact rfl))))
            | (apply ar_op' rfl rfl rfl rfl; (next => (first
             | (refine evalE_ok (T := TT) rfl ?_; (first | exact trivial | omega))
             | (apply opk ⟨_, .binOp .leq _ _ _ _, _, _, _, _⟩; first | (refine opv_cmp_f rfl rfl rfl ?_; (next => (first | (simp only [cmpP]; omega)))) | fail)
             | fail)))
            | (refine arO _ ?_; first
             | (refine arO ⟨_, .load _ _, _, _, _, _⟩ ?_; first | refine ar_load_own (T := TT) rfl rfl rfl rfl look_hd rfl rfl rfl rfl ?_ | fail)
             | (refine arO ⟨_, .store _ _ _, _, _, _, _⟩ ?_; first
              | (apply ar_effM rfl rfl; (next => (first
               | (apply effTo_store (T := TT) rfl; (next => (first | exact look_hd | fail)); (next => rfl); (next => rfl); (next => rfl); (next => rfl); (next => rfl); (next => rfl); (next => rfl); (next => rfl))
               | fail)))
              | fail)
             | fail)
            | refine ar_seq ?_
            | (refine arE ?_; refine ar_endM [0, 1, 2, 4, 5, 6, 7, 8, 9, 10, 11, 12, 13, 14, 15, 16, 17, 18, 24, 32, 36, 43, 54, 57, 81, 84, 102, 103, 111, 117, 121, 140, 143, 159] rfl ?_)
            | refine ar_region ?_
            | refine ar_dedup rfl ?_
            | (refine arC (.cond _ _ _) ?_; first | (refine ar_cond_false rfl ?_ ?_; (next => (first | rfl))) | fail)
            | refine ar_exit ?_
            | refine stk_b_hit ?_
            | refine stk_c_exit ?_
            | refine stk_l_exit ?_
            | fail)
          refine ar_back ⟨(A + (m + 1), o ++ (s.drop A).take (m + 1)), ⟨rfl, ?_, ?_, rfl⟩, ⟨?_, ?_, ?_⟩, ?_⟩
          · (repeat' (first | exact trivial | exact .refl _ | refine ⟨⟨_, rfl, ?_⟩, ?_⟩))
          · (repeat' (first | exact trivial | exact LeL.refl _ | refine ⟨⟨_, look_hd, ?_⟩, ?_⟩ | refine ⟨⟨_, look_tl (by first | assumption) look_hd, ?_⟩, ?_⟩))
          · have := hgood _ _ hx2
            rw [List.drop_drop] at this
            exact this
          · show (o ++ (s.drop A).take (m + 1)).length ≤ n
            omega
          · show A + (m + 1) ≤ s.length
            omega
          · show s.length - (A + (m + 1)) < s.length - a
            omega
  · -- a copy
    repeat (first
      | ((first | apply ar_un); (next => (first | (simp only [go_sem, Nat.reduceBEq, Nat.reduceEqDiff, reduceIte, reduceCtorEq, String.reduceEq, Nat.reduceAdd, Int.reduceToNat]; exact rfl))))
      | (first | (apply ar_opN rfl rfl rfl rfl; (next => (first | exact opv_len_str (T := TT) rfl rfl rfl | fail))) | fail)
      | (apply ar_op' rfl rfl rfl rfl; (next => (first
       | (refine evalE_ok (T := TT) rfl ?_; (first | exact trivial | omega | (simp [NFL] <;> omega)))
       | (apply opk ⟨_, .binOp .eql _ _ _ _, _, _, _, _⟩; first
        | (refine opv_cmp_f rfl rfl rfl ?_; (next => (first | (simp only [cmpP]; omega))))
        | exact opv_bin rfl rfl rfl
        | fail)
       | (apply opk ⟨_, .binOp .lss _ _ _ _, _, _, _, _⟩; first | (refine opv_cmp_t rfl rfl rfl ?_; (next => (first | (simp only [cmpP]; omega)))) | fail)
       | (apply opk ⟨_, .convert _ _ _, _, _, _, _⟩; first | (refine opv_conv_byte (T := TT) rfl rfl rfl ?_; (next => (first | exact .inl rfl))) | fail)
       | fail)))
      | (refine arO _ ?_; first
       | (refine arO ⟨_, .load _ _, _, _, _, _⟩ ?_; first
        | refine ar_load_own (T := TT) rfl rfl rfl rfl look_hd rfl rfl rfl rfl ?_
        | (refine ar_load_own (T := TT) rfl rfl rfl rfl (look_tl ?_ look_hd) rfl rfl rfl rfl ?_; (next => (first | assumption)))
        | fail)
       | (refine arO ⟨_, .store _ _ _, _, _, _, _⟩ ?_; first
        | (apply ar_effM rfl rfl; (next => (first
         | (apply effTo_store (T := TT) rfl; (next => (first | exact look_hd | fail)); (next => rfl); (next => rfl); (next => rfl); (next => rfl); (next => rfl); (next => rfl); (next => rfl); (next => rfl))
         | fail)))
        | fail)
       | fail)
      | refine ar_seq ?_
      | (refine arE ?_; refine ar_endM [0, 1, 2, 4, 5, 6, 7, 8, 9, 10, 11, 12, 13, 14, 15, 16, 17, 18, 24, 32, 36, 43, 54, 57, 81, 84, 102, 103, 111, 117, 121, 140, 143, 159] rfl ?_)
      | refine ar_region ?_
      | refine ar_block ?_
      | refine ar_skip ?_
      | refine ar_dedup rfl ?_
      | (refine arC (.cond _ _ _) ?_; first | (refine ar_cond_true rfl ?_ ?_; (next => (first | rfl))) | (refine ar_cond_false rfl ?_ ?_; (next => (first | rfl))) | fail)
      | fail)
    refine ar_cutB (fun y : Int × Int × Nat => ⟨162, [(2, .v (.pointer (some ⟨kt, 0, none⟩))), (7, .v (.pointer (some ⟨kb, 0, none⟩))), (9, .v (.int .i64 n)), (10, .sl true 1 (byteA o)), (11, .fn 39 [.v (.pointer (some ⟨kb, 0, none⟩)), .v (.pointer (some ⟨kt, 0, none⟩))]), (16, .v (.int .i64 y.1)), (17, .v (.int .i64 y.2.1))], [(kb, [.v (.int .i64 y.2.2)]), (kt, [.v (.string (mkB s))])], []⟩)
      (fun y => (y.2.1 = -1 ∧ elemE (s.getD a 0).toNat (s.drop (a + 1)) o n = none) ∨ ∃ cnt far : Nat, y.1 = cnt ∧ y.2.1 = far ∧ y.2.2 ≤ s.length ∧ a + 1 ≤ y.2.2 ∧ cnt ≤ 1000 ∧ far ≤ 4294967296 ∧ elemE (s.getD a 0).toNat (s.drop (a + 1)) o n = copyE cnt far n (s.drop y.2.2) o) ?_ ?_
    · have hcase : ((s.getD a 0).toNat % 4 = 1 ∧ s.length < a + 1 + 1) ∨ ((s.getD a 0).toNat % 4 = 1 ∧ ¬ s.length < a + 1 + 1) ∨ (¬ (s.getD a 0).toNat % 4 = 1 ∧ (s.getD a 0).toNat % 4 = 2 ∧ s.length < a + 1 + 2) ∨ (¬ (s.getD a 0).toNat % 4 = 1 ∧ (s.getD a 0).toNat % 4 = 2 ∧ ¬ s.length < a + 1 + 2) ∨ (¬ (s.getD a 0).toNat % 4 = 1 ∧ ¬ (s.getD a 0).toNat % 4 = 2 ∧ s.length < a + 1 + 4) ∨ (¬ (s.getD a 0).toNat % 4 = 1 ∧ ¬ (s.getD a 0).toNat % 4 = 2 ∧ ¬ s.length < a + 1 + 4) := by omega
      have hl1 := leN_lt ((s.drop (a + 1)).take 1)
      have hl2 := leN_lt ((s.drop (a + 1)).take 2)
      have hl4 := leN_lt ((s.drop (a + 1)).take 4)
      rcases hcase with ⟨t1, hlen⟩ | ⟨t1, hlen⟩ | ⟨t1, t2, hlen⟩ | ⟨t1, t2, hlen⟩ | ⟨t1, t2, hlen⟩ | ⟨t1, t2, hlen⟩
      all_goals (first | (have htl : ((s.drop (a + 1)).take 1).length = 1 := (by rw [List.length_take]; omega); rw [htl] at hl1) | skip)
      all_goals (first | (have htl2 : ((s.drop (a + 1)).take 2).length = 2 := (by rw [List.length_take]; omega); rw [htl2] at hl2) | skip)
      all_goals (first | (have htl4 : ((s.drop (a + 1)).take 4).length = 4 := (by rw [List.length_take]; omega); rw [htl4] at hl4) | skip)
      all_goals (repeat (first
        | ((first | apply ar_un); (next => (first | (simp only [go_sem, Nat.reduceBEq, Nat.reduceEqDiff, reduceIte, reduceCtorEq, String.reduceEq, Nat.reduceAdd, Int.reduceToNat]; exact rfl))))
        | (apply ar_op' rfl rfl rfl rfl; (next => (first
         | (refine evalE_ok (T := TT) rfl ?_; (first | exact trivial | omega))
         | (apply opk ⟨_, .binOp .eql _ _ _ _, _, _, _, _⟩; first
          | (refine opv_cmp_t rfl rfl rfl ?_; (next => (first | (simp only [cmpP]; omega))))
          | (refine opv_cmp_f rfl rfl rfl ?_; (next => (first | (simp only [cmpP]; omega))))
          | fail)
         | (apply opk ⟨_, .binOp .geq _ _ _ _, _, _, _, _⟩; first
          | (refine opv_cmp_t rfl rfl rfl ?_; (next => (first | (simp only [cmpP]; omega))))
          | (refine opv_cmp_f rfl rfl rfl ?_; (next => (first | (simp only [cmpP]; omega))))
          | fail)
         | fail)))
        | (refine arO _ ?_; first
         | (refine arO ⟨_, .call { callee := .value _, args := _, argTypes := _ }, _, _, _, _⟩ ?_; first
          | (apply ar_callMF (us := [.v (.int .i64 (1 : Nat))]) rfl rfl (low_none kb kt hkn s (a + 1) 1 (by omega) (by omega) (by omega) hlen) rfl rfl; (next => (repeat (first | exact PArgs.nil | (apply PArgs.cons; (next => (first | exact PArg.rd rfl (Le1.refl _) rfl)))))); (next => rfl); (next => rfl); (next => rfl); (next => rfl); rintro _ _ ⟨rfl, rfl⟩; refine ⟨_, rfl, ?_⟩)
          | (apply ar_callMF (us := [.v (.int .i64 (1 : Nat))]) rfl rfl (low_some kb kt hkn s (a + 1) 1 (by omega) (by omega) (by omega) hlen) rfl rfl; (next => (repeat (first | exact PArgs.nil | (apply PArgs.cons; (next => (first | exact PArg.rd rfl (Le1.refl _) rfl)))))); (next => rfl); (next => rfl); (next => rfl); (next => rfl); rintro _ _ ⟨rfl, rfl⟩; refine ⟨_, rfl, ?_⟩)
          | (apply ar_callMF (us := [.v (.int .i64 (2 : Nat))]) rfl rfl (low_none kb kt hkn s (a + 1) 2 (by omega) (by omega) (by omega) hlen) rfl rfl; (next => (repeat (first | exact PArgs.nil | (apply PArgs.cons; (next => (first | exact PArg.rd rfl (Le1.refl _) rfl)))))); (next => rfl); (next => rfl); (next => rfl); (next => rfl); rintro _ _ ⟨rfl, rfl⟩; refine ⟨_, rfl, ?_⟩)
          | (apply ar_callMF (us := [.v (.int .i64 (2 : Nat))]) rfl rfl (low_some kb kt hkn s (a + 1) 2 (by omega) (by omega) (by omega) hlen) rfl rfl; (next => (repeat (first | exact PArgs.nil | (apply PArgs.cons; (next => (first | exact PArg.rd rfl (Le1.refl _) rfl)))))); (next => rfl); (next => rfl); (next => rfl); (next => rfl); rintro _ _ ⟨rfl, rfl⟩; refine ⟨_, rfl, ?_⟩)
          | (apply ar_callMF (us := [.v (.int .i64 (4 : Nat))]) rfl rfl (low_none kb kt hkn s (a + 1) 4 (by omega) (by omega) (by omega) hlen) rfl rfl; (next => (repeat (first | exact PArgs.nil | (apply PArgs.cons; (next => (first | exact PArg.rd rfl (Le1.refl _) rfl)))))); (next => rfl); (next => rfl); (next => rfl); (next => rfl); rintro _ _ ⟨rfl, rfl⟩; refine ⟨_, rfl, ?_⟩)
          | (apply ar_callMF (us := [.v (.int .i64 (4 : Nat))]) rfl rfl (low_some kb kt hkn s (a + 1) 4 (by omega) (by omega) (by omega) hlen) rfl rfl; (next => (repeat (first | exact PArgs.nil | (apply PArgs.cons; (next => (first | exact PArg.rd rfl (Le1.refl _) rfl)))))); (next => rfl); (next => rfl); (next => rfl); (next => rfl); rintro _ _ ⟨rfl, rfl⟩; refine ⟨_, rfl, ?_⟩)
          | fail)
         | fail)
        | refine ar_seq ?_
        | (refine arE ?_; refine ar_endM [0, 1, 2, 4, 5, 6, 7, 8, 9, 10, 11, 12, 13, 14, 15, 16, 17, 18, 24, 32, 36, 43, 54, 57, 81, 84, 102, 103, 111, 117, 121, 140, 143, 159] rfl ?_)
        | refine ar_region ?_
        | refine ar_skip ?_
        | (refine arC (.cond _ _ _) ?_; first
         | (refine ar_cond_true rfl ?_ ?_; (next => (first | rfl | (simp only [decide_eq_true_eq, beq_iff_eq, bne_iff_ne, ge_iff_le, gt_iff_lt, ne_eq, Bool.not_eq_true', decide_eq_false_iff_not]; omega))))
         | (refine ar_cond_false rfl ?_ ?_; (next => (first
          | rfl
          | (simp only [decide_eq_false_iff_not, beq_eq_false_iff_ne, bne_eq_false_iff_eq, ge_iff_le, gt_iff_lt, ne_eq, Bool.not_eq_false', decide_eq_true_eq]; omega))))
         | fail)
        | fail))
      · refine cut_end ((((s.getD a 0).toNat / 4 % 8 + 4 : Nat) : Int), -1, a + 1) ⟨rfl, ?_, ?_, rfl⟩ (.inl ⟨rfl, by unfold elemE; rw [if_neg t0, if_pos t1]; rw [if_pos (by omega)]⟩)
        · (repeat' (first | exact trivial | exact .refl _ | refine ⟨⟨_, rfl, ?_⟩, ?_⟩))
        · (repeat' (first | exact trivial | exact LeL.refl _ | refine ⟨⟨_, look_hd, ?_⟩, ?_⟩ | refine ⟨⟨_, look_tl (by first | assumption) look_hd, ?_⟩, ?_⟩))
      · refine cut_end ((((s.getD a 0).toNat / 4 % 8 + 4 : Nat) : Int), (((s.getD a 0).toNat / 4 / 8 * 256 + leN ((s.drop (a + 1)).take 1) : Nat) : Int), a + 1 + 1) ⟨rfl, ?_, ?_, rfl⟩ (.inr ⟨_, _, rfl, rfl, by show a + 1 + 1 ≤ _; omega, by show _ ≤ a + 1 + 1; omega, by omega, by omega, by unfold elemE; rw [if_neg t0, if_pos t1]; rw [if_neg (by omega), List.drop_drop]⟩)
        · (repeat' (first | exact trivial | exact .refl _ | refine ⟨⟨_, rfl, ?_⟩, ?_⟩ | refine Le1.of_eq ?_))
          all_goals (congr 2 <;> (first | omega | (dsimp only; omega) | (simp; omega)))
        · (repeat' (first | exact trivial | exact LeL.refl _ | refine ⟨⟨_, look_hd, ?_⟩, ?_⟩ | refine ⟨⟨_, look_tl (by first | assumption) look_hd, ?_⟩, ?_⟩))
      · refine cut_end ((((s.getD a 0).toNat / 4 + 1 : Nat) : Int), -1, a + 1) ⟨rfl, ?_, ?_, rfl⟩ (.inl ⟨rfl, by unfold elemE; rw [if_neg t0, if_neg t1, if_pos t2]; rw [if_pos (by omega)]⟩)
        · (repeat' (first | exact trivial | exact .refl _ | refine ⟨⟨_, rfl, ?_⟩, ?_⟩))
        · (repeat' (first | exact trivial | exact LeL.refl _ | refine ⟨⟨_, look_hd, ?_⟩, ?_⟩ | refine ⟨⟨_, look_tl (by first | assumption) look_hd, ?_⟩, ?_⟩))
      · refine cut_end ((((s.getD a 0).toNat / 4 + 1 : Nat) : Int), ((leN ((s.drop (a + 1)).take 2) : Nat) : Int), a + 1 + 2) ⟨rfl, ?_, ?_, rfl⟩ (.inr ⟨_, _, rfl, rfl, by show a + 1 + 2 ≤ _; omega, by show _ ≤ a + 1 + 2; omega, by omega, by omega, by unfold elemE; rw [if_neg t0, if_neg t1, if_pos t2]; rw [if_neg (by omega), List.drop_drop]⟩)
        · (repeat' (first | exact trivial | exact .refl _ | refine ⟨⟨_, rfl, ?_⟩, ?_⟩))
          all_goals (congr 2 <;> (first | omega | (dsimp only; omega) | (simp; omega)))
        · (repeat' (first | exact trivial | exact LeL.refl _ | refine ⟨⟨_, look_hd, ?_⟩, ?_⟩ | refine ⟨⟨_, look_tl (by first | assumption) look_hd, ?_⟩, ?_⟩))
      · refine cut_end ((((s.getD a 0).toNat / 4 + 1 : Nat) : Int), -1, a + 1) ⟨rfl, ?_, ?_, rfl⟩ (.inl ⟨rfl, by unfold elemE; rw [if_neg t0, if_neg t1, if_neg t2]; rw [if_pos (by omega)]⟩)
        · (repeat' (first | exact trivial | exact .refl _ | refine ⟨⟨_, rfl, ?_⟩, ?_⟩))
        · (repeat' (first | exact trivial | exact LeL.refl _ | refine ⟨⟨_, look_hd, ?_⟩, ?_⟩ | refine ⟨⟨_, look_tl (by first | assumption) look_hd, ?_⟩, ?_⟩))
      · refine cut_end ((((s.getD a 0).toNat / 4 + 1 : Nat) : Int), ((leN ((s.drop (a + 1)).take 4) : Nat) : Int), a + 1 + 4) ⟨rfl, ?_, ?_, rfl⟩ (.inr ⟨_, _, rfl, rfl, by show a + 1 + 4 ≤ _; omega, by show _ ≤ a + 1 + 4; omega, by omega, by omega, by unfold elemE; rw [if_neg t0, if_neg t1, if_neg t2]; rw [if_neg (by omega), List.drop_drop]⟩)
        · (repeat' (first | exact trivial | exact .refl _ | refine ⟨⟨_, rfl, ?_⟩, ?_⟩))
          all_goals (congr 2 <;> (first | omega | (dsimp only; omega) | (simp; omega)))
        · (repeat' (first | exact trivial | exact LeL.refl _ | refine ⟨⟨_, look_hd, ?_⟩, ?_⟩ | refine ⟨⟨_, look_tl (by first | assumption) look_hd, ?_⟩, ?_⟩))
    · rintro ⟨cn, fr, A⟩ (⟨hM, hx⟩ | ⟨cnt, far, hM, hF, hA1, hA2, hcn, hfr, hx⟩)
      · dsimp only at hM hx ⊢
        subst hM
        have hu := hbad hx
        repeat (first
          | ((first | apply ar_un | apply stk_un); (next => (first | (simp only [go_sem, Nat.reduceBEq, Nat.reduceEqDiff, reduceIte, reduceCtorEq, String.reduceEq, Nat.reduceAdd, Int.reduceToNat]; exact rfl))))
          | (first | refine ar_unwantedN rfl rfl rfl rfl ?_ | (apply ar_opN rfl rfl rfl rfl; (next => (first | exact opv_pickt_cb rfl rfl | fail))) | fail)
          | (refine arC .ret ?_; refine ar_retM0 [4, 5] ?_)
          | (apply ar_op' rfl rfl rfl rfl; (next => (first
           | (refine evalE_ok (T := TT) rfl ?_; (first | exact trivial))
           | (apply opk ⟨_, .binOp .lss _ _ _ _, _, _, _, _⟩; first | (refine opv_cmp_t rfl rfl rfl ?_; (next => (first | (simp only [cmpP]; omega)))) | fail)
           | fail)))
          | refine ar_seq ?_
          | (refine arE ?_; refine ar_endM [0, 1, 2, 4, 5, 6, 7, 8, 9, 10, 11, 12, 13, 14, 15, 16, 17, 18, 24, 32, 36, 43, 54, 57, 81, 84, 102, 103, 111, 117, 121, 140, 143, 159] rfl ?_)
          | refine ar_region ?_
          | (refine arC (.cond _ _ _) ?_; first | (refine ar_cond_true rfl ?_ ?_; (next => (first | rfl))) | fail)
          | refine stk_c_ret ?_
          | refine stk_b_ret ?_
          | refine stk_l_ret ?_
          | refine stk_nil ?_
          | fail)
        first | exact qret_mk rfl (⟨by rw [hu]; rfl, rfl⟩) | (trace_state; exact qret_mk rfl (⟨by rw [hu]; rfl, rfl⟩))
      · dsimp only at hM hF hx hA1 hA2 ⊢
        subst hM hF
        by_cases hb : far < 1 ∨ o.length < far ∨ n < o.length + cnt
        · have hu := hbad (by rw [hx]; unfold copyE; rw [if_pos hb])
          have hb3 : far < 1 ∨ (¬ far < 1 ∧ o.length < far) ∨ (¬ far < 1 ∧ ¬ o.length < far ∧ n < o.length + cnt) := by omega
          rw [hu]
          rcases hb3 with h1 | ⟨h1, h2⟩ | ⟨h1, h2, h3⟩
          all_goals (repeat (first
            | ((first | apply ar_un | apply stk_un); (next => (first | (simp only [go_sem, Nat.reduceBEq, Nat.reduceEqDiff, reduceIte, reduceCtorEq, String.reduceEq, Nat.reduceAdd, Int.reduceToNat]; exact rfl))))
            | (first
             | refine ar_unwantedN rfl rfl rfl rfl ?_
             | (apply ar_opN rfl rfl rfl rfl; (next => (first | exact opv_pickt_cb rfl rfl | exact opv_pickf rfl rfl rfl | exact opv_len_sl (T := TT) rfl rfl rfl | fail)))
             | fail)
            | (refine arC .ret ?_; refine ar_retM0 [4, 5] ?_)
            | (apply ar_op' rfl rfl rfl rfl; (next => (first
             | (refine evalE_ok (T := TT) rfl ?_; (first | exact trivial | omega))
             | (apply opk ⟨_, .binOp .lss _ _ _ _, _, _, _, _⟩; first
              | (refine opv_cmp_t rfl rfl rfl ?_; (next => (first | (simp only [cmpP]; omega))))
              | (refine opv_cmp_f rfl rfl rfl ?_; (next => (first | (simp only [cmpP]; omega))))
              | fail)
             | (apply opk ⟨_, .binOp .gtr _ _ _ _, _, _, _, _⟩; first
              | (refine opv_cmp_t rfl rfl rfl ?_; (next => (first | (simp only [cmpP]; omega))))
              | (refine opv_cmp_f rfl rfl rfl ?_; (next => (first | (simp only [cmpP]; omega))))
              | fail)
             | fail)))
            | (refine arO _ ?_; first | (refine arO ⟨_, .move _, _, _, _, _⟩ ?_; first | refine ar_move_sl rfl rfl rfl rfl ?_ | fail) | fail)
            | refine ar_seq ?_
            | (refine arE ?_; refine ar_endM [0, 1, 2, 4, 5, 6, 7, 8, 9, 10, 11, 12, 13, 14, 15, 16, 17, 18, 24, 32, 36, 43, 54, 57, 81, 84, 102, 103, 111, 117, 121, 140, 143, 159] rfl ?_)
            | refine ar_region ?_
            | (refine arC (.cond _ _ _) ?_; first | (refine ar_cond_true rfl ?_ ?_; (next => (first | rfl))) | fail)
            | refine stk_c_ret ?_
            | refine stk_b_ret ?_
            | refine stk_l_ret ?_
            | refine stk_nil ?_
            | fail))
          all_goals (exact qret_mk rfl (⟨rfl, rfl⟩))
        have h1 : ¬ far < 1 := by omega
        have h2 : ¬ o.length < far := by omega
        have h3 : ¬ n < o.length + cnt := by omega
        have hx2 : elemE (s.getD a 0).toNat (s.drop (a + 1)) o n = some (s.drop A, copyB far cnt o) := by rw [hx]; unfold copyE; rw [if_neg (by omega)]
        repeat (first
          | ((first | apply ar_un); (next => (first | (simp only [go_sem, Nat.reduceBEq, Nat.reduceEqDiff, reduceIte, reduceCtorEq, String.reduceEq, Nat.reduceAdd, Int.reduceToNat]; exact rfl))))
          | (first | (apply ar_opN rfl rfl rfl rfl; (next => (first | exact opv_pickf rfl rfl rfl | exact opv_len_sl (T := TT) rfl rfl rfl | fail))) | fail)
          | (apply ar_op' rfl rfl rfl rfl; (next => (first
           | (refine evalE_ok (T := TT) rfl ?_; (first | exact trivial | omega))
           | (apply opk ⟨_, .binOp .lss _ _ _ _, _, _, _, _⟩; first | (refine opv_cmp_f rfl rfl rfl ?_; (next => (first | (simp only [cmpP]; omega)))) | fail)
           | (apply opk ⟨_, .binOp .gtr _ _ _ _, _, _, _, _⟩; first | (refine opv_cmp_f rfl rfl rfl ?_; (next => (first | (simp only [cmpP]; omega)))) | fail)
           | fail)))
          | (refine arO _ ?_; first | (refine arO ⟨_, .move _, _, _, _, _⟩ ?_; first | refine ar_move_sl rfl rfl rfl rfl ?_ | fail) | fail)
          | refine ar_seq ?_
          | (refine arE ?_; refine ar_endM [0, 1, 2, 4, 5, 6, 7, 8, 9, 10, 11, 12, 13, 14, 15, 16, 17, 18, 24, 32, 36, 43, 54, 57, 81, 84, 102, 103, 111, 117, 121, 140, 143, 159] rfl ?_)
          | refine ar_region ?_
          | refine ar_block ?_
          | refine ar_skip ?_
          | (refine arC (.cond _ _ _) ?_; first | (refine ar_cond_false rfl ?_ ?_; (next => (first | rfl))) | fail)
          | fail)
        refine ar_loop (fun i : Nat => ⟨162, [(2, .v (.pointer (some ⟨kt, 0, none⟩))), (7, .v (.pointer (some ⟨kb, 0, none⟩))), (9, .v (.int .i64 n)), (10, .sl true 1 (byteA (copyB far i o))), (11, .fn 39 [.v (.pointer (some ⟨kb, 0, none⟩)), .v (.pointer (some ⟨kt, 0, none⟩))]), (16, .v (.int .i64 cnt)), (17, .v (.int .i64 far)), (18, .v (.int .i64 i))], [(kb, [.v (.int .i64 A)]), (kt, [.v (.string (mkB s))])], []⟩) (fun i => i ≤ cnt) (fun i => cnt - i) 0 ⟨rfl, ?_, ?_, rfl⟩ (by omega) ?_
        · (repeat' (first | exact trivial | exact .refl _ | refine ⟨⟨_, rfl, ?_⟩, ?_⟩))
        · (repeat' (first | exact trivial | exact LeL.refl _ | refine ⟨⟨_, look_hd, ?_⟩, ?_⟩ | refine ⟨⟨_, look_tl (by first | assumption) look_hd, ?_⟩, ?_⟩))
        intro i hi
        have hcl := copyB_len far i o
        by_cases him : i < cnt
        · repeat (first
          | ((first | apply ar_un); (next => (first | (simp only [go_sem, Nat.reduceBEq, Nat.reduceEqDiff, reduceIte, reduceCtorEq, String.reduceEq, Nat.reduceAdd, Int.reduceToNat]; exact rfl))))
          | (first | (apply ar_opN rfl rfl rfl rfl; (next => (first | exact opv_len_sl (T := TT) rfl rfl rfl | fail))) | fail)
          | (apply ar_op' rfl rfl rfl rfl; (next => (first
           | (refine evalE_ok (T := TT) rfl ?_; (first | exact trivial | omega))
           | (apply opk ⟨_, .binOp .lss _ _ _ _, _, _, _, _⟩; first | (refine opv_cmp_t rfl rfl rfl ?_; (next => (first | (simp only [cmpP]; omega)))) | fail)
           | (apply opk ⟨_, .indexAddr _ _ _, _, _, _, _⟩; first
            | (refine opv_indexaddr_byte (T := TT) rfl rfl rfl rfl ?_ ?_; (next => (first | omega)); (next => (first | omega)))
            | fail)
           | (apply opk ⟨_, .load _ _, _, _, _, _⟩; first | exact opv_load_el (T := TT) rfl rfl rfl | fail)
           | (apply opk ⟨_, .buildSlice _ _ _, _, _, _, _⟩; first | exact opv_build_slice (T := TT) rfl rfl rfl rfl rfl rfl rfl | fail)
           | fail)))
          | (refine arO _ ?_; first
           | (refine arO ⟨_, .move _, _, _, _, _⟩ ?_; first | refine ar_move_sl rfl rfl rfl rfl ?_ | fail)
           | (refine arO ⟨_, .assign _, _, _, _, _⟩ ?_; first | refine ar_assign_sl rfl rfl rfl rfl ?_ | fail)
           | (refine arO ⟨_, .call { callee := .builtin .append, args := _, argTypes := _ }, _, _, _, _⟩ ?_; first
            | (apply ar_effM rfl rfl; (next => (first
             | (apply effTo_append (T := TT) rfl rfl rfl rfl rfl rfl rfl rfl rfl rfl; (next => (first | (simp [RowsOne, AV.one, AV.rd, AV.cells, cst, Value.oneCell'] <;> omega))); (next => (first | (simp [NFL] <;> omega))))
             | fail)))
            | fail)
           | fail)
          | refine ar_seq ?_
          | (refine arE ?_; refine ar_endM [0, 1, 2, 4, 5, 6, 7, 8, 9, 10, 11, 12, 13, 14, 15, 16, 17, 18, 24, 32, 36, 43, 54, 57, 81, 84, 102, 103, 111, 117, 121, 140, 143, 159] rfl ?_)
          | refine ar_region ?_
          | refine ar_block ?_
          | refine ar_skip ?_
          | refine ar_blk ?_
          | (refine arC (.cond _ _ _) ?_; first | (refine ar_cond_true rfl ?_ ?_; (next => (first | rfl))) | fail)
          | fail)
          first | refine ar_back ⟨i + 1, ⟨rfl, ?_, ?_, rfl⟩, by omega, by omega⟩ | (trace_state; refine ar_back ⟨i + 1, ⟨rfl, ?_, ?_, rfl⟩, by omega, by omega⟩)
          · (repeat' (first | exact trivial | exact .refl _ | refine ⟨⟨_, rfl, ?_⟩, ?_⟩ | refine Le1.of_eq ?_))
            rw [copyB_snoc, byteA_append _ [_], show (((copyB far i o).length : Int) - far).toNat = (copyB far i o).length - far by omega]
            rfl
          · (repeat' (first | exact trivial | exact LeL.refl _ | refine ⟨⟨_, look_hd, ?_⟩, ?_⟩ | refine ⟨⟨_, look_tl (by first | assumption) look_hd, ?_⟩, ?_⟩))
        · obtain rfl : i = cnt := by omega
          repeat (first
            | ((first | apply ar_un); (next => (first | (simp only [go_sem, Nat.reduceBEq, Nat.reduceEqDiff, reduceIte, reduceCtorEq, String.reduceEq, Nat.reduceAdd, Int.reduceToNat]; exact rfl))))
            | (apply ar_op' rfl rfl rfl rfl; (next => (first
             | (refine evalE_ok (T := TT) rfl ?_; (first | exact trivial))
             | (apply opk ⟨_, .binOp .lss _ _ _ _, _, _, _, _⟩; first | (refine opv_cmp_f rfl rfl rfl ?_; (next => (first | (simp only [cmpP]; omega)))) | fail)
             | fail)))
            | refine ar_seq ?_
            | (refine arE ?_; refine ar_endM [0, 1, 2, 4, 5, 6, 7, 8, 9, 10, 11, 12, 13, 14, 15, 16, 17, 18, 24, 32, 36, 43, 54, 57, 81, 84, 102, 103, 111, 117, 121, 140, 143, 159] rfl ?_)
            | refine ar_region ?_
            | refine ar_blk ?_
            | (refine arC (.cond _ _ _) ?_; first | (refine ar_cond_false rfl ?_ ?_; (next => (first | rfl))) | fail)
            | refine ar_exit ?_
            | refine stk_b_hit ?_
            | refine stk_c_exit ?_
            | refine stk_l_exit ?_
            | fail)
          first | refine ar_back ⟨(A, copyB far i o), ⟨rfl, ?_, ?_, rfl⟩, ⟨hgood _ _ hx2, ?_, hA1⟩, ?_⟩ | (trace_state; refine ar_back ⟨(A, copyB far i o), ⟨rfl, ?_, ?_, rfl⟩, ⟨hgood _ _ hx2, ?_, hA1⟩, ?_⟩)
          · (repeat' (first | exact trivial | exact .refl _ | refine ⟨⟨_, rfl, ?_⟩, ?_⟩))
          · (repeat' (first | exact trivial | exact LeL.refl _ | refine ⟨⟨_, look_hd, ?_⟩, ?_⟩ | refine ⟨⟨_, look_tl (by first | assumption) look_hd, ?_⟩, ?_⟩))
          · show (copyB far i o).length ≤ n
            omega
          · show s.length - A < s.length - a
            omega
end Go.Proofs.Ytophpbihcfdkcaa
