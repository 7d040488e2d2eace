/- press.Unpack, walked over abstract values. -/
import Derived.Test.YtmoehipmpchofaaV4
import Derived.Test.YtmoehipmpchofaaVB
namespace Go.Proofs.Ytmoehipmpchofaa
open Go.RowKit P
set_option linter.unusedSimpArgs false
set_option linter.unusedVariables false
attribute [local irreducible] AS.nf OpV ARun Stk QSem QSemA ACalls EffOp AppOk SrcOk Awp Aops
set_option maxHeartbeats 1000000

/-- What Unpack answers: the text, and what is wrong. -/
def unpackB (s : List UInt8) (most : Int) : List UInt8 × Nat :=
  if most < 0 ∨ 20000 < most then ([], 3)
  else if (rd s).2.2 ≠ 0 then ([], 1)
  else if most < (rd s).1 then ([], 2)
  else match elems (s.drop (rd s).2.1) [] (rd s).1 with
    | none => ([], 1)
    | some o => if o.length < (rd s).1 then ([], 1) else (o, 0)

set_option maxRecDepth 100000 in
theorem unpack_a (s : List UInt8) (most : Int) (hs : s.length ≤ 140737488355328) (hmi : -9223372036854775808 ≤ most ∧ most ≤ 9223372036854775807) :
    ACalls Try.prog 42 [.v (.string (mkB s)), .v (.int .i64 most)] [] (fun out H => out = .ret (.tu [.v (.string (mkB (unpackB s most).1)), .v (.int .i64 (unpackB s most).2)]) ∧ H = []) := by
  refine acalls_enter _ 58 [.tmp 4, .tmp 5] Try.func42 (by kernel_rfl) rfl rfl rfl rfl ?_
  dsimp only [slotsOf]
  by_cases hm0 : most < 0
  · have hu : unpackB s most = ([], 3) := by unfold unpackB; rw [if_pos (.inl hm0)]
    repeat (first
      | ((first | apply ar_un | apply stk_un); (next => (first | (simp only [go_sem, Nat.reduceBEq, Nat.reduceEqDiff, reduceIte, reduceCtorEq, String.reduceEq, Nat.reduceAdd, Int.reduceToNat]; exact rfl))))
      | ((first | apply ar_op' rfl rfl rfl rfl); (next => (first
       | (refine evalE_ok (T := TT) rfl ?_; (first | exact trivial))
       | (apply opk ⟨_, .binOp .lss _ _ _ _, _, _, _, _⟩; first | (refine opv_cmp_t rfl rfl rfl ?_; (next => (first | (simp only [cmpP]; omega)))) | fail)
       | (apply opk ⟨_, .pick _ _ _, _, _, _, _⟩; first | (refine opv_pickt rfl ?_ rfl; (next => (first | rfl))) | fail)
       | fail)))
      | refine ar_unwanted' rfl rfl rfl rfl ?_
      | refine ar_seq ?_
      | (refine arE ?_; refine ar_endM [0, 1, 4, 5, 6, 7, 8, 9, 15, 23, 27, 39, 42, 52] rfl ?_)
      | refine ar_region ?_
      | (refine arC (.cond _ _ _) ?_; first | (refine ar_cond_true rfl ?_ ?_; (next => (first | rfl))) | fail)
      | (refine arC .ret ?_; refine ar_retM [4, 5] ?_)
      | refine stk_c_ret ?_
      | refine stk_nil ?_
      | fail)
    first | exact qret_mk rfl (⟨by rw [hu]; rfl, rfl⟩) | (trace_state; exact qret_mk rfl (⟨by rw [hu]; rfl, rfl⟩))
  by_cases hm1 : 20000 < most
  · have hu : unpackB s most = ([], 3) := by unfold unpackB; rw [if_pos (.inr hm1)]
    repeat (first
      | ((first | apply ar_un | apply stk_un); (next => (first | (simp only [go_sem, Nat.reduceBEq, Nat.reduceEqDiff, reduceIte, reduceCtorEq, String.reduceEq, Nat.reduceAdd, Int.reduceToNat]; exact rfl))))
      | ((first | apply ar_op' rfl rfl rfl rfl); (next => (first
       | (refine evalE_ok (T := TT) rfl ?_; (first | exact trivial))
       | (apply opk ⟨_, .binOp .lss _ _ _ _, _, _, _, _⟩; first | (refine opv_cmp_f rfl rfl rfl ?_; (next => (first | (simp only [cmpP]; omega)))) | fail)
       | (apply opk ⟨_, .binOp .gtr _ _ _ _, _, _, _, _⟩; first | (refine opv_cmp_t rfl rfl rfl ?_; (next => (first | (simp only [cmpP]; omega)))) | fail)
       | (apply opk ⟨_, .pick _ _ _, _, _, _, _⟩; first | (refine opv_pickf rfl ?_ rfl; (next => (first | rfl))) | fail)
       | fail)))
      | refine ar_seq ?_
      | (refine arE ?_; refine ar_endM [0, 1, 4, 5, 6, 7, 8, 9, 15, 23, 27, 39, 42, 52] rfl ?_)
      | refine ar_region ?_
      | (refine arC (.cond _ _ _) ?_; first | (refine ar_cond_true rfl ?_ ?_; (next => (first | rfl))) | fail)
      | (refine arC .ret ?_; refine ar_retM [4, 5] ?_)
      | refine stk_c_ret ?_
      | refine stk_nil ?_
      | fail)
    first | exact qret_mk rfl (⟨by rw [hu]; rfl, rfl⟩) | (trace_state; exact qret_mk rfl (⟨by rw [hu]; rfl, rfl⟩))
  obtain ⟨n, k, e, hrd⟩ : ∃ n k e, rd s = (n, k, e) := ⟨_, _, _, rfl⟩
  repeat (first
    | ((first | apply ar_un); (next => (first | (simp only [go_sem, Nat.reduceBEq, Nat.reduceEqDiff, reduceIte, reduceCtorEq, String.reduceEq, Nat.reduceAdd, Int.reduceToNat]; exact rfl))))
    | ((first | apply ar_op' rfl rfl rfl rfl); (next => (first
     | (refine evalE_ok (T := TT) rfl ?_; (first | exact trivial))
     | (apply opk ⟨_, .binOp .lss _ _ _ _, _, _, _, _⟩; first | (refine opv_cmp_f rfl rfl rfl ?_; (next => (first | (simp only [cmpP]; omega)))) | fail)
     | (apply opk ⟨_, .binOp .gtr _ _ _ _, _, _, _, _⟩; first | (refine opv_cmp_f rfl rfl rfl ?_; (next => (first | (simp only [cmpP]; omega)))) | fail)
     | (apply opk ⟨_, .pick _ _ _, _, _, _, _⟩; first | (refine opv_pickf rfl ?_ rfl; (next => (first | rfl))) | fail)
     | fail)))
    | refine ar_seq ?_
    | (refine arE ?_; refine ar_endM [0, 1, 4, 5, 6, 7, 8, 9, 15, 23, 27, 39, 42, 52] rfl ?_)
    | refine ar_region ?_
    | refine ar_skip ?_
    | (refine arC (.cond _ _ _) ?_; first | (refine ar_cond_false rfl ?_ ?_; (next => (first | rfl))) | fail)
    | fail)
  by_cases he : e = 0
  · subst he
    have hf := rd_fine hrd
    by_cases hn : most < n
    · have hu : unpackB s most = ([], 2) := by unfold unpackB; rw [if_neg (by omega), hrd, if_neg (by simp), if_pos hn]
      repeat (first
        | ((first | apply ar_un | apply stk_un); (next => (first | (simp only [go_sem, Nat.reduceBEq, Nat.reduceEqDiff, reduceIte, reduceCtorEq, String.reduceEq, Nat.reduceAdd, Int.reduceToNat]; exact rfl))))
        | ((first | apply ar_op' rfl rfl rfl rfl); (next => (first
         | (refine evalE_ok (T := TT) rfl ?_; (first | exact trivial))
         | (apply opk ⟨_, .binOp .neq _ _ _ _, _, _, _, _⟩; first | (refine opv_cmp_f rfl rfl rfl ?_; (next => (first | (simp only [cmpP]; omega)))) | fail)
         | (apply opk ⟨_, .binOp .gtr _ _ _ _, _, _, _, _⟩; first | (refine opv_cmp_t rfl rfl rfl ?_; (next => (first | (simp only [cmpP]; omega)))) | fail)
         | (apply opk ⟨_, .convert _ _ _, _, _, _, _⟩; first | (refine opv_convu64 (T := TT) rfl rfl rfl ?_; (next => (first | omega))) | fail)
         | fail)))
        | (refine arO _ ?_; first
         | (refine arO ⟨_, .call { callee := .value _, args := _, argTypes := _ }, _, _, _, _⟩ ?_; first
          | (apply ar_callM0 rfl (readNumber_a s n k 0 hrd hs) rfl rfl; (next => (repeat (first | exact PArgs.nil | (apply PArgs.cons; (next => (first | exact PArg.rd rfl (Le1.refl _) rfl)))))); (next => rfl); (next => rfl); rintro _ _ ⟨rfl, rfl⟩; refine ⟨_, rfl, ?_⟩)
          | fail)
         | fail)
        | refine ar_seq ?_
        | (refine arE ?_; refine ar_endM [0, 1, 4, 5, 6, 7, 8, 9, 15, 23, 27, 39, 42, 52] rfl ?_)
        | refine ar_region ?_
        | refine ar_skip ?_
        | (refine arC (.cond _ _ _) ?_; first | (refine ar_cond_true rfl ?_ ?_; (next => (first | rfl))) | (refine ar_cond_false rfl ?_ ?_; (next => (first | rfl))) | fail)
        | (refine arC .ret ?_; refine ar_retM [4, 5] ?_)
        | refine stk_c_ret ?_
        | refine stk_nil ?_
        | fail)
      first | exact qret_mk rfl (⟨by rw [hu]; rfl, rfl⟩) | (trace_state; exact qret_mk rfl (⟨by rw [hu]; rfl, rfl⟩))
    · have hu : unpackB s most = match elems (s.drop k) [] n with
          | none => ([], 1)
          | some o => if o.length < n then ([], 1) else (o, 0) := by unfold unpackB; rw [if_neg (by omega), hrd, if_neg (by simp), if_neg (by simpa using hn)]
      repeat (first
        | ((first | apply ar_un); (next => (first | (simp only [go_sem, Nat.reduceBEq, Nat.reduceEqDiff, reduceIte, reduceCtorEq, String.reduceEq, Nat.reduceAdd, Int.reduceToNat]; exact rfl))))
        | ((first | apply ar_op' rfl rfl rfl rfl); (next => (first
         | (refine evalE_ok (T := TT) rfl ?_; (first | exact trivial | (simp [NFL] <;> omega)))
         | (apply opk ⟨_, .binOp .neq _ _ _ _, _, _, _, _⟩; first | (refine opv_cmp_f rfl rfl rfl ?_; (next => (first | (simp only [cmpP]; omega)))) | fail)
         | (apply opk ⟨_, .binOp .gtr _ _ _ _, _, _, _, _⟩; first | (refine opv_cmp_f rfl rfl rfl ?_; (next => (first | (simp only [cmpP]; omega)))) | fail)
         | (apply opk ⟨_, .convert _ _ _, _, _, _, _⟩; first
          | (refine opv_conv64 (T := TT) rfl rfl rfl ?_; (next => (first | omega)))
          | (refine opv_convu64 (T := TT) rfl rfl rfl ?_; (next => (first | omega)))
          | fail)
         | (apply opk ⟨_, .build _ _, _, _, _, _⟩; first | exact opv_build (T := TT) rfl rfl rfl rfl rfl | fail)
         | fail)))
        | (refine arO _ ?_; first
         | (refine arO ⟨_, .box _ _, _, _, _, _⟩ ?_; first
          | (refine ar_eff rfl rfl (eff_boxB rfl rfl rfl rfl ?_); intro kb hkb; (repeat (have hkn := (freshK_ne hkb).1; replace hkb := (freshK_ne hkb).2)); (try have hkl := freshK_look hkb); clear hkb; refine ar_nf ?_)
          | fail)
         | (refine arO ⟨_, .call { callee := .value _, args := _, argTypes := _ }, _, _, _, _⟩ ?_; first
          | (apply ar_callM0 rfl (readNumber_a s n k 0 hrd hs) rfl rfl; (next => (repeat (first | exact PArgs.nil | (apply PArgs.cons; (next => (first | exact PArg.rd rfl (Le1.refl _) rfl)))))); (next => rfl); (next => rfl); rintro _ _ ⟨rfl, rfl⟩; refine ⟨_, rfl, ?_⟩)
          | fail)
         | fail)
        | refine ar_seq ?_
        | (refine arE ?_; refine ar_endM [0, 1, 4, 5, 6, 7, 8, 9, 15, 23, 27, 39, 42, 52] rfl ?_)
        | refine ar_region ?_
        | refine ar_block ?_
        | refine ar_skip ?_
        | (refine arC (.cond _ _ _) ?_; first | (refine ar_cond_false rfl ?_ ?_; (next => (first | rfl))) | fail)
        | fail)
      refine ar_loop (fun y : List UInt8 × List UInt8 => ⟨58, [(9, .v (.pointer (some ⟨kb, 0, none⟩)))], [(kb, [AV.v (.string (mkB (y.1))), .sl true 1 (byteA (y.2)), .v (.int .i64 (n))])], []⟩) (fun y => elems y.1 y.2 n = elems (s.drop k) [] n ∧ y.2.length ≤ n ∧ y.1.length ≤ 140737488355328) (fun y => y.1.length) (s.drop k, []) ⟨rfl, ?_, ?_, rfl⟩ ⟨rfl, by simp, by simp; omega⟩ ?_
      · (repeat' (first | exact trivial | exact .refl _ | refine ⟨⟨_, rfl, ?_⟩, ?_⟩))
      · (repeat' (first | exact trivial | exact LeL.refl _ | exact .refl _ | refine ⟨⟨_, look_hd, ?_⟩, ?_⟩ | exact .nil _ _ | refine LeL.cons ?_ ?_))
      · rintro ⟨q, o⟩ ⟨hq, hol, hql⟩
        dsimp only at hq hol hql ⊢
        cases q with
        | nil =>
          rw [elems_nil] at hq
          rw [← hq] at hu
          dsimp only at hu
          by_cases hlt : o.length < n
          · rw [if_pos hlt] at hu
            repeat (first
              | ((first | apply ar_un | apply stk_un); (next => (first | (simp only [go_sem, Nat.reduceBEq, Nat.reduceEqDiff, reduceIte, reduceCtorEq, String.reduceEq, Nat.reduceAdd, Int.reduceToNat]; exact rfl))))
              | (refine arC .ret ?_; refine ar_retM0 [4, 5] ?_)
              | ((first | apply ar_op' rfl rfl rfl rfl | apply q_op rfl rfl rfl); (next => (first
               | (refine evalE_ok (T := TT) rfl ?_; (first | exact trivial))
               | (apply opk ⟨_, .binOp .neq _ _ _ _, _, _, _, _⟩; first | (refine opv_sne_f rfl rfl rfl ?_; (next => (first | rfl))) | fail)
               | (apply opk ⟨_, .binOp .lss _ _ _ _, _, _, _, _⟩; first | (refine opv_cmp_t rfl rfl rfl ?_; (next => (first | (simp only [cmpP]; simp [NFL] <;> omega)))) | fail)
               | (apply opk ⟨_, .call { callee := .builtin .len, args := _, argTypes := _ }, _, _, _, _⟩; first | exact opv_len_sl (T := TT) rfl rfl rfl | fail)
               | (apply opk ⟨_, .fieldAddr _ _ _, _, _, _, _⟩; first | exact opv_field_box (T := TT) rfl rfl rfl rfl rfl | fail)
               | fail)))
              | (refine arO _ ?_; first
               | (refine arO ⟨_, .load _ _, _, _, _, _⟩ ?_; first | refine ar_load_own (T := TT) rfl rfl rfl rfl look_hd rfl rfl rfl rfl ?_ | fail)
               | fail)
              | (apply q_op rfl rfl rfl; (next => (first | (apply opv_load_box (T := TT) rfl; (next => (first | exact look_hd | fail)); (next => rfl); (next => rfl); (next => rfl); (next => rfl)) | fail)))
              | refine ar_seq ?_
              | (refine arE ?_; refine ar_endM [0, 1, 4, 5, 6, 7, 8, 9, 15, 23, 27, 39, 42, 52] rfl ?_)
              | refine ar_region ?_
              | (refine arC (.cond _ _ _) ?_; first | (refine ar_cond_true rfl ?_ ?_; (next => (first | rfl))) | (refine ar_cond_false rfl ?_ ?_; (next => (first | rfl))) | fail)
              | refine ar_exit ?_
              | refine stk_b_hit ?_
              | refine stk_c_exit ?_
              | refine stk_l_exit ?_
              | refine stk_c_ret ?_
              | refine stk_nil ?_
              | (refine arC (.region _ _ true) ?_; refine ar_nop (ar_draw mixed (by kernel_rfl) rfl ?_))
              | (refine q_nil ?_; refine ar_endM [0, 1, 4, 5, 6, 7, 8, 9, 15, 23, 27, 39, 42, 52] rfl ?_)
              | fail)
            first | exact qret_mk rfl (⟨by rw [hu]; rfl, rfl⟩) | (trace_state; exact qret_mk rfl (⟨by rw [hu]; rfl, rfl⟩))
          · rw [if_neg hlt] at hu
            repeat (first
              | ((first | apply ar_un | apply stk_un); (next => (first | (simp only [go_sem, Nat.reduceBEq, Nat.reduceEqDiff, reduceIte, reduceCtorEq, String.reduceEq, Nat.reduceAdd, Int.reduceToNat]; exact rfl))))
              | (refine arC .ret ?_; refine ar_retM0 [4, 5] ?_)
              | ((first | apply ar_op' rfl rfl rfl rfl | apply q_op rfl rfl rfl); (next => (first
               | (refine evalE_ok (T := TT) rfl ?_; (first | exact trivial))
               | (apply opk ⟨_, .binOp .neq _ _ _ _, _, _, _, _⟩; first | (refine opv_sne_f rfl rfl rfl ?_; (next => (first | rfl))) | fail)
               | (apply opk ⟨_, .binOp .lss _ _ _ _, _, _, _, _⟩; first | (refine opv_cmp_f rfl rfl rfl ?_; (next => (first | (simp only [cmpP]; simp [NFL] <;> omega)))) | fail)
               | (apply opk ⟨_, .convert _ _ _, _, _, _, _⟩; first | exact opv_bytes_str (T := TT) rfl rfl rfl rfl | fail)
               | (apply opk ⟨_, .call { callee := .builtin .len, args := _, argTypes := _ }, _, _, _, _⟩; first | exact opv_len_sl (T := TT) rfl rfl rfl | fail)
               | (apply opk ⟨_, .fieldAddr _ _ _, _, _, _, _⟩; first | exact opv_field_box (T := TT) rfl rfl rfl rfl rfl | fail)
               | fail)))
              | (refine arO _ ?_; first
               | (refine arO ⟨_, .load _ _, _, _, _, _⟩ ?_; first | refine ar_load_own (T := TT) rfl rfl rfl rfl look_hd rfl rfl rfl rfl ?_ | fail)
               | fail)
              | (apply q_op rfl rfl rfl; (next => (first | (apply opv_load_box (T := TT) rfl; (next => (first | exact look_hd | fail)); (next => rfl); (next => rfl); (next => rfl); (next => rfl)) | fail)))
              | refine ar_seq ?_
              | (refine arE ?_; refine ar_endM [0, 1, 4, 5, 6, 7, 8, 9, 15, 23, 27, 39, 42, 52] rfl ?_)
              | refine ar_region ?_
              | refine ar_skip ?_
              | (refine arC (.cond _ _ _) ?_; first | (refine ar_cond_false rfl ?_ ?_; (next => (first | rfl))) | fail)
              | refine ar_exit ?_
              | refine stk_b_hit ?_
              | refine stk_c_exit ?_
              | refine stk_l_exit ?_
              | refine stk_nil ?_
              | (refine arC (.region _ _ true) ?_; refine ar_nop (ar_draw mixed (by kernel_rfl) rfl ?_))
              | (refine q_nil ?_; refine ar_endM [0, 1, 4, 5, 6, 7, 8, 9, 15, 23, 27, 39, 42, 52] rfl ?_)
              | fail)
            first | exact qret_mk rfl (⟨by rw [hu]; rfl, rfl⟩) | (trace_state; exact qret_mk rfl (⟨by rw [hu]; rfl, rfl⟩))
        | cons c r =>
          have hne : c :: r ≠ [] := by simp
          repeat (first
            | ((first | apply ar_un); (next => (first | (simp only [go_sem, Nat.reduceBEq, Nat.reduceEqDiff, reduceIte, reduceCtorEq, String.reduceEq, Nat.reduceAdd, Int.reduceToNat]; exact rfl))))
            | ((first | apply ar_op' rfl rfl rfl rfl); (next => (first
             | (refine evalE_ok (T := TT) rfl ?_; (first | exact trivial))
             | (apply opk ⟨_, .binOp .neq _ _ _ _, _, _, _, _⟩; first | (refine opv_sne_t rfl rfl rfl ?_; (next => (first | assumption))) | fail)
             | (apply opk ⟨_, .fieldAddr _ _ _, _, _, _, _⟩; first | exact opv_field_box (T := TT) rfl rfl rfl rfl rfl | fail)
             | fail)))
            | (refine arO _ ?_; first
             | (refine arO ⟨_, .load _ _, _, _, _, _⟩ ?_; first | refine ar_load_own (T := TT) rfl rfl rfl rfl look_hd rfl rfl rfl rfl ?_ | fail)
             | fail)
            | refine ar_seq ?_
            | (refine arE ?_; refine ar_endM [0, 1, 4, 5, 6, 7, 8, 9, 15, 23, 27, 39, 42, 52] rfl ?_)
            | refine ar_region ?_
            | refine ar_block ?_
            | refine ar_skip ?_
            | (refine arC (.cond _ _ _) ?_; first | (refine ar_cond_true rfl ?_ ?_; (next => (first | rfl))) | fail)
            | fail)
          apply ar_callMH rfl (elem_a kb c r o n (by omega) hol (by simp at hql; omega)) rfl rfl; (next => (repeat (first | exact PArgs.nil | (apply PArgs.cons; (next => (first | exact PArg.rd rfl (Le1.refl _) rfl)))))); (next => rfl); (next => rfl); (next => rfl); rintro out H' (⟨hx, rfl⟩ | ⟨r', o', hx, rfl, rfl⟩)
          · rw [elems_none hx] at hq
            rw [← hq] at hu
            refine ⟨_, rfl, ?_⟩
            repeat (first
              | ((first | apply ar_un | apply stk_un); (next => (first | (simp only [go_sem, Nat.reduceBEq, Nat.reduceEqDiff, reduceIte, reduceCtorEq, String.reduceEq, Nat.reduceAdd, Int.reduceToNat]; exact rfl))))
              | (refine arC .ret ?_; refine ar_retM0 [4, 5] ?_)
              | ((first | apply ar_op' rfl rfl rfl rfl); (next => (first | (refine evalE_ok (T := TT) rfl ?_; (first | exact trivial)) | fail)))
              | refine ar_seq ?_
              | (refine arE ?_; refine ar_endM [0, 1, 4, 5, 6, 7, 8, 9, 15, 23, 27, 39, 42, 52] rfl ?_)
              | refine ar_region ?_
              | (refine arC (.cond _ _ _) ?_; first | (refine ar_cond_true rfl ?_ ?_; (next => (first | rfl))) | fail)
              | refine stk_c_ret ?_
              | refine stk_b_ret ?_
              | refine stk_l_ret ?_
              | refine stk_nil ?_
              | fail)
            first | exact qret_mk rfl (⟨by rw [hu]; rfl, rfl⟩) | (trace_state; exact qret_mk rfl (⟨by rw [hu]; rfl, rfl⟩))
          · have hle := elemE_less hx
            refine ⟨_, rfl, ?_⟩
            repeat (first | ((first | apply ar_un); (next => (first | (simp only [go_sem, Nat.reduceBEq, Nat.reduceEqDiff, reduceIte, reduceCtorEq, String.reduceEq, Nat.reduceAdd, Int.reduceToNat]; exact rfl)))) | ((first | apply ar_op' rfl rfl rfl rfl); (next => (first | (refine evalE_ok (T := TT) rfl ?_; (first | exact trivial)) | fail))) | (refine arE ?_; refine ar_endM [0, 1, 4, 5, 6, 7, 8, 9, 15, 23, 27, 39, 42, 52] rfl ?_) | refine ar_skip ?_ | refine ar_blk ?_ | (refine arC (.cond _ _ _) ?_; first | (refine ar_cond_false rfl ?_ ?_; (next => (first | rfl))) | fail) | fail)
            refine ar_back ⟨(r', o'), ⟨rfl, ?_, ?_, rfl⟩, ⟨by rw [← hq, elems_some hx], hle.2.1, by simp at hql; show r'.length ≤ _; omega⟩, by simp; omega⟩
            · (repeat' (first | exact trivial | exact .refl _ | refine ⟨⟨_, rfl, ?_⟩, ?_⟩))
            · (repeat' (first | exact trivial | exact LeL.refl _ | refine ⟨⟨_, look_hd, ?_⟩, ?_⟩))
  · have hu : unpackB s most = ([], 1) := by unfold unpackB; rw [if_neg (by omega), hrd, if_pos he]
    repeat (first
      | ((first | apply ar_un | apply stk_un); (next => (first | (simp only [go_sem, Nat.reduceBEq, Nat.reduceEqDiff, reduceIte, reduceCtorEq, String.reduceEq, Nat.reduceAdd, Int.reduceToNat]; exact rfl))))
      | ((first | apply ar_op' rfl rfl rfl rfl); (next => (first
       | (refine evalE_ok (T := TT) rfl ?_; (first | exact trivial))
       | (apply opk ⟨_, .binOp .neq _ _ _ _, _, _, _, _⟩; first | (refine opv_cmp_t rfl rfl rfl ?_; (next => (first | (simp only [cmpP]; omega)))) | fail)
       | fail)))
      | (refine arO _ ?_; first
       | (refine arO ⟨_, .call { callee := .value _, args := _, argTypes := _ }, _, _, _, _⟩ ?_; first
        | (apply ar_callM0 rfl (readNumber_a s n k e hrd hs) rfl rfl; (next => (repeat (first | exact PArgs.nil | (apply PArgs.cons; (next => (first | exact PArg.rd rfl (Le1.refl _) rfl)))))); (next => rfl); (next => rfl); rintro _ _ ⟨rfl, rfl⟩; refine ⟨_, rfl, ?_⟩)
        | fail)
       | fail)
      | refine ar_seq ?_
      | (refine arE ?_; refine ar_endM [0, 1, 4, 5, 6, 7, 8, 9, 15, 23, 27, 39, 42, 52] rfl ?_)
      | refine ar_region ?_
      | (refine arC (.cond _ _ _) ?_; first | (refine ar_cond_true rfl ?_ ?_; (next => (first | rfl))) | fail)
      | (refine arC .ret ?_; refine ar_retM [4, 5] ?_)
      | refine stk_c_ret ?_
      | refine stk_nil ?_
      | fail)
    first | exact qret_mk rfl (⟨by rw [hu]; rfl, rfl⟩) | (trace_state; exact qret_mk rfl (⟨by rw [hu]; rfl, rfl⟩))
end Go.Proofs.Ytmoehipmpchofaa
