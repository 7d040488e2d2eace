/- The walk of the law WirePasses, over abstract values. -/
import Derived.Test.YtophpbihcfdkcaaRM
import Derived.Test.YtophpbihcfdkcaaVC
namespace Go.Proofs.Ytophpbihcfdkcaa
open Go.RowKit P
set_option linter.unusedSimpArgs false
set_option linter.unusedVariables false
attribute [local irreducible] AS.nf OpV ARun Stk QSem QSemA ACalls EffOp AppOk SrcOk Awp Aops
set_option maxHeartbeats 16000000

set_option maxRecDepth 100000 in
theorem wirePasses_a (s : List UInt8) (number : Int) (bytes : List UInt8) (hs : s.length ≤ 140737488355328) (hn : -9223372036854775808 ≤ number ∧ number ≤ 9223372036854775807) (hb : bytes.length ≤ 140737488355328) : ACalls Try.prog 13 [.v (.string (mkB s)), .v (.int .i64 number), .v (.string (mkB bytes))] [] (fun out H => out = .ret (.v (.bool true)) ∧ H = []) := by
  obtain ⟨c, hc, hc1⟩ := cho_nat number 1000 (by decide)
  obtain ⟨F, hF⟩ : ∃ F, F = num (8 * (2 + c) + 2) ++ num bytes.length ++ bytes := ⟨_, rfl⟩
  have hF2 : F = fieldB (2 + c) bytes := by rw [hF]; rfl
  have hl1 : (num (8 * (2 + c) + 2)).length ≤ 10 := num_len10 (by omega)
  have hl2 : (num bytes.length).length ≤ 10 := num_len10 (by omega)
  have hFl : F.length ≤ 140737488355528 := by rw [hF]; simp only [List.length_append]; omega
  obtain ⟨L, e, h1⟩ : ∃ L e, readR s = (L, e) := ⟨_, _, rfl⟩
  obtain ⟨X, f, h2⟩ : ∃ X f, readR (F ++ s) = (X, f) := ⟨_, _, rfl⟩
  obtain ⟨Y, g, h3⟩ : ∃ Y g, readR (s ++ F) = (Y, g) := ⟨_, _, rfl⟩
  have hp : readB (F ++ s) = readB s := by rw [hF2]; exact readB_pass (2 + c) (by omega) (by omega) bytes s (by omega)
  have hp' : ∀ L, readB s = some L → readB (s ++ F) = some L := fun L h => by rw [hF2]; exact readB_pass' (2 + c) (by omega) (by omega) bytes s (by omega) h
  clear hF2
  subst hF
  simp only [List.length_append] at hFl
  by_cases he : e = 0
  · subst he
    obtain ⟨ls, rs, cs, gs⟩ := readR_ok h1
    obtain ⟨tL, uL⟩ := small_chk cs
    by_cases hbig : 20000 < s.length + ((num (8 * (2 + c) + 2)).length + (num bytes.length).length + bytes.length)
    · rw [readR_big (by simp only [List.length_append]; omega)] at h2 h3
      cases h2; cases h3
      refine acalls_enter _ 81 [.tmp 6] Try.func13 (by kernel_rfl) rfl rfl rfl rfl ?_
      dsimp only [slotsOf]
      repeat (first
        | ((first | apply ar_un | apply stk_un); (next => (first | (simp only [go_sem, Nat.reduceBEq, Nat.reduceEqDiff, reduceIte, reduceCtorEq, String.reduceEq, Nat.reduceAdd, Int.reduceToNat]; exact rfl) | exact rfl)))
        | (apply ar_op' rfl rfl rfl rfl; (next => (first
         | (refine evalE_ok (T := TT) rfl ?_; (first | exact trivial | omega | (simp [NFL] <;> omega)))
         | (apply opk ⟨_, .move _, _, _, _, _⟩; first | exact opv_const (cst_plain _) (.inl rfl) | fail)
         | (apply opk ⟨_, .binOp .add _ _ _ _, _, _, _, _⟩; first | exact opv_bin rfl rfl rfl | fail)
         | (apply opk ⟨_, .binOp .mul _ _ _ _, _, _, _, _⟩; first | exact opv_bin rfl rfl rfl | fail)
         | (apply opk ⟨_, .binOp .eql _ _ _ _, _, _, _, _⟩; first
          | (refine opv_cmp_t rfl rfl rfl ?_; (next => (first | exact rfl | (simp only [cmpP]; omega) | (simp only [cmpP]; simp [NFL] <;> omega))))
          | (refine opv_cmp_f rfl rfl rfl ?_; (next => (first | exact rfl | (simp only [cmpP]; omega) | (simp only [cmpP]; simp [NFL] <;> omega))))
          | exact opv_bin rfl rfl rfl
          | (refine opv_seq_t rfl rfl rfl ?_; (next => (first | rfl | assumption)))
          | (refine opv_seq_f rfl rfl rfl ?_; (next => (first | rfl | assumption)))
          | exact opv_str rfl rfl rfl
          | fail)
         | (apply opk ⟨_, .binOp .neq _ _ _ _, _, _, _, _⟩; first
          | (refine opv_cmp_t rfl rfl rfl ?_; (next => (first | exact rfl | (simp only [cmpP]; omega) | (simp only [cmpP]; simp [NFL] <;> omega))))
          | (refine opv_cmp_f rfl rfl rfl ?_; (next => (first | exact rfl | (simp only [cmpP]; omega) | (simp only [cmpP]; simp [NFL] <;> omega))))
          | exact opv_bin rfl rfl rfl
          | (refine opv_sne_t rfl rfl rfl ?_; (next => (first | rfl | assumption)))
          | (refine opv_sne_f rfl rfl rfl ?_; (next => (first | rfl | assumption)))
          | exact opv_str rfl rfl rfl
          | fail)
         | (apply opk ⟨_, .binOp .gtr _ _ _ _, _, _, _, _⟩; first
          | (refine opv_cmp_t rfl rfl rfl ?_; (next => (first | exact rfl | (simp only [cmpP]; omega) | (simp only [cmpP]; simp [NFL] <;> omega))))
          | (refine opv_cmp_f rfl rfl rfl ?_; (next => (first | exact rfl | (simp only [cmpP]; omega) | (simp only [cmpP]; simp [NFL] <;> omega))))
          | exact opv_bin rfl rfl rfl
          | exact opv_str rfl rfl rfl
          | fail)
         | (apply opk ⟨_, .unOp _ _ _, _, _, _, _⟩; first | exact opv_not_t rfl rfl | exact opv_not_f rfl rfl | exact opv_neg rfl rfl | fail)
         | (apply opk ⟨_, .convert _ _ _, _, _, _, _⟩; first
          | (refine opv_conv_byte (T := TT) rfl rfl rfl ?_; (next => (first | exact .inl rfl | exact .inr (.inl rfl) | exact .inr (.inr rfl))))
          | (refine opv_conv64 (T := TT) rfl rfl rfl ?_; (next => (first | omega | (simp [NFL] <;> omega))))
          | (refine opv_convu64 (T := TT) rfl rfl rfl ?_; (next => (first | omega | (simp [NFL] <;> omega))))
          | exact opv_conv8 (T := TT) rfl rfl rfl
          | exact opv_conv_int (T := TT) rfl rfl rfl
          | exact opv_conv_str (T := TT) rfl rfl rfl
          | exact opv_bytes_str (T := TT) rfl rfl rfl rfl
          | exact opv_str_bytes (T := TT) rfl rfl rfl rfl
          | fail)
         | (apply opk ⟨_, .call { callee := .builtin .len, args := _, argTypes := _ }, _, _, _, _⟩; first
          | exact opv_len_str (T := TT) rfl rfl rfl
          | exact opv_len_sl (T := TT) rfl rfl rfl
          | exact opv_len_nil (T := TT) rfl rfl rfl
          | fail)
         | (apply opk ⟨_, .pick _ _ _, _, _, _, _⟩; first
          | (refine opv_pickt rfl ?_ rfl; (next => (first | rfl | assumption)))
          | (refine opv_pickf rfl ?_ rfl; (next => (first | rfl | assumption)))
          | fail)
         | fail)))
        | (refine arO _ ?_; first
         | (refine arO ⟨_, .move _, _, _, _, _⟩ ?_; first | refine ar_move_sl rfl rfl rfl rfl ?_ | fail)
         | (refine arO ⟨_, .assign _, _, _, _, _⟩ ?_; first
          | refine ar_assign_sl rfl rfl rfl rfl ?_
          | refine ar_op rfl rfl rfl rfl (opv_const (cst_plain _) (.inr rfl)) ?_
          | fail)
         | (refine arO ⟨_, .call { callee := .value _, args := _, argTypes := _ }, _, _, _, _⟩ ?_; first
          | (apply ar_callM0 rfl (wireBegun_a) rfl rfl; (next => (repeat (first
           | exact PArgs.nil
           | (apply PArgs.cons; (next => (first
            | exact PArg.own rfl rfl
            | exact PArg.rd rfl (Le1.refl _) rfl
            | exact PArg.rd rfl (Le1.rd _ _ _) rfl
            | exact PArg.nil rfl
            | exact PArg.rd rfl (Le1.nil _ _) rfl
            | (refine PArg.rd rfl (Le1.of_eq ?_) rfl; congr 2 <;> (first | omega | (simp; omega) | (simp [NFL]; done))))))))); (next => rfl); (next => rfl); rintro _ _ ⟨rfl, rfl⟩; refine ⟨_, rfl, ?_⟩)
          | (apply ar_callM0 rfl (choose_a number 1000 hn (by decide) c hc) rfl rfl; (next => (repeat (first
           | exact PArgs.nil
           | (apply PArgs.cons; (next => (first
            | exact PArg.own rfl rfl
            | exact PArg.rd rfl (Le1.refl _) rfl
            | exact PArg.rd rfl (Le1.rd _ _ _) rfl
            | exact PArg.nil rfl
            | exact PArg.rd rfl (Le1.nil _ _) rfl
            | (refine PArg.rd rfl (Le1.of_eq ?_) rfl; congr 2 <;> (first | omega | (simp; omega) | (simp [NFL]; done))))))))); (next => rfl); (next => rfl); rintro _ _ ⟨rfl, rfl⟩; refine ⟨_, rfl, ?_⟩)
          | (apply ar_callM0 rfl (number_a (8 * (2 + c) + 2) (by omega)) rfl rfl; (next => (repeat (first
           | exact PArgs.nil
           | (apply PArgs.cons; (next => (first
            | exact PArg.own rfl rfl
            | exact PArg.rd rfl (Le1.refl _) rfl
            | exact PArg.rd rfl (Le1.rd _ _ _) rfl
            | exact PArg.nil rfl
            | exact PArg.rd rfl (Le1.nil _ _) rfl
            | (refine PArg.rd rfl (Le1.of_eq ?_) rfl; congr 2 <;> (first | omega | (simp; omega) | (simp [NFL]; done))))))))); (next => rfl); (next => rfl); rintro _ _ ⟨rfl, rfl⟩; refine ⟨_, rfl, ?_⟩)
          | (apply ar_callM0 rfl (number_a bytes.length (by omega)) rfl rfl; (next => (repeat (first
           | exact PArgs.nil
           | (apply PArgs.cons; (next => (first
            | exact PArg.own rfl rfl
            | exact PArg.rd rfl (Le1.refl _) rfl
            | exact PArg.rd rfl (Le1.rd _ _ _) rfl
            | exact PArg.nil rfl
            | exact PArg.rd rfl (Le1.nil _ _) rfl
            | (refine PArg.rd rfl (Le1.of_eq ?_) rfl; congr 2 <;> (first | omega | (simp; omega) | (simp [NFL]; done))))))))); (next => rfl); (next => rfl); rintro _ _ ⟨rfl, rfl⟩; refine ⟨_, rfl, ?_⟩)
          | (apply ar_callM0 rfl (read_is s L 0 h1 (by omega)) rfl rfl; (next => (repeat (first
           | exact PArgs.nil
           | (apply PArgs.cons; (next => (first
            | exact PArg.own rfl rfl
            | exact PArg.rd rfl (Le1.refl _) rfl
            | exact PArg.rd rfl (Le1.rd _ _ _) rfl
            | exact PArg.nil rfl
            | exact PArg.rd rfl (Le1.nil _ _) rfl
            | (refine PArg.rd rfl (Le1.of_eq ?_) rfl; congr 2 <;> (first | omega | (simp; omega) | (simp [NFL]; done))))))))); (next => rfl); (next => rfl); rintro _ _ ⟨rfl, rfl⟩; refine ⟨_, rfl, ?_⟩)
          | (apply ar_callM0 rfl (read_is ((num (8 * (2 + c) + 2) ++ num bytes.length ++ bytes) ++ s) [] 2 (readR_big (by simp only [List.length_append]; omega)) (by simp only [List.length_append]; omega)) rfl rfl; (next => (repeat (first
           | exact PArgs.nil
           | (apply PArgs.cons; (next => (first
            | exact PArg.own rfl rfl
            | exact PArg.rd rfl (Le1.refl _) rfl
            | exact PArg.rd rfl (Le1.rd _ _ _) rfl
            | exact PArg.nil rfl
            | exact PArg.rd rfl (Le1.nil _ _) rfl
            | (refine PArg.rd rfl (Le1.of_eq ?_) rfl; congr 2 <;> (first | omega | (simp; omega) | (simp [NFL]; done))))))))); (next => rfl); (next => rfl); rintro _ _ ⟨rfl, rfl⟩; refine ⟨_, rfl, ?_⟩)
          | (apply ar_callM0 rfl (read_is (s ++ (num (8 * (2 + c) + 2) ++ num bytes.length ++ bytes)) [] 2 (readR_big (by simp only [List.length_append]; omega)) (by simp only [List.length_append]; omega)) rfl rfl; (next => (repeat (first
           | exact PArgs.nil
           | (apply PArgs.cons; (next => (first
            | exact PArg.own rfl rfl
            | exact PArg.rd rfl (Le1.refl _) rfl
            | exact PArg.rd rfl (Le1.rd _ _ _) rfl
            | exact PArg.nil rfl
            | exact PArg.rd rfl (Le1.nil _ _) rfl
            | (refine PArg.rd rfl (Le1.of_eq ?_) rfl; congr 2 <;> (first | omega | (simp; omega) | (simp [NFL]; done))))))))); (next => rfl); (next => rfl); rintro _ _ ⟨rfl, rfl⟩; refine ⟨_, rfl, ?_⟩)
          | fail)
         | fail)
        | refine ar_unwanted' rfl rfl rfl rfl ?_
        | refine ar_seq ?_
        | (refine arE ?_; refine ar_endM [0, 1, 2, 6, 7, 8, 9, 10, 11, 12, 13, 15, 50, 58] rfl ?_)
        | refine ar_region ?_
        | refine ar_block ?_
        | refine ar_skip ?_
        | refine ar_blk ?_
        | refine ar_dedup rfl ?_
        | (refine arC (.cond _ _ _) ?_; first
         | (refine ar_cond_true rfl ?_ ?_; (next => (first | rfl | (simp only [decide_eq_true_eq, beq_iff_eq, bne_iff_ne, ge_iff_le, gt_iff_lt, ne_eq, Bool.not_eq_true', decide_eq_false_iff_not]; omega))))
         | (refine ar_cond_false rfl ?_ ?_; (next => (first
          | rfl
          | (simp only [decide_eq_false_iff_not, beq_eq_false_iff_ne, bne_eq_false_iff_eq, ge_iff_le, gt_iff_lt, ne_eq, Bool.not_eq_false', decide_eq_true_eq]; omega))))
         | fail)
        | refine ar_exit ?_
        | refine stk_b_hit ?_
        | refine stk_b_miss rfl ?_
        | refine stk_c_exit ?_
        | refine stk_l_exit ?_
        | (refine arC .ret ?_; refine ar_retM [6] ?_)
        | refine stk_c_ret ?_
        | refine stk_b_ret ?_
        | refine stk_l_ret ?_
        | refine stk_nil ?_
        | fail)
      first | exact qret_mk rfl (⟨rfl, rfl⟩) | (trace_state; exact qret_mk rfl (⟨rfl, rfl⟩))
    · rw [readR_of (by simp only [List.length_append]; omega) (hp.trans rs) cs] at h2
      rw [readR_of (by simp only [List.length_append]; omega) (hp' _ rs) cs] at h3
      cases h2; cases h3
      refine acalls_enter _ 81 [.tmp 6] Try.func13 (by kernel_rfl) rfl rfl rfl rfl ?_
      dsimp only [slotsOf]
      repeat (first
        | ((first | apply ar_un | apply stk_un); (next => (first | (simp only [go_sem, Nat.reduceBEq, Nat.reduceEqDiff, reduceIte, reduceCtorEq, String.reduceEq, Nat.reduceAdd, Int.reduceToNat]; exact rfl) | exact rfl)))
        | (apply ar_op' rfl rfl rfl rfl; (next => (first
         | (refine evalE_ok (T := TT) rfl ?_; (first | exact trivial | omega | (simp [NFL] <;> omega)))
         | (apply opk ⟨_, .move _, _, _, _, _⟩; first | exact opv_const (cst_plain _) (.inl rfl) | fail)
         | (apply opk ⟨_, .binOp .add _ _ _ _, _, _, _, _⟩; first | exact opv_bin rfl rfl rfl | fail)
         | (apply opk ⟨_, .binOp .mul _ _ _ _, _, _, _, _⟩; first | exact opv_bin rfl rfl rfl | fail)
         | (apply opk ⟨_, .binOp .eql _ _ _ _, _, _, _, _⟩; first
          | (refine opv_cmp_t rfl rfl rfl ?_; (next => (first | exact rfl | (simp only [cmpP]; omega) | (simp only [cmpP]; simp [NFL] <;> omega))))
          | (refine opv_cmp_f rfl rfl rfl ?_; (next => (first | exact rfl | (simp only [cmpP]; omega) | (simp only [cmpP]; simp [NFL] <;> omega))))
          | exact opv_bin rfl rfl rfl
          | (refine opv_seq_t rfl rfl rfl ?_; (next => (first | rfl | assumption)))
          | (refine opv_seq_f rfl rfl rfl ?_; (next => (first | rfl | assumption)))
          | exact opv_str rfl rfl rfl
          | fail)
         | (apply opk ⟨_, .binOp .neq _ _ _ _, _, _, _, _⟩; first
          | (refine opv_cmp_t rfl rfl rfl ?_; (next => (first | exact rfl | (simp only [cmpP]; omega) | (simp only [cmpP]; simp [NFL] <;> omega))))
          | (refine opv_cmp_f rfl rfl rfl ?_; (next => (first | exact rfl | (simp only [cmpP]; omega) | (simp only [cmpP]; simp [NFL] <;> omega))))
          | exact opv_bin rfl rfl rfl
          | (refine opv_sne_t rfl rfl rfl ?_; (next => (first | rfl | assumption)))
          | (refine opv_sne_f rfl rfl rfl ?_; (next => (first | rfl | assumption)))
          | exact opv_str rfl rfl rfl
          | fail)
         | (apply opk ⟨_, .binOp .gtr _ _ _ _, _, _, _, _⟩; first
          | (refine opv_cmp_t rfl rfl rfl ?_; (next => (first | exact rfl | (simp only [cmpP]; omega) | (simp only [cmpP]; simp [NFL] <;> omega))))
          | (refine opv_cmp_f rfl rfl rfl ?_; (next => (first | exact rfl | (simp only [cmpP]; omega) | (simp only [cmpP]; simp [NFL] <;> omega))))
          | exact opv_bin rfl rfl rfl
          | exact opv_str rfl rfl rfl
          | fail)
         | (apply opk ⟨_, .unOp _ _ _, _, _, _, _⟩; first | exact opv_not_t rfl rfl | exact opv_not_f rfl rfl | exact opv_neg rfl rfl | fail)
         | (apply opk ⟨_, .convert _ _ _, _, _, _, _⟩; first
          | (refine opv_conv_byte (T := TT) rfl rfl rfl ?_; (next => (first | exact .inl rfl | exact .inr (.inl rfl) | exact .inr (.inr rfl))))
          | (refine opv_conv64 (T := TT) rfl rfl rfl ?_; (next => (first | omega | (simp [NFL] <;> omega))))
          | (refine opv_convu64 (T := TT) rfl rfl rfl ?_; (next => (first | omega | (simp [NFL] <;> omega))))
          | exact opv_conv8 (T := TT) rfl rfl rfl
          | exact opv_conv_int (T := TT) rfl rfl rfl
          | exact opv_conv_str (T := TT) rfl rfl rfl
          | exact opv_bytes_str (T := TT) rfl rfl rfl rfl
          | exact opv_str_bytes (T := TT) rfl rfl rfl rfl
          | fail)
         | (apply opk ⟨_, .call { callee := .builtin .len, args := _, argTypes := _ }, _, _, _, _⟩; first
          | exact opv_len_str (T := TT) rfl rfl rfl
          | exact opv_len_sl (T := TT) rfl rfl rfl
          | exact opv_len_nil (T := TT) rfl rfl rfl
          | fail)
         | (apply opk ⟨_, .pick _ _ _, _, _, _, _⟩; first
          | (refine opv_pickt rfl ?_ rfl; (next => (first | rfl | assumption)))
          | (refine opv_pickf rfl ?_ rfl; (next => (first | rfl | assumption)))
          | fail)
         | fail)))
        | (refine arO _ ?_; first
         | (refine arO ⟨_, .move _, _, _, _, _⟩ ?_; first | refine ar_move_sl rfl rfl rfl rfl ?_ | fail)
         | (refine arO ⟨_, .assign _, _, _, _, _⟩ ?_; first
          | refine ar_assign_sl rfl rfl rfl rfl ?_
          | refine ar_op rfl rfl rfl rfl (opv_const (cst_plain _) (.inr rfl)) ?_
          | fail)
         | (refine arO ⟨_, .call { callee := .value _, args := _, argTypes := _ }, _, _, _, _⟩ ?_; first
          | (apply ar_callM0 rfl (wireBegun_a) rfl rfl; (next => (repeat (first
           | exact PArgs.nil
           | (apply PArgs.cons; (next => (first
            | exact PArg.own rfl rfl
            | exact PArg.rd rfl (Le1.refl _) rfl
            | exact PArg.rd rfl (Le1.rd _ _ _) rfl
            | exact PArg.nil rfl
            | exact PArg.rd rfl (Le1.nil _ _) rfl
            | (refine PArg.rd rfl (Le1.of_eq ?_) rfl; congr 2 <;> (first | omega | (simp; omega) | (simp [NFL]; done))))))))); (next => rfl); (next => rfl); rintro _ _ ⟨rfl, rfl⟩; refine ⟨_, rfl, ?_⟩)
          | (apply ar_callM0 rfl (choose_a number 1000 hn (by decide) c hc) rfl rfl; (next => (repeat (first
           | exact PArgs.nil
           | (apply PArgs.cons; (next => (first
            | exact PArg.own rfl rfl
            | exact PArg.rd rfl (Le1.refl _) rfl
            | exact PArg.rd rfl (Le1.rd _ _ _) rfl
            | exact PArg.nil rfl
            | exact PArg.rd rfl (Le1.nil _ _) rfl
            | (refine PArg.rd rfl (Le1.of_eq ?_) rfl; congr 2 <;> (first | omega | (simp; omega) | (simp [NFL]; done))))))))); (next => rfl); (next => rfl); rintro _ _ ⟨rfl, rfl⟩; refine ⟨_, rfl, ?_⟩)
          | (apply ar_callM0 rfl (number_a (8 * (2 + c) + 2) (by omega)) rfl rfl; (next => (repeat (first
           | exact PArgs.nil
           | (apply PArgs.cons; (next => (first
            | exact PArg.own rfl rfl
            | exact PArg.rd rfl (Le1.refl _) rfl
            | exact PArg.rd rfl (Le1.rd _ _ _) rfl
            | exact PArg.nil rfl
            | exact PArg.rd rfl (Le1.nil _ _) rfl
            | (refine PArg.rd rfl (Le1.of_eq ?_) rfl; congr 2 <;> (first | omega | (simp; omega) | (simp [NFL]; done))))))))); (next => rfl); (next => rfl); rintro _ _ ⟨rfl, rfl⟩; refine ⟨_, rfl, ?_⟩)
          | (apply ar_callM0 rfl (number_a bytes.length (by omega)) rfl rfl; (next => (repeat (first
           | exact PArgs.nil
           | (apply PArgs.cons; (next => (first
            | exact PArg.own rfl rfl
            | exact PArg.rd rfl (Le1.refl _) rfl
            | exact PArg.rd rfl (Le1.rd _ _ _) rfl
            | exact PArg.nil rfl
            | exact PArg.rd rfl (Le1.nil _ _) rfl
            | (refine PArg.rd rfl (Le1.of_eq ?_) rfl; congr 2 <;> (first | omega | (simp; omega) | (simp [NFL]; done))))))))); (next => rfl); (next => rfl); rintro _ _ ⟨rfl, rfl⟩; refine ⟨_, rfl, ?_⟩)
          | (apply ar_callM0 rfl (read_is s L 0 h1 (by omega)) rfl rfl; (next => (repeat (first
           | exact PArgs.nil
           | (apply PArgs.cons; (next => (first
            | exact PArg.own rfl rfl
            | exact PArg.rd rfl (Le1.refl _) rfl
            | exact PArg.rd rfl (Le1.rd _ _ _) rfl
            | exact PArg.nil rfl
            | exact PArg.rd rfl (Le1.nil _ _) rfl
            | (refine PArg.rd rfl (Le1.of_eq ?_) rfl; congr 2 <;> (first | omega | (simp; omega) | (simp [NFL]; done))))))))); (next => rfl); (next => rfl); rintro _ _ ⟨rfl, rfl⟩; refine ⟨_, rfl, ?_⟩)
          | (apply ar_callM0 rfl (read_is ((num (8 * (2 + c) + 2) ++ num bytes.length ++ bytes) ++ s) L 0 (readR_of (by simp only [List.length_append]; omega) (hp.trans rs) cs) (by simp only [List.length_append]; omega)) rfl rfl; (next => (repeat (first
           | exact PArgs.nil
           | (apply PArgs.cons; (next => (first
            | exact PArg.own rfl rfl
            | exact PArg.rd rfl (Le1.refl _) rfl
            | exact PArg.rd rfl (Le1.rd _ _ _) rfl
            | exact PArg.nil rfl
            | exact PArg.rd rfl (Le1.nil _ _) rfl
            | (refine PArg.rd rfl (Le1.of_eq ?_) rfl; congr 2 <;> (first | omega | (simp; omega) | (simp [NFL]; done))))))))); (next => rfl); (next => rfl); rintro _ _ ⟨rfl, rfl⟩; refine ⟨_, rfl, ?_⟩)
          | (apply ar_callM0 rfl (read_is (s ++ (num (8 * (2 + c) + 2) ++ num bytes.length ++ bytes)) L 0 (readR_of (by simp only [List.length_append]; omega) (hp' _ rs) cs) (by simp only [List.length_append]; omega)) rfl rfl; (next => (repeat (first
           | exact PArgs.nil
           | (apply PArgs.cons; (next => (first
            | exact PArg.own rfl rfl
            | exact PArg.rd rfl (Le1.refl _) rfl
            | exact PArg.rd rfl (Le1.rd _ _ _) rfl
            | exact PArg.nil rfl
            | exact PArg.rd rfl (Le1.nil _ _) rfl
            | (refine PArg.rd rfl (Le1.of_eq ?_) rfl; congr 2 <;> (first | omega | (simp; omega) | (simp [NFL]; done))))))))); (next => rfl); (next => rfl); rintro _ _ ⟨rfl, rfl⟩; refine ⟨_, rfl, ?_⟩)
          | (apply ar_callM0 rfl (same_is L (L.map srsRow) rfl tL uL) rfl rfl; (next => (repeat (first
           | exact PArgs.nil
           | (apply PArgs.cons; (next => (first
            | exact PArg.own rfl rfl
            | exact PArg.rd rfl (Le1.refl _) rfl
            | exact PArg.rd rfl (Le1.rd _ _ _) rfl
            | exact PArg.nil rfl
            | exact PArg.rd rfl (Le1.nil _ _) rfl
            | (refine PArg.rd rfl (Le1.of_eq ?_) rfl; congr 2 <;> (first | omega | (simp; omega) | (simp [NFL]; done))))))))); (next => rfl); (next => rfl); rintro _ _ ⟨rfl, rfl⟩; refine ⟨_, rfl, ?_⟩)
          | fail)
         | fail)
        | refine ar_unwanted' rfl rfl rfl rfl ?_
        | refine ar_seq ?_
        | (refine arE ?_; refine ar_endM [0, 1, 2, 6, 7, 8, 9, 10, 11, 12, 13, 15, 50, 58] rfl ?_)
        | refine ar_region ?_
        | refine ar_block ?_
        | refine ar_skip ?_
        | refine ar_blk ?_
        | refine ar_dedup rfl ?_
        | (refine arC (.cond _ _ _) ?_; first
         | (refine ar_cond_true rfl ?_ ?_; (next => (first | rfl | (simp only [decide_eq_true_eq, beq_iff_eq, bne_iff_ne, ge_iff_le, gt_iff_lt, ne_eq, Bool.not_eq_true', decide_eq_false_iff_not]; omega))))
         | (refine ar_cond_false rfl ?_ ?_; (next => (first
          | rfl
          | (simp only [decide_eq_false_iff_not, beq_eq_false_iff_ne, bne_eq_false_iff_eq, ge_iff_le, gt_iff_lt, ne_eq, Bool.not_eq_false', decide_eq_true_eq]; omega))))
         | fail)
        | refine ar_exit ?_
        | refine stk_b_hit ?_
        | refine stk_b_miss rfl ?_
        | refine stk_c_exit ?_
        | refine stk_l_exit ?_
        | (refine arC .ret ?_; refine ar_retM [6] ?_)
        | refine stk_c_ret ?_
        | refine stk_b_ret ?_
        | refine stk_l_ret ?_
        | refine stk_nil ?_
        | fail)
      first | exact qret_mk rfl (⟨rfl, rfl⟩) | (trace_state; exact qret_mk rfl (⟨rfl, rfl⟩))
  · obtain ⟨rfl, he3⟩ := readR_bad h1 he
    have hf : ¬ f = 0 := by
      intro h0
      subst h0
      obtain ⟨l2, r2, c2, g2⟩ := readR_ok h2
      rw [hp] at r2
      have := readR_of (s := s) (by simp at l2; omega) r2 c2
      rw [this] at h1
      exact he (Prod.mk.inj h1).2.symm
    have hf3 : f ≤ 3 := (readR_bad h2 hf).2
    refine acalls_enter _ 81 [.tmp 6] Try.func13 (by kernel_rfl) rfl rfl rfl rfl ?_
    dsimp only [slotsOf]
    repeat (first
      | ((first | apply ar_un | apply stk_un); (next => (first | (simp only [go_sem, Nat.reduceBEq, Nat.reduceEqDiff, reduceIte, reduceCtorEq, String.reduceEq, Nat.reduceAdd, Int.reduceToNat]; exact rfl) | exact rfl)))
      | (apply ar_op' rfl rfl rfl rfl; (next => (first
       | (refine evalE_ok (T := TT) rfl ?_; (first | exact trivial | omega | (simp [NFL] <;> omega)))
       | (apply opk ⟨_, .move _, _, _, _, _⟩; first | exact opv_const (cst_plain _) (.inl rfl) | fail)
       | (apply opk ⟨_, .binOp .add _ _ _ _, _, _, _, _⟩; first | exact opv_bin rfl rfl rfl | fail)
       | (apply opk ⟨_, .binOp .mul _ _ _ _, _, _, _, _⟩; first | exact opv_bin rfl rfl rfl | fail)
       | (apply opk ⟨_, .binOp .eql _ _ _ _, _, _, _, _⟩; first
        | (refine opv_cmp_t rfl rfl rfl ?_; (next => (first | exact rfl | (simp only [cmpP]; omega) | (simp only [cmpP]; simp [NFL] <;> omega))))
        | (refine opv_cmp_f rfl rfl rfl ?_; (next => (first | exact rfl | (simp only [cmpP]; omega) | (simp only [cmpP]; simp [NFL] <;> omega))))
        | exact opv_bin rfl rfl rfl
        | (refine opv_seq_t rfl rfl rfl ?_; (next => (first | rfl | assumption)))
        | (refine opv_seq_f rfl rfl rfl ?_; (next => (first | rfl | assumption)))
        | exact opv_str rfl rfl rfl
        | fail)
       | (apply opk ⟨_, .binOp .neq _ _ _ _, _, _, _, _⟩; first
        | (refine opv_cmp_t rfl rfl rfl ?_; (next => (first | exact rfl | (simp only [cmpP]; omega) | (simp only [cmpP]; simp [NFL] <;> omega))))
        | (refine opv_cmp_f rfl rfl rfl ?_; (next => (first | exact rfl | (simp only [cmpP]; omega) | (simp only [cmpP]; simp [NFL] <;> omega))))
        | exact opv_bin rfl rfl rfl
        | (refine opv_sne_t rfl rfl rfl ?_; (next => (first | rfl | assumption)))
        | (refine opv_sne_f rfl rfl rfl ?_; (next => (first | rfl | assumption)))
        | exact opv_str rfl rfl rfl
        | fail)
       | (apply opk ⟨_, .binOp .gtr _ _ _ _, _, _, _, _⟩; first
        | (refine opv_cmp_t rfl rfl rfl ?_; (next => (first | exact rfl | (simp only [cmpP]; omega) | (simp only [cmpP]; simp [NFL] <;> omega))))
        | (refine opv_cmp_f rfl rfl rfl ?_; (next => (first | exact rfl | (simp only [cmpP]; omega) | (simp only [cmpP]; simp [NFL] <;> omega))))
        | exact opv_bin rfl rfl rfl
        | exact opv_str rfl rfl rfl
        | fail)
       | (apply opk ⟨_, .unOp _ _ _, _, _, _, _⟩; first | exact opv_not_t rfl rfl | exact opv_not_f rfl rfl | exact opv_neg rfl rfl | fail)
       | (apply opk ⟨_, .convert _ _ _, _, _, _, _⟩; first
        | (refine opv_conv_byte (T := TT) rfl rfl rfl ?_; (next => (first | exact .inl rfl | exact .inr (.inl rfl) | exact .inr (.inr rfl))))
        | (refine opv_conv64 (T := TT) rfl rfl rfl ?_; (next => (first | omega | (simp [NFL] <;> omega))))
        | (refine opv_convu64 (T := TT) rfl rfl rfl ?_; (next => (first | omega | (simp [NFL] <;> omega))))
        | exact opv_conv8 (T := TT) rfl rfl rfl
        | exact opv_conv_int (T := TT) rfl rfl rfl
        | exact opv_conv_str (T := TT) rfl rfl rfl
        | exact opv_bytes_str (T := TT) rfl rfl rfl rfl
        | exact opv_str_bytes (T := TT) rfl rfl rfl rfl
        | fail)
       | (apply opk ⟨_, .call { callee := .builtin .len, args := _, argTypes := _ }, _, _, _, _⟩; first
        | exact opv_len_str (T := TT) rfl rfl rfl
        | exact opv_len_sl (T := TT) rfl rfl rfl
        | exact opv_len_nil (T := TT) rfl rfl rfl
        | fail)
       | (apply opk ⟨_, .pick _ _ _, _, _, _, _⟩; first
        | (refine opv_pickt rfl ?_ rfl; (next => (first | rfl | assumption)))
        | (refine opv_pickf rfl ?_ rfl; (next => (first | rfl | assumption)))
        | fail)
       | fail)))
      | (refine arO _ ?_; first
       | (refine arO ⟨_, .move _, _, _, _, _⟩ ?_; first | refine ar_move_sl rfl rfl rfl rfl ?_ | fail)
       | (refine arO ⟨_, .assign _, _, _, _, _⟩ ?_; first
        | refine ar_assign_sl rfl rfl rfl rfl ?_
        | refine ar_op rfl rfl rfl rfl (opv_const (cst_plain _) (.inr rfl)) ?_
        | fail)
       | (refine arO ⟨_, .call { callee := .value _, args := _, argTypes := _ }, _, _, _, _⟩ ?_; first
        | (apply ar_callM0 rfl (wireBegun_a) rfl rfl; (next => (repeat (first
         | exact PArgs.nil
         | (apply PArgs.cons; (next => (first
          | exact PArg.own rfl rfl
          | exact PArg.rd rfl (Le1.refl _) rfl
          | exact PArg.rd rfl (Le1.rd _ _ _) rfl
          | exact PArg.nil rfl
          | exact PArg.rd rfl (Le1.nil _ _) rfl
          | (refine PArg.rd rfl (Le1.of_eq ?_) rfl; congr 2 <;> (first | omega | (simp; omega) | (simp [NFL]; done))))))))); (next => rfl); (next => rfl); rintro _ _ ⟨rfl, rfl⟩; refine ⟨_, rfl, ?_⟩)
        | (apply ar_callM0 rfl (choose_a number 1000 hn (by decide) c hc) rfl rfl; (next => (repeat (first
         | exact PArgs.nil
         | (apply PArgs.cons; (next => (first
          | exact PArg.own rfl rfl
          | exact PArg.rd rfl (Le1.refl _) rfl
          | exact PArg.rd rfl (Le1.rd _ _ _) rfl
          | exact PArg.nil rfl
          | exact PArg.rd rfl (Le1.nil _ _) rfl
          | (refine PArg.rd rfl (Le1.of_eq ?_) rfl; congr 2 <;> (first | omega | (simp; omega) | (simp [NFL]; done))))))))); (next => rfl); (next => rfl); rintro _ _ ⟨rfl, rfl⟩; refine ⟨_, rfl, ?_⟩)
        | (apply ar_callM0 rfl (number_a (8 * (2 + c) + 2) (by omega)) rfl rfl; (next => (repeat (first
         | exact PArgs.nil
         | (apply PArgs.cons; (next => (first
          | exact PArg.own rfl rfl
          | exact PArg.rd rfl (Le1.refl _) rfl
          | exact PArg.rd rfl (Le1.rd _ _ _) rfl
          | exact PArg.nil rfl
          | exact PArg.rd rfl (Le1.nil _ _) rfl
          | (refine PArg.rd rfl (Le1.of_eq ?_) rfl; congr 2 <;> (first | omega | (simp; omega) | (simp [NFL]; done))))))))); (next => rfl); (next => rfl); rintro _ _ ⟨rfl, rfl⟩; refine ⟨_, rfl, ?_⟩)
        | (apply ar_callM0 rfl (number_a bytes.length (by omega)) rfl rfl; (next => (repeat (first
         | exact PArgs.nil
         | (apply PArgs.cons; (next => (first
          | exact PArg.own rfl rfl
          | exact PArg.rd rfl (Le1.refl _) rfl
          | exact PArg.rd rfl (Le1.rd _ _ _) rfl
          | exact PArg.nil rfl
          | exact PArg.rd rfl (Le1.nil _ _) rfl
          | (refine PArg.rd rfl (Le1.of_eq ?_) rfl; congr 2 <;> (first | omega | (simp; omega) | (simp [NFL]; done))))))))); (next => rfl); (next => rfl); rintro _ _ ⟨rfl, rfl⟩; refine ⟨_, rfl, ?_⟩)
        | (apply ar_callM0 rfl (read_is s [] e h1 (by omega)) rfl rfl; (next => (repeat (first
         | exact PArgs.nil
         | (apply PArgs.cons; (next => (first
          | exact PArg.own rfl rfl
          | exact PArg.rd rfl (Le1.refl _) rfl
          | exact PArg.rd rfl (Le1.rd _ _ _) rfl
          | exact PArg.nil rfl
          | exact PArg.rd rfl (Le1.nil _ _) rfl
          | (refine PArg.rd rfl (Le1.of_eq ?_) rfl; congr 2 <;> (first | omega | (simp; omega) | (simp [NFL]; done))))))))); (next => rfl); (next => rfl); rintro _ _ ⟨rfl, rfl⟩; refine ⟨_, rfl, ?_⟩)
        | (apply ar_callM0 rfl (read_is ((num (8 * (2 + c) + 2) ++ num bytes.length ++ bytes) ++ s) X f h2 (by simp only [List.length_append]; omega)) rfl rfl; (next => (repeat (first
         | exact PArgs.nil
         | (apply PArgs.cons; (next => (first
          | exact PArg.own rfl rfl
          | exact PArg.rd rfl (Le1.refl _) rfl
          | exact PArg.rd rfl (Le1.rd _ _ _) rfl
          | exact PArg.nil rfl
          | exact PArg.rd rfl (Le1.nil _ _) rfl
          | (refine PArg.rd rfl (Le1.of_eq ?_) rfl; congr 2 <;> (first | omega | (simp; omega) | (simp [NFL]; done))))))))); (next => rfl); (next => rfl); rintro _ _ ⟨rfl, rfl⟩; refine ⟨_, rfl, ?_⟩)
        | (apply ar_callM0 rfl (read_is (s ++ (num (8 * (2 + c) + 2) ++ num bytes.length ++ bytes)) Y g h3 (by simp only [List.length_append]; omega)) rfl rfl; (next => (repeat (first
         | exact PArgs.nil
         | (apply PArgs.cons; (next => (first
          | exact PArg.own rfl rfl
          | exact PArg.rd rfl (Le1.refl _) rfl
          | exact PArg.rd rfl (Le1.rd _ _ _) rfl
          | exact PArg.nil rfl
          | exact PArg.rd rfl (Le1.nil _ _) rfl
          | (refine PArg.rd rfl (Le1.of_eq ?_) rfl; congr 2 <;> (first | omega | (simp; omega) | (simp [NFL]; done))))))))); (next => rfl); (next => rfl); rintro _ _ ⟨rfl, rfl⟩; refine ⟨_, rfl, ?_⟩)
        | fail)
       | fail)
      | refine ar_unwanted' rfl rfl rfl rfl ?_
      | refine ar_seq ?_
      | (refine arE ?_; refine ar_endM [0, 1, 2, 6, 7, 8, 9, 10, 11, 12, 13, 15, 50, 58] rfl ?_)
      | refine ar_region ?_
      | refine ar_block ?_
      | refine ar_skip ?_
      | refine ar_blk ?_
      | refine ar_dedup rfl ?_
      | (refine arC (.cond _ _ _) ?_; first
       | (refine ar_cond_true rfl ?_ ?_; (next => (first | rfl | (simp only [decide_eq_true_eq, beq_iff_eq, bne_iff_ne, ge_iff_le, gt_iff_lt, ne_eq, Bool.not_eq_true', decide_eq_false_iff_not]; omega))))
       | (refine ar_cond_false rfl ?_ ?_; (next => (first
        | rfl
        | (simp only [decide_eq_false_iff_not, beq_eq_false_iff_ne, bne_eq_false_iff_eq, ge_iff_le, gt_iff_lt, ne_eq, Bool.not_eq_false', decide_eq_true_eq]; omega))))
       | fail)
      | refine ar_exit ?_
      | refine stk_b_hit ?_
      | refine stk_b_miss rfl ?_
      | refine stk_c_exit ?_
      | refine stk_l_exit ?_
      | (refine arC .ret ?_; refine ar_retM [6] ?_)
      | refine stk_c_ret ?_
      | refine stk_b_ret ?_
      | refine stk_l_ret ?_
      | refine stk_nil ?_
      | fail)
    first | exact qret_mk rfl (⟨rfl, rfl⟩) | (trace_state; exact qret_mk rfl (⟨rfl, rfl⟩))
end Go.Proofs.Ytophpbihcfdkcaa
