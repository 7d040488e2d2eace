/- Pages of a log: how much a page has left, noughts, texts cut; the reference's sum: walked over abstract values. -/
import Derived.Test.YtgidmcfnnmheoaaLB
import Derived.Test.YtgidmcfnnmheoaaLS
namespace Go.Proofs.Ytgidmcfnnmheoaa
open Go.RowKit P
set_option linter.unusedSimpArgs false
set_option linter.unusedVariables false
attribute [local irreducible] AS.nf OpV ARun Stk QSem QSemA ACalls EffOp AppOk SrcOk Awp Aops
set_option maxHeartbeats 4000000

theorem opv_bytes_rows {P : Program} {T : Tys P} {σ : AS} {dd : Option Tmp} {t u ty e : TypeId} {x : Operand} {pos : String} {af : Array Edge} {g : Option (Nat × Bool)} {o : Bool} {R : List (List AV)} (L : List UInt8) (hx : opV σ x = some (.sl o 1 R)) (hR : R = byteA L) (ht : look T.ty t = some (.slice e)) (he : look T.ty e = some (.int .u8)) (hu : look T.ty u = some .string) :
    OpV P ⟨dd, .convert t u x, ty, pos, af, g⟩ σ (.v (.string (mkB L))) := by
  subst hR
  exact opv_bytes_str hx ht he hu
theorem byt_nat (n : Nat) : (byt n).toNat = n % 256 := by
  unfold byt
  rw [UInt8.toNat_ofNat']
theorem repeatL_zero (n : Nat) : Lib.repeatL [0] n = zerosB n := by
  unfold zerosB
  induction n with
  | zero => rfl
  | succ n ih => simp [Lib.repeatL] at ih ⊢; simp [ih, List.replicate_succ]
theorem repeat_a (n : Nat) (h : n ≤ 6) : ACalls Try.prog 31 [.v (.string (mkB [0])), .v (.int .i64 n)] [] (fun out H => out = .ret (.v (.string (mkB (zerosB n)))) ∧ H = []) :=
  acalls_of_calls (vs := [.string (mkB [0]), .int .i64 n]) ⟨_, Try.func31, by kernel_rfl, rfl⟩ fun w => (Try.strings_Repeat (mkB [0]) n w (by omega) (by show 1 * n ≤ _; omega)).mono fun e w' h => by
    obtain ⟨h1, h2⟩ := h
    have h3 : Lib.repeatL (mkB [0]).data.toList n = zerosB n := repeatL_zero n
    rw [h3] at h1
    exact ⟨h1, h2⟩
set_option maxRecDepth 100000 in
theorem left_a (n : Nat) : ACalls Try.prog 23 [.v (.int .i64 n)] [] (fun out H => out = .ret (.v (.int .i64 ((128 - n % 128 : Nat)))) ∧ H = []) := by
  refine acalls_enter _ 6 [.tmp 2] Try.func23 (by kernel_rfl) rfl rfl rfl rfl ?_
  dsimp only [slotsOf]
  repeat (first
    | ((first | apply ar_un | apply stk_un); (next => (first | (simp only [go_sem, Nat.reduceBEq, Nat.reduceEqDiff, reduceIte, reduceCtorEq, String.reduceEq, Nat.reduceAdd, Int.reduceToNat]; exact rfl) | exact rfl)))
    | (first
     | refine ar_unwantedN rfl rfl rfl rfl ?_
     | refine ar_unwantedU rfl rfl rfl rfl ?_
     | (apply ar_opN rfl rfl rfl rfl; (next => (first
      | exact opv_pickt_cb rfl rfl
      | exact opv_pickf_cb rfl rfl
      | exact opv_pickt rfl rfl rfl
      | exact opv_pickf rfl rfl rfl
      | exact opv_len_str (T := TT) rfl rfl rfl
      | exact opv_len_sl (T := TT) rfl rfl rfl
      | fail)))
     | fail)
    | (refine arC .ret ?_; refine ar_retM0 [2] ?_)
    | (apply ar_op' rfl rfl rfl rfl; (next => (first
     | (refine evalE_ok (T := TT) rfl ?_; (first | exact trivial | omega | (simp [NFL] <;> omega)))
     | (apply opk ⟨_, .move _, _, _, _, _⟩; first | exact opv_const (cst_plain _) (.inl rfl) | fail)
     | (apply opk ⟨_, .binOp .sub _ _ _ _, _, _, _, _⟩; first | exact opv_bin rfl rfl rfl | fail)
     | (apply opk ⟨_, .binOp .rem _ _ _ _, _, _, _, _⟩; first | (refine opv_rem rfl rfl rfl ?_; (next => (first | omega | (simp [NFL] <;> omega)))) | fail)
     | fail)))
    | (refine arO _ ?_; first
     | (refine arO ⟨_, .move _, _, _, _, _⟩ ?_; first | refine ar_move_sl rfl rfl rfl rfl ?_ | fail)
     | (refine arO ⟨_, .assign _, _, _, _, _⟩ ?_; first
      | refine ar_assign_sl rfl rfl rfl rfl ?_
      | refine ar_op rfl rfl rfl rfl (opv_const (cst_plain _) (.inr rfl)) ?_
      | fail)
     | fail)
    | refine ar_seq ?_
    | (refine arE ?_; refine ar_endM [0, 2] rfl ?_)
    | refine ar_region ?_
    | refine ar_block ?_
    | refine ar_skip ?_
    | refine ar_blk ?_
    | refine ar_dedup rfl ?_
    | (refine arC (.cond _ _ _) ?_; first
     | (refine ar_cond_true rfl ?_ ?_; (next => (first | rfl | (simp only [decide_eq_true_eq, beq_iff_eq, bne_iff_ne, ge_iff_le, gt_iff_lt, ne_eq, Bool.not_eq_true', decide_eq_false_iff_not]; omega))))
     | (refine ar_cond_false rfl ?_ ?_; (next => (first
      | rfl
      | (simp only [decide_eq_false_iff_not, beq_eq_false_iff_ne, bne_eq_false_iff_eq, ge_iff_le, gt_iff_lt, ne_eq, Bool.not_eq_false', decide_eq_true_eq]; omega))))
     | fail)
    | refine ar_exit ?_
    | refine stk_b_hit ?_
    | refine stk_b_miss rfl ?_
    | refine stk_c_exit ?_
    | refine stk_l_exit ?_
    | (refine arC .ret ?_; refine ar_retM [2] ?_)
    | refine stk_c_ret ?_
    | refine stk_b_ret ?_
    | refine stk_l_ret ?_
    | refine stk_nil ?_
    | fail)
  first | exact qret_mk rfl (⟨congrArg (fun q => AOut.ret (.v (.int .i64 q))) (by omega), rfl⟩) | (trace_state; exact qret_mk rfl (⟨congrArg (fun q => AOut.ret (.v (.int .i64 q))) (by omega), rfl⟩))
set_option maxRecDepth 100000 in
theorem cutTo_a (s : List UInt8) (n : Nat) (hs : s.length ≤ 140737488355328) (hn : n ≤ 140737488355328) : ACalls Try.prog 27 [.v (.string (mkB s)), .v (.int .i64 n)] [] (fun out H => out = .ret (.v (.string (mkB (s.take n)))) ∧ H = []) := by
  refine acalls_enter _ 13 [.tmp 4] Try.func27 (by kernel_rfl) rfl rfl rfl rfl ?_
  dsimp only [slotsOf]
  by_cases h : n < s.length
  · repeat (first
    | ((first | apply ar_un | apply stk_un); (next => (first | (simp only [go_sem, Nat.reduceBEq, Nat.reduceEqDiff, reduceIte, reduceCtorEq, String.reduceEq, Nat.reduceAdd, Int.reduceToNat]; exact rfl) | exact rfl)))
    | (first
     | refine ar_unwantedN rfl rfl rfl rfl ?_
     | refine ar_unwantedU rfl rfl rfl rfl ?_
     | (apply ar_opN rfl rfl rfl rfl; (next => (first
      | exact opv_pickt_cb rfl rfl
      | exact opv_pickf_cb rfl rfl
      | exact opv_pickt rfl rfl rfl
      | exact opv_pickf rfl rfl rfl
      | exact opv_len_str (T := TT) rfl rfl rfl
      | exact opv_len_sl (T := TT) rfl rfl rfl
      | fail)))
     | fail)
    | (refine arC .ret ?_; refine ar_retM0 [4] ?_)
    | (apply ar_op' rfl rfl rfl rfl; (next => (first
     | (refine evalE_ok (T := TT) rfl ?_; (first | exact trivial | omega | (simp [NFL] <;> omega)))
     | (apply opk ⟨_, .move _, _, _, _, _⟩; first | exact opv_const (cst_plain _) (.inl rfl) | fail)
     | (apply opk ⟨_, .binOp .gtr _ _ _ _, _, _, _, _⟩; first
      | (refine opv_cmp_t rfl rfl rfl ?_; (next => (first | exact rfl | (simp only [cmpP]; omega) | (simp only [cmpP]; simp [NFL] <;> omega))))
      | (refine opv_cmp_f rfl rfl rfl ?_; (next => (first | exact rfl | (simp only [cmpP]; omega) | (simp only [cmpP]; simp [NFL] <;> omega))))
      | exact opv_bin rfl rfl rfl
      | exact opv_str rfl rfl rfl
      | fail)
     | (apply opk ⟨_, .call { callee := .builtin .len, args := _, argTypes := _ }, _, _, _, _⟩; first
      | exact opv_len_str (T := TT) rfl rfl rfl
      | exact opv_len_sl (T := TT) rfl rfl rfl
      | exact opv_len_nil (T := TT) rfl rfl rfl
      | fail)
     | (apply opk ⟨_, .slice _ _ _ _ _, _, _, _, _⟩; first
      | (refine opv_slice_str (T := TT) (k1 := .i64) (k2 := .u64) rfl rfl rfl rfl ?_ ?_ ?_; (next => (first | omega | (simp [NFL] <;> omega))); (next => (first | omega | (simp [NFL] <;> omega))); (next => (first | omega | (simp [NFL] <;> omega))))
      | (refine opv_slice_str (T := TT) (k1 := .u64) (k2 := .i64) rfl rfl rfl rfl ?_ ?_ ?_; (next => (first | omega | (simp [NFL] <;> omega))); (next => (first | omega | (simp [NFL] <;> omega))); (next => (first | omega | (simp [NFL] <;> omega))))
      | (refine opv_slice_str (T := TT) (k1 := .u64) (k2 := .u64) rfl rfl rfl rfl ?_ ?_ ?_; (next => (first | omega | (simp [NFL] <;> omega))); (next => (first | omega | (simp [NFL] <;> omega))); (next => (first | omega | (simp [NFL] <;> omega))))
      | fail)
     | fail)))
    | (refine arO _ ?_; first
     | (refine arO ⟨_, .move _, _, _, _, _⟩ ?_; first | refine ar_move_sl rfl rfl rfl rfl ?_ | fail)
     | (refine arO ⟨_, .assign _, _, _, _, _⟩ ?_; first
      | refine ar_assign_sl rfl rfl rfl rfl ?_
      | refine ar_op rfl rfl rfl rfl (opv_const (cst_plain _) (.inr rfl)) ?_
      | fail)
     | fail)
    | refine ar_seq ?_
    | (refine arE ?_; refine ar_endM [0, 1, 4, 8] rfl ?_)
    | refine ar_region ?_
    | refine ar_block ?_
    | refine ar_skip ?_
    | refine ar_blk ?_
    | refine ar_dedup rfl ?_
    | (refine arC (.cond _ _ _) ?_; first
     | (refine ar_cond_true rfl ?_ ?_; (next => (first | rfl | (simp only [decide_eq_true_eq, beq_iff_eq, bne_iff_ne, ge_iff_le, gt_iff_lt, ne_eq, Bool.not_eq_true', decide_eq_false_iff_not]; omega))))
     | (refine ar_cond_false rfl ?_ ?_; (next => (first
      | rfl
      | (simp only [decide_eq_false_iff_not, beq_eq_false_iff_ne, bne_eq_false_iff_eq, ge_iff_le, gt_iff_lt, ne_eq, Bool.not_eq_false', decide_eq_true_eq]; omega))))
     | fail)
    | refine ar_exit ?_
    | refine stk_b_hit ?_
    | refine stk_b_miss rfl ?_
    | refine stk_c_exit ?_
    | refine stk_l_exit ?_
    | (refine arC .ret ?_; refine ar_retM [4] ?_)
    | refine stk_c_ret ?_
    | refine stk_b_ret ?_
    | refine stk_l_ret ?_
    | refine stk_nil ?_
    | fail)
    first | exact qret_mk rfl (⟨rfl, rfl⟩) | (trace_state; exact qret_mk rfl (⟨rfl, rfl⟩))
  · have ht : s.take n = s := List.take_of_length_le (by omega)
    repeat (first
      | ((first | apply ar_un | apply stk_un); (next => (first | (simp only [go_sem, Nat.reduceBEq, Nat.reduceEqDiff, reduceIte, reduceCtorEq, String.reduceEq, Nat.reduceAdd, Int.reduceToNat]; exact rfl) | exact rfl)))
      | (first
       | refine ar_unwantedN rfl rfl rfl rfl ?_
       | refine ar_unwantedU rfl rfl rfl rfl ?_
       | (apply ar_opN rfl rfl rfl rfl; (next => (first
        | exact opv_pickt_cb rfl rfl
        | exact opv_pickf_cb rfl rfl
        | exact opv_pickt rfl rfl rfl
        | exact opv_pickf rfl rfl rfl
        | exact opv_len_str (T := TT) rfl rfl rfl
        | exact opv_len_sl (T := TT) rfl rfl rfl
        | fail)))
       | fail)
      | (refine arC .ret ?_; refine ar_retM0 [4] ?_)
      | (apply ar_op' rfl rfl rfl rfl; (next => (first
       | (refine evalE_ok (T := TT) rfl ?_; (first | exact trivial | omega | (simp [NFL] <;> omega)))
       | (apply opk ⟨_, .move _, _, _, _, _⟩; first | exact opv_const (cst_plain _) (.inl rfl) | fail)
       | (apply opk ⟨_, .binOp .gtr _ _ _ _, _, _, _, _⟩; first
        | (refine opv_cmp_t rfl rfl rfl ?_; (next => (first | exact rfl | (simp only [cmpP]; omega) | (simp only [cmpP]; simp [NFL] <;> omega))))
        | (refine opv_cmp_f rfl rfl rfl ?_; (next => (first | exact rfl | (simp only [cmpP]; omega) | (simp only [cmpP]; simp [NFL] <;> omega))))
        | exact opv_bin rfl rfl rfl
        | exact opv_str rfl rfl rfl
        | fail)
       | (apply opk ⟨_, .call { callee := .builtin .len, args := _, argTypes := _ }, _, _, _, _⟩; first
        | exact opv_len_str (T := TT) rfl rfl rfl
        | exact opv_len_sl (T := TT) rfl rfl rfl
        | exact opv_len_nil (T := TT) rfl rfl rfl
        | fail)
       | (apply opk ⟨_, .slice _ _ _ _ _, _, _, _, _⟩; first
        | (refine opv_slice_str (T := TT) (k1 := .i64) (k2 := .u64) rfl rfl rfl rfl ?_ ?_ ?_; (next => (first | omega | (simp [NFL] <;> omega))); (next => (first | omega | (simp [NFL] <;> omega))); (next => (first | omega | (simp [NFL] <;> omega))))
        | (refine opv_slice_str (T := TT) (k1 := .u64) (k2 := .i64) rfl rfl rfl rfl ?_ ?_ ?_; (next => (first | omega | (simp [NFL] <;> omega))); (next => (first | omega | (simp [NFL] <;> omega))); (next => (first | omega | (simp [NFL] <;> omega))))
        | (refine opv_slice_str (T := TT) (k1 := .u64) (k2 := .u64) rfl rfl rfl rfl ?_ ?_ ?_; (next => (first | omega | (simp [NFL] <;> omega))); (next => (first | omega | (simp [NFL] <;> omega))); (next => (first | omega | (simp [NFL] <;> omega))))
        | fail)
       | fail)))
      | (refine arO _ ?_; first
       | (refine arO ⟨_, .move _, _, _, _, _⟩ ?_; first | refine ar_move_sl rfl rfl rfl rfl ?_ | fail)
       | (refine arO ⟨_, .assign _, _, _, _, _⟩ ?_; first
        | refine ar_assign_sl rfl rfl rfl rfl ?_
        | refine ar_op rfl rfl rfl rfl (opv_const (cst_plain _) (.inr rfl)) ?_
        | fail)
       | fail)
      | refine ar_seq ?_
      | (refine arE ?_; refine ar_endM [0, 1, 4, 8] rfl ?_)
      | refine ar_region ?_
      | refine ar_block ?_
      | refine ar_skip ?_
      | refine ar_blk ?_
      | refine ar_dedup rfl ?_
      | (refine arC (.cond _ _ _) ?_; first
       | (refine ar_cond_true rfl ?_ ?_; (next => (first | rfl | (simp only [decide_eq_true_eq, beq_iff_eq, bne_iff_ne, ge_iff_le, gt_iff_lt, ne_eq, Bool.not_eq_true', decide_eq_false_iff_not]; omega))))
       | (refine ar_cond_false rfl ?_ ?_; (next => (first
        | rfl
        | (simp only [decide_eq_false_iff_not, beq_eq_false_iff_ne, bne_eq_false_iff_eq, ge_iff_le, gt_iff_lt, ne_eq, Bool.not_eq_false', decide_eq_true_eq]; omega))))
       | fail)
      | refine ar_exit ?_
      | refine stk_b_hit ?_
      | refine stk_b_miss rfl ?_
      | refine stk_c_exit ?_
      | refine stk_l_exit ?_
      | (refine arC .ret ?_; refine ar_retM [4] ?_)
      | refine stk_c_ret ?_
      | refine stk_b_ret ?_
      | refine stk_l_ret ?_
      | refine stk_nil ?_
      | fail)
    first | exact qret_mk rfl (⟨by rw [ht], rfl⟩) | (trace_state; exact qret_mk rfl (⟨by rw [ht], rfl⟩))
set_option maxRecDepth 100000 in
theorem padding_a (n : Nat) (hn : n ≤ 140737488355328) : ACalls Try.prog 21 [.v (.int .i64 n)] [] (fun out H => out = .ret (.v (.string (mkB (zerosB (padN n))))) ∧ H = []) := by
  refine acalls_enter _ 10 [.tmp 2] Try.func21 (by kernel_rfl) rfl rfl rfl rfl ?_
  dsimp only [slotsOf]
  by_cases h : 121 < n % 128
  · have hp : padN n = 128 - n % 128 := by unfold padN; rw [if_pos h]
    rw [hp]
    repeat (first
      | ((first | apply ar_un | apply stk_un); (next => (first | (simp only [go_sem, Nat.reduceBEq, Nat.reduceEqDiff, reduceIte, reduceCtorEq, String.reduceEq, Nat.reduceAdd, Int.reduceToNat]; exact rfl) | exact rfl)))
      | (first
       | refine ar_unwantedN rfl rfl rfl rfl ?_
       | refine ar_unwantedU rfl rfl rfl rfl ?_
       | (apply ar_opN rfl rfl rfl rfl; (next => (first
        | exact opv_pickt_cb rfl rfl
        | exact opv_pickf_cb rfl rfl
        | exact opv_pickt rfl rfl rfl
        | exact opv_pickf rfl rfl rfl
        | exact opv_len_str (T := TT) rfl rfl rfl
        | exact opv_len_sl (T := TT) rfl rfl rfl
        | fail)))
       | fail)
      | (refine arC .ret ?_; refine ar_retM0 [2] ?_)
      | (apply ar_op' rfl rfl rfl rfl; (next => (first
       | (refine evalE_ok (T := TT) rfl ?_; (first | exact trivial | omega | (simp [NFL] <;> omega)))
       | (apply opk ⟨_, .move _, _, _, _, _⟩; first | exact opv_const (cst_plain _) (.inl rfl) | fail)
       | (apply opk ⟨_, .binOp .lss _ _ _ _, _, _, _, _⟩; first
        | (refine opv_cmp_t rfl rfl rfl ?_; (next => (first | exact rfl | (simp only [cmpP]; omega) | (simp only [cmpP]; simp [NFL] <;> omega))))
        | (refine opv_cmp_f rfl rfl rfl ?_; (next => (first | exact rfl | (simp only [cmpP]; omega) | (simp only [cmpP]; simp [NFL] <;> omega))))
        | exact opv_bin rfl rfl rfl
        | exact opv_str rfl rfl rfl
        | fail)
       | fail)))
      | (refine arO _ ?_; first
       | (refine arO ⟨_, .move _, _, _, _, _⟩ ?_; first | refine ar_move_sl rfl rfl rfl rfl ?_ | fail)
       | (refine arO ⟨_, .assign _, _, _, _, _⟩ ?_; first
        | refine ar_assign_sl rfl rfl rfl rfl ?_
        | refine ar_op rfl rfl rfl rfl (opv_const (cst_plain _) (.inr rfl)) ?_
        | fail)
       | (refine arO ⟨_, .call { callee := .value _, args := _, argTypes := _ }, _, _, _, _⟩ ?_; first
        | (apply ar_callM0 rfl (left_a n) rfl rfl; (next => (repeat (first
         | exact PArgs.nil
         | (apply PArgs.cons; (next => (first
          | exact PArg.own rfl rfl
          | exact PArg.rd rfl (Le1.refl _) rfl
          | exact PArg.rd rfl (Le1.rd _ _ _) rfl
          | exact PArg.nil rfl
          | exact PArg.rd rfl (Le1.nil _ _) rfl
          | (refine PArg.rd rfl (Le1.of_eq ?_) rfl; congr 2 <;> (first | omega | (simp; omega) | (simp [NFL]; done))))))))); (next => rfl); (next => rfl); rintro _ _ ⟨rfl, rfl⟩; refine ⟨_, rfl, ?_⟩)
        | (apply ar_callM0 rfl (repeat_a (128 - n % 128) (by omega)) rfl rfl; (next => (repeat (first
         | exact PArgs.nil
         | (apply PArgs.cons; (next => (first
          | exact PArg.own rfl rfl
          | exact PArg.rd rfl (Le1.refl _) rfl
          | exact PArg.rd rfl (Le1.rd _ _ _) rfl
          | exact PArg.nil rfl
          | exact PArg.rd rfl (Le1.nil _ _) rfl
          | (refine PArg.rd rfl (Le1.of_eq ?_) rfl; congr 2 <;> (first | omega | (simp; omega) | (simp [NFL]; done))))))))); (next => rfl); (next => rfl); rintro _ _ ⟨rfl, rfl⟩; refine ⟨_, rfl, ?_⟩)
        | fail)
       | fail)
      | refine ar_seq ?_
      | (refine arE ?_; refine ar_endM [0, 2, 3, 7] rfl ?_)
      | refine ar_region ?_
      | refine ar_block ?_
      | refine ar_skip ?_
      | refine ar_blk ?_
      | refine ar_dedup rfl ?_
      | (refine arC (.cond _ _ _) ?_; first
       | (refine ar_cond_true rfl ?_ ?_; (next => (first | rfl | (simp only [decide_eq_true_eq, beq_iff_eq, bne_iff_ne, ge_iff_le, gt_iff_lt, ne_eq, Bool.not_eq_true', decide_eq_false_iff_not]; omega))))
       | (refine ar_cond_false rfl ?_ ?_; (next => (first
        | rfl
        | (simp only [decide_eq_false_iff_not, beq_eq_false_iff_ne, bne_eq_false_iff_eq, ge_iff_le, gt_iff_lt, ne_eq, Bool.not_eq_false', decide_eq_true_eq]; omega))))
       | fail)
      | refine ar_exit ?_
      | refine stk_b_hit ?_
      | refine stk_b_miss rfl ?_
      | refine stk_c_exit ?_
      | refine stk_l_exit ?_
      | (refine arC .ret ?_; refine ar_retM [2] ?_)
      | refine stk_c_ret ?_
      | refine stk_b_ret ?_
      | refine stk_l_ret ?_
      | refine stk_nil ?_
      | fail)
    first | exact qret_mk rfl (⟨rfl, rfl⟩) | (trace_state; exact qret_mk rfl (⟨rfl, rfl⟩))
  · have hp : padN n = 0 := by unfold padN; rw [if_neg h]
    rw [hp]
    repeat (first
      | ((first | apply ar_un | apply stk_un); (next => (first | (simp only [go_sem, Nat.reduceBEq, Nat.reduceEqDiff, reduceIte, reduceCtorEq, String.reduceEq, Nat.reduceAdd, Int.reduceToNat]; exact rfl) | exact rfl)))
      | (first
       | refine ar_unwantedN rfl rfl rfl rfl ?_
       | refine ar_unwantedU rfl rfl rfl rfl ?_
       | (apply ar_opN rfl rfl rfl rfl; (next => (first
        | exact opv_pickt_cb rfl rfl
        | exact opv_pickf_cb rfl rfl
        | exact opv_pickt rfl rfl rfl
        | exact opv_pickf rfl rfl rfl
        | exact opv_len_str (T := TT) rfl rfl rfl
        | exact opv_len_sl (T := TT) rfl rfl rfl
        | fail)))
       | fail)
      | (refine arC .ret ?_; refine ar_retM0 [2] ?_)
      | (apply ar_op' rfl rfl rfl rfl; (next => (first
       | (refine evalE_ok (T := TT) rfl ?_; (first | exact trivial | omega | (simp [NFL] <;> omega)))
       | (apply opk ⟨_, .move _, _, _, _, _⟩; first | exact opv_const (cst_plain _) (.inl rfl) | fail)
       | (apply opk ⟨_, .binOp .lss _ _ _ _, _, _, _, _⟩; first
        | (refine opv_cmp_t rfl rfl rfl ?_; (next => (first | exact rfl | (simp only [cmpP]; omega) | (simp only [cmpP]; simp [NFL] <;> omega))))
        | (refine opv_cmp_f rfl rfl rfl ?_; (next => (first | exact rfl | (simp only [cmpP]; omega) | (simp only [cmpP]; simp [NFL] <;> omega))))
        | exact opv_bin rfl rfl rfl
        | exact opv_str rfl rfl rfl
        | fail)
       | fail)))
      | (refine arO _ ?_; first
       | (refine arO ⟨_, .move _, _, _, _, _⟩ ?_; first | refine ar_move_sl rfl rfl rfl rfl ?_ | fail)
       | (refine arO ⟨_, .assign _, _, _, _, _⟩ ?_; first
        | refine ar_assign_sl rfl rfl rfl rfl ?_
        | refine ar_op rfl rfl rfl rfl (opv_const (cst_plain _) (.inr rfl)) ?_
        | fail)
       | (refine arO ⟨_, .call { callee := .value _, args := _, argTypes := _ }, _, _, _, _⟩ ?_; first
        | (apply ar_callM0 rfl (left_a n) rfl rfl; (next => (repeat (first
         | exact PArgs.nil
         | (apply PArgs.cons; (next => (first
          | exact PArg.own rfl rfl
          | exact PArg.rd rfl (Le1.refl _) rfl
          | exact PArg.rd rfl (Le1.rd _ _ _) rfl
          | exact PArg.nil rfl
          | exact PArg.rd rfl (Le1.nil _ _) rfl
          | (refine PArg.rd rfl (Le1.of_eq ?_) rfl; congr 2 <;> (first | omega | (simp; omega) | (simp [NFL]; done))))))))); (next => rfl); (next => rfl); rintro _ _ ⟨rfl, rfl⟩; refine ⟨_, rfl, ?_⟩)
        | fail)
       | fail)
      | refine ar_seq ?_
      | (refine arE ?_; refine ar_endM [0, 2, 3, 7] rfl ?_)
      | refine ar_region ?_
      | refine ar_block ?_
      | refine ar_skip ?_
      | refine ar_blk ?_
      | refine ar_dedup rfl ?_
      | (refine arC (.cond _ _ _) ?_; first
       | (refine ar_cond_true rfl ?_ ?_; (next => (first | rfl | (simp only [decide_eq_true_eq, beq_iff_eq, bne_iff_ne, ge_iff_le, gt_iff_lt, ne_eq, Bool.not_eq_true', decide_eq_false_iff_not]; omega))))
       | (refine ar_cond_false rfl ?_ ?_; (next => (first
        | rfl
        | (simp only [decide_eq_false_iff_not, beq_eq_false_iff_ne, bne_eq_false_iff_eq, ge_iff_le, gt_iff_lt, ne_eq, Bool.not_eq_false', decide_eq_true_eq]; omega))))
       | fail)
      | refine ar_exit ?_
      | refine stk_b_hit ?_
      | refine stk_b_miss rfl ?_
      | refine stk_c_exit ?_
      | refine stk_l_exit ?_
      | (refine arC .ret ?_; refine ar_retM [2] ?_)
      | refine stk_c_ret ?_
      | refine stk_b_ret ?_
      | refine stk_l_ret ?_
      | refine stk_nil ?_
      | fail)
    first | exact qret_mk rfl (⟨rfl, rfl⟩) | (trace_state; exact qret_mk rfl (⟨rfl, rfl⟩))
set_option maxRecDepth 100000 in
theorem noughts_a (n : Nat) (hn : n ≤ 140737488355328) : ACalls Try.prog 26 [.v (.int .i64 n)] [] (fun out H => out = .ret (.v (.string (mkB (zerosB (padN n))))) ∧ H = []) := by
  refine acalls_enter _ 15 [.tmp 2] Try.func26 (by kernel_rfl) rfl rfl rfl rfl ?_
  dsimp only [slotsOf]
  repeat (first
    | ((first | apply ar_un | apply stk_un); (next => (first | (simp only [go_sem, Nat.reduceBEq, Nat.reduceEqDiff, reduceIte, reduceCtorEq, String.reduceEq, Nat.reduceAdd, Int.reduceToNat]; exact rfl) | exact rfl)))
    | (first
     | refine ar_unwantedN rfl rfl rfl rfl ?_
     | refine ar_unwantedU rfl rfl rfl rfl ?_
     | (apply ar_opN rfl rfl rfl rfl; (next => (first
      | exact opv_pickt_cb rfl rfl
      | exact opv_pickf_cb rfl rfl
      | exact opv_pickt rfl rfl rfl
      | exact opv_pickf rfl rfl rfl
      | exact opv_len_str (T := TT) rfl rfl rfl
      | exact opv_len_sl (T := TT) rfl rfl rfl
      | fail)))
     | fail)
    | (refine arC .ret ?_; refine ar_retM0 [2] ?_)
    | (apply ar_op' rfl rfl rfl rfl; (next => (first
     | (refine evalE_ok (T := TT) rfl ?_; (first | exact trivial | omega | (simp [NFL] <;> omega)))
     | (apply opk ⟨_, .move _, _, _, _, _⟩; first | exact opv_const (cst_plain _) (.inl rfl) | fail)
     | (apply opk ⟨_, .binOp .add _ _ _ _, _, _, _, _⟩; first | exact opv_bin rfl rfl rfl | fail)
     | (apply opk ⟨_, .binOp .rem _ _ _ _, _, _, _, _⟩; first | (refine opv_rem rfl rfl rfl ?_; (next => (first | omega | (simp [NFL] <;> omega)))) | fail)
     | (apply opk ⟨_, .binOp .gtr _ _ _ _, _, _, _, _⟩; first
      | (refine opv_cmp_t rfl rfl rfl ?_; (next => (first | exact rfl | (simp only [cmpP]; omega) | (simp only [cmpP]; simp [NFL] <;> omega))))
      | (refine opv_cmp_f rfl rfl rfl ?_; (next => (first | exact rfl | (simp only [cmpP]; omega) | (simp only [cmpP]; simp [NFL] <;> omega))))
      | exact opv_bin rfl rfl rfl
      | exact opv_str rfl rfl rfl
      | fail)
     | (apply opk ⟨_, .convert _ _ _, _, _, _, _⟩; first
      | (refine opv_conv_byte (T := TT) rfl rfl rfl ?_; (next => (first | exact .inl rfl | exact .inr (.inl rfl) | exact .inr (.inr rfl))))
      | (refine opv_conv64 (T := TT) rfl rfl rfl ?_; (next => (first | omega | (simp [NFL] <;> omega))))
      | (refine opv_convu64 (T := TT) rfl rfl rfl ?_; (next => (first | omega | (simp [NFL] <;> omega))))
      | exact opv_conv8 (T := TT) rfl rfl rfl
      | exact opv_conv_int (T := TT) rfl rfl rfl
      | exact opv_conv_str (T := TT) rfl rfl rfl
      | exact opv_bytes_str (T := TT) rfl rfl rfl rfl
      | exact opv_str_bytes (T := TT) rfl rfl rfl rfl
      | fail)
     | (apply opk ⟨_, .call { callee := .builtin .len, args := _, argTypes := _ }, _, _, _, _⟩; first
      | exact opv_len_str (T := TT) rfl rfl rfl
      | exact opv_len_sl (T := TT) rfl rfl rfl
      | exact opv_len_nil (T := TT) rfl rfl rfl
      | fail)
     | (apply opk ⟨_, .buildSlice _ _ _, _, _, _, _⟩; first | exact opv_build_slice (T := TT) rfl rfl rfl rfl rfl rfl rfl | fail)
     | fail)))
    | (refine arO _ ?_; first
     | (refine arO ⟨_, .move _, _, _, _, _⟩ ?_; first | refine ar_move_sl rfl rfl rfl rfl ?_ | fail)
     | (refine arO ⟨_, .assign _, _, _, _, _⟩ ?_; first
      | refine ar_assign_sl rfl rfl rfl rfl ?_
      | refine ar_op rfl rfl rfl rfl (opv_const (cst_plain _) (.inr rfl)) ?_
      | fail)
     | fail)
    | refine ar_seq ?_
    | (refine arE ?_; refine ar_endM [0, 2, 3, 9] rfl ?_)
    | refine ar_region ?_
    | refine ar_block ?_
    | refine ar_skip ?_
    | refine ar_blk ?_
    | refine ar_dedup rfl ?_
    | (refine arC (.cond _ _ _) ?_; first
     | (refine ar_cond_true rfl ?_ ?_; (next => (first | rfl | (simp only [decide_eq_true_eq, beq_iff_eq, bne_iff_ne, ge_iff_le, gt_iff_lt, ne_eq, Bool.not_eq_true', decide_eq_false_iff_not]; omega))))
     | (refine ar_cond_false rfl ?_ ?_; (next => (first
      | rfl
      | (simp only [decide_eq_false_iff_not, beq_eq_false_iff_ne, bne_eq_false_iff_eq, ge_iff_le, gt_iff_lt, ne_eq, Bool.not_eq_false', decide_eq_true_eq]; omega))))
     | fail)
    | refine ar_exit ?_
    | refine stk_b_hit ?_
    | refine stk_b_miss rfl ?_
    | refine stk_c_exit ?_
    | refine stk_l_exit ?_
    | (refine arC .ret ?_; refine ar_retM [2] ?_)
    | refine stk_c_ret ?_
    | refine stk_b_ret ?_
    | refine stk_l_ret ?_
    | refine stk_nil ?_
    | fail)
  refine ar_loop (fun k : Nat => ⟨15, [(0, .v (.int .i64 n)), (3, .v (.string (mkB (zerosB k))))], [], []⟩) (fun k => k ≤ padN n) (fun k => padN n - k) 0 ⟨rfl, ?_, ?_, rfl⟩ (Nat.zero_le _) ?_
  · (repeat' (first
    | exact trivial
    | exact LeL.refl _
    | exact .refl _
    | refine ⟨⟨_, rfl, ?_⟩, ?_⟩
    | refine ⟨⟨_, look_hd, ?_⟩, ?_⟩
    | refine ⟨⟨_, look_tl (by first | assumption | (intro e; exact absurd e.symm (by assumption))) look_hd, ?_⟩, ?_⟩
    | refine ⟨⟨_, look_tl (by first | assumption | (intro e; exact absurd e.symm (by assumption))) (look_tl (by first | assumption | (intro e; exact absurd e.symm (by assumption))) look_hd), ?_⟩, ?_⟩
    | refine ⟨⟨_, look_tl (by first | assumption | (intro e; exact absurd e.symm (by assumption))) (look_tl (by first | assumption | (intro e; exact absurd e.symm (by assumption))) (look_tl (by first | assumption | (intro e; exact absurd e.symm (by assumption))) look_hd)), ?_⟩, ?_⟩
    | refine ⟨⟨_, look_tl (by first | assumption | (intro e; exact absurd e.symm (by assumption))) (look_tl (by first | assumption | (intro e; exact absurd e.symm (by assumption))) (look_tl (by first | assumption | (intro e; exact absurd e.symm (by assumption))) (look_tl (by first | assumption | (intro e; exact absurd e.symm (by assumption))) look_hd))), ?_⟩, ?_⟩
    | exact .nil _ _
    | exact .rd _ _ _
    | refine LeL.cons ?_ ?_
    | exact LeL.nil
    | refine Le1.of_eq ?_))
    all_goals rfl
  · (repeat' (first
    | exact trivial
    | exact LeL.refl _
    | exact .refl _
    | refine ⟨⟨_, rfl, ?_⟩, ?_⟩
    | refine ⟨⟨_, look_hd, ?_⟩, ?_⟩
    | refine ⟨⟨_, look_tl (by first | assumption | (intro e; exact absurd e.symm (by assumption))) look_hd, ?_⟩, ?_⟩
    | refine ⟨⟨_, look_tl (by first | assumption | (intro e; exact absurd e.symm (by assumption))) (look_tl (by first | assumption | (intro e; exact absurd e.symm (by assumption))) look_hd), ?_⟩, ?_⟩
    | refine ⟨⟨_, look_tl (by first | assumption | (intro e; exact absurd e.symm (by assumption))) (look_tl (by first | assumption | (intro e; exact absurd e.symm (by assumption))) (look_tl (by first | assumption | (intro e; exact absurd e.symm (by assumption))) look_hd)), ?_⟩, ?_⟩
    | refine ⟨⟨_, look_tl (by first | assumption | (intro e; exact absurd e.symm (by assumption))) (look_tl (by first | assumption | (intro e; exact absurd e.symm (by assumption))) (look_tl (by first | assumption | (intro e; exact absurd e.symm (by assumption))) (look_tl (by first | assumption | (intro e; exact absurd e.symm (by assumption))) look_hd))), ?_⟩, ?_⟩
    | exact .nil _ _
    | exact .rd _ _ _
    | refine LeL.cons ?_ ?_
    | exact LeL.nil
    | refine Le1.of_eq ?_))
  intro k hk
  have hlen : (zerosB k).length = k := zerosB_length k
  have hpm := padN_mod n
  by_cases h : 121 < n % 128
  · have hp : padN n = 128 - n % 128 := by unfold padN; rw [if_pos h]
    by_cases hk2 : k = padN n
    · repeat (first
      | ((first | apply ar_un | apply stk_un); (next => (first | (simp only [go_sem, Nat.reduceBEq, Nat.reduceEqDiff, reduceIte, reduceCtorEq, String.reduceEq, Nat.reduceAdd, Int.reduceToNat]; exact rfl) | exact rfl)))
      | (first
       | refine ar_unwantedN rfl rfl rfl rfl ?_
       | refine ar_unwantedU rfl rfl rfl rfl ?_
       | (apply ar_opN rfl rfl rfl rfl; (next => (first
        | exact opv_pickt_cb rfl rfl
        | exact opv_pickf_cb rfl rfl
        | exact opv_pickt rfl rfl rfl
        | exact opv_pickf rfl rfl rfl
        | exact opv_len_str (T := TT) rfl rfl rfl
        | exact opv_len_sl (T := TT) rfl rfl rfl
        | fail)))
       | fail)
      | (refine arC .ret ?_; refine ar_retM0 [2] ?_)
      | (apply ar_op' rfl rfl rfl rfl; (next => (first
       | (refine evalE_ok (T := TT) rfl ?_; (first | exact trivial | omega | (simp [NFL] <;> omega)))
       | (apply opk ⟨_, .move _, _, _, _, _⟩; first | exact opv_const (cst_plain _) (.inl rfl) | fail)
       | (apply opk ⟨_, .binOp .add _ _ _ _, _, _, _, _⟩; first | exact opv_bin rfl rfl rfl | fail)
       | (apply opk ⟨_, .binOp .rem _ _ _ _, _, _, _, _⟩; first | (refine opv_rem rfl rfl rfl ?_; (next => (first | omega | (simp [NFL] <;> omega)))) | fail)
       | (apply opk ⟨_, .binOp .gtr _ _ _ _, _, _, _, _⟩; first
        | (refine opv_cmp_t rfl rfl rfl ?_; (next => (first | exact rfl | (simp only [cmpP]; omega) | (simp only [cmpP]; simp [NFL] <;> omega))))
        | (refine opv_cmp_f rfl rfl rfl ?_; (next => (first | exact rfl | (simp only [cmpP]; omega) | (simp only [cmpP]; simp [NFL] <;> omega))))
        | exact opv_bin rfl rfl rfl
        | exact opv_str rfl rfl rfl
        | fail)
       | (apply opk ⟨_, .convert _ _ _, _, _, _, _⟩; first
        | (refine opv_conv_byte (T := TT) rfl rfl rfl ?_; (next => (first | exact .inl rfl | exact .inr (.inl rfl) | exact .inr (.inr rfl))))
        | (refine opv_conv64 (T := TT) rfl rfl rfl ?_; (next => (first | omega | (simp [NFL] <;> omega))))
        | (refine opv_convu64 (T := TT) rfl rfl rfl ?_; (next => (first | omega | (simp [NFL] <;> omega))))
        | exact opv_conv8 (T := TT) rfl rfl rfl
        | exact opv_conv_int (T := TT) rfl rfl rfl
        | exact opv_conv_str (T := TT) rfl rfl rfl
        | exact opv_bytes_str (T := TT) rfl rfl rfl rfl
        | exact opv_str_bytes (T := TT) rfl rfl rfl rfl
        | fail)
       | (apply opk ⟨_, .call { callee := .builtin .len, args := _, argTypes := _ }, _, _, _, _⟩; first
        | exact opv_len_str (T := TT) rfl rfl rfl
        | exact opv_len_sl (T := TT) rfl rfl rfl
        | exact opv_len_nil (T := TT) rfl rfl rfl
        | fail)
       | (apply opk ⟨_, .buildSlice _ _ _, _, _, _, _⟩; first | exact opv_build_slice (T := TT) rfl rfl rfl rfl rfl rfl rfl | fail)
       | fail)))
      | (refine arO _ ?_; first
       | (refine arO ⟨_, .move _, _, _, _, _⟩ ?_; first | refine ar_move_sl rfl rfl rfl rfl ?_ | fail)
       | (refine arO ⟨_, .assign _, _, _, _, _⟩ ?_; first
        | refine ar_assign_sl rfl rfl rfl rfl ?_
        | refine ar_op rfl rfl rfl rfl (opv_const (cst_plain _) (.inr rfl)) ?_
        | fail)
       | fail)
      | refine ar_seq ?_
      | (refine arE ?_; refine ar_endM [0, 2, 3, 9] rfl ?_)
      | refine ar_region ?_
      | refine ar_block ?_
      | refine ar_skip ?_
      | refine ar_blk ?_
      | refine ar_dedup rfl ?_
      | (refine arC (.cond _ _ _) ?_; first
       | (refine ar_cond_true rfl ?_ ?_; (next => (first | rfl | (simp only [decide_eq_true_eq, beq_iff_eq, bne_iff_ne, ge_iff_le, gt_iff_lt, ne_eq, Bool.not_eq_true', decide_eq_false_iff_not]; omega))))
       | (refine ar_cond_false rfl ?_ ?_; (next => (first
        | rfl
        | (simp only [decide_eq_false_iff_not, beq_eq_false_iff_ne, bne_eq_false_iff_eq, ge_iff_le, gt_iff_lt, ne_eq, Bool.not_eq_false', decide_eq_true_eq]; omega))))
       | fail)
      | refine ar_exit ?_
      | refine stk_b_hit ?_
      | refine stk_b_miss rfl ?_
      | refine stk_c_exit ?_
      | refine stk_l_exit ?_
      | (refine arC .ret ?_; refine ar_retM [2] ?_)
      | refine stk_c_ret ?_
      | refine stk_b_ret ?_
      | refine stk_l_ret ?_
      | refine stk_nil ?_
      | fail)
      first | exact qret_mk rfl (⟨by rw [hk2], rfl⟩) | (trace_state; exact qret_mk rfl (⟨by rw [hk2], rfl⟩))
    · have hsn : zerosB (k + 1) = zerosB k ++ [0] := by unfold zerosB; rw [List.replicate_succ']
      repeat (first
        | ((first | apply ar_un | apply stk_un); (next => (first | (simp only [go_sem, Nat.reduceBEq, Nat.reduceEqDiff, reduceIte, reduceCtorEq, String.reduceEq, Nat.reduceAdd, Int.reduceToNat]; exact rfl) | exact rfl)))
        | (first
         | refine ar_unwantedN rfl rfl rfl rfl ?_
         | refine ar_unwantedU rfl rfl rfl rfl ?_
         | (apply ar_opN rfl rfl rfl rfl; (next => (first
          | exact opv_pickt_cb rfl rfl
          | exact opv_pickf_cb rfl rfl
          | exact opv_pickt rfl rfl rfl
          | exact opv_pickf rfl rfl rfl
          | exact opv_len_str (T := TT) rfl rfl rfl
          | exact opv_len_sl (T := TT) rfl rfl rfl
          | fail)))
         | fail)
        | (refine arC .ret ?_; refine ar_retM0 [2] ?_)
        | (apply ar_op' rfl rfl rfl rfl; (next => exact opv_bytes_rows (T := TT) [0] rfl rfl rfl rfl rfl))
        | (apply ar_op' rfl rfl rfl rfl; (next => (first
         | (refine evalE_ok (T := TT) rfl ?_; (first | exact trivial | omega | (simp [NFL] <;> omega)))
         | (apply opk ⟨_, .move _, _, _, _, _⟩; first | exact opv_const (cst_plain _) (.inl rfl) | fail)
         | (apply opk ⟨_, .binOp .add _ _ _ _, _, _, _, _⟩; first | exact opv_bin rfl rfl rfl | fail)
         | (apply opk ⟨_, .binOp .rem _ _ _ _, _, _, _, _⟩; first | (refine opv_rem rfl rfl rfl ?_; (next => (first | omega | (simp [NFL] <;> omega)))) | fail)
         | (apply opk ⟨_, .binOp .gtr _ _ _ _, _, _, _, _⟩; first
          | (refine opv_cmp_t rfl rfl rfl ?_; (next => (first | exact rfl | (simp only [cmpP]; omega) | (simp only [cmpP]; simp [NFL] <;> omega))))
          | (refine opv_cmp_f rfl rfl rfl ?_; (next => (first | exact rfl | (simp only [cmpP]; omega) | (simp only [cmpP]; simp [NFL] <;> omega))))
          | exact opv_bin rfl rfl rfl
          | exact opv_str rfl rfl rfl
          | fail)
         | (apply opk ⟨_, .convert _ _ _, _, _, _, _⟩; first
          | (refine opv_conv_byte (T := TT) rfl rfl rfl ?_; (next => (first | exact .inl rfl | exact .inr (.inl rfl) | exact .inr (.inr rfl))))
          | (refine opv_conv64 (T := TT) rfl rfl rfl ?_; (next => (first | omega | (simp [NFL] <;> omega))))
          | (refine opv_convu64 (T := TT) rfl rfl rfl ?_; (next => (first | omega | (simp [NFL] <;> omega))))
          | exact opv_conv8 (T := TT) rfl rfl rfl
          | exact opv_conv_int (T := TT) rfl rfl rfl
          | exact opv_conv_str (T := TT) rfl rfl rfl
          | exact opv_bytes_str (T := TT) rfl rfl rfl rfl
          | exact opv_str_bytes (T := TT) rfl rfl rfl rfl
          | fail)
         | (apply opk ⟨_, .call { callee := .builtin .len, args := _, argTypes := _ }, _, _, _, _⟩; first
          | exact opv_len_str (T := TT) rfl rfl rfl
          | exact opv_len_sl (T := TT) rfl rfl rfl
          | exact opv_len_nil (T := TT) rfl rfl rfl
          | fail)
         | (apply opk ⟨_, .buildSlice _ _ _, _, _, _, _⟩; first | exact opv_build_slice (T := TT) rfl rfl rfl rfl rfl rfl rfl | fail)
         | fail)))
        | (refine arO _ ?_; first
         | (refine arO ⟨_, .move _, _, _, _, _⟩ ?_; first | refine ar_move_sl rfl rfl rfl rfl ?_ | fail)
         | (refine arO ⟨_, .assign _, _, _, _, _⟩ ?_; first
          | refine ar_assign_sl rfl rfl rfl rfl ?_
          | refine ar_op rfl rfl rfl rfl (opv_const (cst_plain _) (.inr rfl)) ?_
          | fail)
         | fail)
        | refine ar_seq ?_
        | (refine arE ?_; refine ar_endM [0, 2, 3, 9] rfl ?_)
        | refine ar_region ?_
        | refine ar_block ?_
        | refine ar_skip ?_
        | refine ar_blk ?_
        | refine ar_dedup rfl ?_
        | (refine arC (.cond _ _ _) ?_; first
         | (refine ar_cond_true rfl ?_ ?_; (next => (first | rfl | (simp only [decide_eq_true_eq, beq_iff_eq, bne_iff_ne, ge_iff_le, gt_iff_lt, ne_eq, Bool.not_eq_true', decide_eq_false_iff_not]; omega))))
         | (refine ar_cond_false rfl ?_ ?_; (next => (first
          | rfl
          | (simp only [decide_eq_false_iff_not, beq_eq_false_iff_ne, bne_eq_false_iff_eq, ge_iff_le, gt_iff_lt, ne_eq, Bool.not_eq_false', decide_eq_true_eq]; omega))))
         | fail)
        | refine ar_exit ?_
        | refine stk_b_hit ?_
        | refine stk_b_miss rfl ?_
        | refine stk_c_exit ?_
        | refine stk_l_exit ?_
        | (refine arC .ret ?_; refine ar_retM [2] ?_)
        | refine stk_c_ret ?_
        | refine stk_b_ret ?_
        | refine stk_l_ret ?_
        | refine stk_nil ?_
        | fail)
      refine ar_back ⟨k + 1, ⟨rfl, ?_, ?_, rfl⟩, by omega, by omega⟩
      · (repeat' (first
        | exact trivial
        | exact LeL.refl _
        | exact .refl _
        | refine ⟨⟨_, rfl, ?_⟩, ?_⟩
        | refine ⟨⟨_, look_hd, ?_⟩, ?_⟩
        | refine ⟨⟨_, look_tl (by first | assumption | (intro e; exact absurd e.symm (by assumption))) look_hd, ?_⟩, ?_⟩
        | refine ⟨⟨_, look_tl (by first | assumption | (intro e; exact absurd e.symm (by assumption))) (look_tl (by first | assumption | (intro e; exact absurd e.symm (by assumption))) look_hd), ?_⟩, ?_⟩
        | refine ⟨⟨_, look_tl (by first | assumption | (intro e; exact absurd e.symm (by assumption))) (look_tl (by first | assumption | (intro e; exact absurd e.symm (by assumption))) (look_tl (by first | assumption | (intro e; exact absurd e.symm (by assumption))) look_hd)), ?_⟩, ?_⟩
        | refine ⟨⟨_, look_tl (by first | assumption | (intro e; exact absurd e.symm (by assumption))) (look_tl (by first | assumption | (intro e; exact absurd e.symm (by assumption))) (look_tl (by first | assumption | (intro e; exact absurd e.symm (by assumption))) (look_tl (by first | assumption | (intro e; exact absurd e.symm (by assumption))) look_hd))), ?_⟩, ?_⟩
        | exact .nil _ _
        | exact .rd _ _ _
        | refine LeL.cons ?_ ?_
        | exact LeL.nil
        | refine Le1.of_eq ?_))
        all_goals (rw [hsn])
      · (repeat' (first
        | exact trivial
        | exact LeL.refl _
        | exact .refl _
        | refine ⟨⟨_, rfl, ?_⟩, ?_⟩
        | refine ⟨⟨_, look_hd, ?_⟩, ?_⟩
        | refine ⟨⟨_, look_tl (by first | assumption | (intro e; exact absurd e.symm (by assumption))) look_hd, ?_⟩, ?_⟩
        | refine ⟨⟨_, look_tl (by first | assumption | (intro e; exact absurd e.symm (by assumption))) (look_tl (by first | assumption | (intro e; exact absurd e.symm (by assumption))) look_hd), ?_⟩, ?_⟩
        | refine ⟨⟨_, look_tl (by first | assumption | (intro e; exact absurd e.symm (by assumption))) (look_tl (by first | assumption | (intro e; exact absurd e.symm (by assumption))) (look_tl (by first | assumption | (intro e; exact absurd e.symm (by assumption))) look_hd)), ?_⟩, ?_⟩
        | refine ⟨⟨_, look_tl (by first | assumption | (intro e; exact absurd e.symm (by assumption))) (look_tl (by first | assumption | (intro e; exact absurd e.symm (by assumption))) (look_tl (by first | assumption | (intro e; exact absurd e.symm (by assumption))) (look_tl (by first | assumption | (intro e; exact absurd e.symm (by assumption))) look_hd))), ?_⟩, ?_⟩
        | exact .nil _ _
        | exact .rd _ _ _
        | refine LeL.cons ?_ ?_
        | exact LeL.nil
        | refine Le1.of_eq ?_))
  · have hp : padN n = 0 := by unfold padN; rw [if_neg h]
    have hk0 : k = 0 := by omega
    subst hk0
    repeat (first
      | ((first | apply ar_un | apply stk_un); (next => (first | (simp only [go_sem, Nat.reduceBEq, Nat.reduceEqDiff, reduceIte, reduceCtorEq, String.reduceEq, Nat.reduceAdd, Int.reduceToNat]; exact rfl) | exact rfl)))
      | (first
       | refine ar_unwantedN rfl rfl rfl rfl ?_
       | refine ar_unwantedU rfl rfl rfl rfl ?_
       | (apply ar_opN rfl rfl rfl rfl; (next => (first
        | exact opv_pickt_cb rfl rfl
        | exact opv_pickf_cb rfl rfl
        | exact opv_pickt rfl rfl rfl
        | exact opv_pickf rfl rfl rfl
        | exact opv_len_str (T := TT) rfl rfl rfl
        | exact opv_len_sl (T := TT) rfl rfl rfl
        | fail)))
       | fail)
      | (refine arC .ret ?_; refine ar_retM0 [2] ?_)
      | (apply ar_op' rfl rfl rfl rfl; (next => (first
       | (refine evalE_ok (T := TT) rfl ?_; (first | exact trivial | omega | (simp [NFL] <;> omega)))
       | (apply opk ⟨_, .move _, _, _, _, _⟩; first | exact opv_const (cst_plain _) (.inl rfl) | fail)
       | (apply opk ⟨_, .binOp .add _ _ _ _, _, _, _, _⟩; first | exact opv_bin rfl rfl rfl | fail)
       | (apply opk ⟨_, .binOp .rem _ _ _ _, _, _, _, _⟩; first | (refine opv_rem rfl rfl rfl ?_; (next => (first | omega | (simp [NFL] <;> omega)))) | fail)
       | (apply opk ⟨_, .binOp .gtr _ _ _ _, _, _, _, _⟩; first
        | (refine opv_cmp_t rfl rfl rfl ?_; (next => (first | exact rfl | (simp only [cmpP]; omega) | (simp only [cmpP]; simp [NFL] <;> omega))))
        | (refine opv_cmp_f rfl rfl rfl ?_; (next => (first | exact rfl | (simp only [cmpP]; omega) | (simp only [cmpP]; simp [NFL] <;> omega))))
        | exact opv_bin rfl rfl rfl
        | exact opv_str rfl rfl rfl
        | fail)
       | (apply opk ⟨_, .convert _ _ _, _, _, _, _⟩; first
        | (refine opv_conv_byte (T := TT) rfl rfl rfl ?_; (next => (first | exact .inl rfl | exact .inr (.inl rfl) | exact .inr (.inr rfl))))
        | (refine opv_conv64 (T := TT) rfl rfl rfl ?_; (next => (first | omega | (simp [NFL] <;> omega))))
        | (refine opv_convu64 (T := TT) rfl rfl rfl ?_; (next => (first | omega | (simp [NFL] <;> omega))))
        | exact opv_conv8 (T := TT) rfl rfl rfl
        | exact opv_conv_int (T := TT) rfl rfl rfl
        | exact opv_conv_str (T := TT) rfl rfl rfl
        | exact opv_bytes_str (T := TT) rfl rfl rfl rfl
        | exact opv_str_bytes (T := TT) rfl rfl rfl rfl
        | fail)
       | (apply opk ⟨_, .call { callee := .builtin .len, args := _, argTypes := _ }, _, _, _, _⟩; first
        | exact opv_len_str (T := TT) rfl rfl rfl
        | exact opv_len_sl (T := TT) rfl rfl rfl
        | exact opv_len_nil (T := TT) rfl rfl rfl
        | fail)
       | (apply opk ⟨_, .buildSlice _ _ _, _, _, _, _⟩; first | exact opv_build_slice (T := TT) rfl rfl rfl rfl rfl rfl rfl | fail)
       | fail)))
      | (refine arO _ ?_; first
       | (refine arO ⟨_, .move _, _, _, _, _⟩ ?_; first | refine ar_move_sl rfl rfl rfl rfl ?_ | fail)
       | (refine arO ⟨_, .assign _, _, _, _, _⟩ ?_; first
        | refine ar_assign_sl rfl rfl rfl rfl ?_
        | refine ar_op rfl rfl rfl rfl (opv_const (cst_plain _) (.inr rfl)) ?_
        | fail)
       | fail)
      | refine ar_seq ?_
      | (refine arE ?_; refine ar_endM [0, 2, 3, 9] rfl ?_)
      | refine ar_region ?_
      | refine ar_block ?_
      | refine ar_skip ?_
      | refine ar_blk ?_
      | refine ar_dedup rfl ?_
      | (refine arC (.cond _ _ _) ?_; first
       | (refine ar_cond_true rfl ?_ ?_; (next => (first | rfl | (simp only [decide_eq_true_eq, beq_iff_eq, bne_iff_ne, ge_iff_le, gt_iff_lt, ne_eq, Bool.not_eq_true', decide_eq_false_iff_not]; omega))))
       | (refine ar_cond_false rfl ?_ ?_; (next => (first
        | rfl
        | (simp only [decide_eq_false_iff_not, beq_eq_false_iff_ne, bne_eq_false_iff_eq, ge_iff_le, gt_iff_lt, ne_eq, Bool.not_eq_false', decide_eq_true_eq]; omega))))
       | fail)
      | refine ar_exit ?_
      | refine stk_b_hit ?_
      | refine stk_b_miss rfl ?_
      | refine stk_c_exit ?_
      | refine stk_l_exit ?_
      | (refine arC .ret ?_; refine ar_retM [2] ?_)
      | refine stk_c_ret ?_
      | refine stk_b_ret ?_
      | refine stk_l_ret ?_
      | refine stk_nil ?_
      | fail)
    first | exact qret_mk rfl (⟨by rw [hp], rfl⟩) | (trace_state; exact qret_mk rfl (⟨by rw [hp], rfl⟩))
set_option maxRecDepth 100000 in
theorem checkOf_a (s : List UInt8) (hs : s.length ≤ 140737488355328) : ACalls Try.prog 10 [.v (.string (mkB s))] [] (fun out H => out = .ret (.v (.int .i64 (crcB s : Nat))) ∧ H = []) := by
  refine acalls_enter _ 38 [.tmp 2] Try.func10 (by kernel_rfl) rfl rfl rfl rfl ?_
  dsimp only [slotsOf]
  repeat (first
    | ((first | apply ar_un | apply stk_un); (next => (first | (simp only [go_sem, Nat.reduceBEq, Nat.reduceEqDiff, reduceIte, reduceCtorEq, String.reduceEq, Nat.reduceAdd, Int.reduceToNat]; exact rfl) | exact rfl)))
    | (first
     | refine ar_unwantedN rfl rfl rfl rfl ?_
     | refine ar_unwantedU rfl rfl rfl rfl ?_
     | (apply ar_opN rfl rfl rfl rfl; (next => (first
      | exact opv_pickt_cb rfl rfl
      | exact opv_pickf_cb rfl rfl
      | exact opv_pickt rfl rfl rfl
      | exact opv_pickf rfl rfl rfl
      | exact opv_len_str (T := TT) rfl rfl rfl
      | exact opv_len_sl (T := TT) rfl rfl rfl
      | fail)))
     | fail)
    | (refine arC .ret ?_; refine ar_retM0 [2] ?_)
    | (apply ar_op' rfl rfl rfl rfl; (next => (first
     | (refine evalE_ok (T := TT) rfl ?_; (first | exact trivial | omega | (simp [NFL] <;> omega)))
     | (apply opk ⟨_, .move _, _, _, _, _⟩; first | exact opv_const (cst_plain _) (.inl rfl) | fail)
     | (apply opk ⟨_, .binOp .add _ _ _ _, _, _, _, _⟩; first | exact opv_bin rfl rfl rfl | fail)
     | (apply opk ⟨_, .binOp .mul _ _ _ _, _, _, _, _⟩; first | exact opv_bin rfl rfl rfl | fail)
     | (apply opk ⟨_, .binOp .quo _ _ _ _, _, _, _, _⟩; first | (refine opv_quo rfl rfl rfl ?_; (next => (first | omega | (simp [NFL] <;> omega)))) | fail)
     | (apply opk ⟨_, .binOp .rem _ _ _ _, _, _, _, _⟩; first | (refine opv_rem rfl rfl rfl ?_; (next => (first | omega | (simp [NFL] <;> omega)))) | fail)
     | (apply opk ⟨_, .binOp .eql _ _ _ _, _, _, _, _⟩; first
      | (refine opv_cmp_t rfl rfl rfl ?_; (next => (first | exact rfl | (simp only [cmpP]; omega) | (simp only [cmpP]; simp [NFL] <;> omega))))
      | (refine opv_cmp_f rfl rfl rfl ?_; (next => (first | exact rfl | (simp only [cmpP]; omega) | (simp only [cmpP]; simp [NFL] <;> omega))))
      | exact opv_bin rfl rfl rfl
      | (refine opv_seq_t rfl rfl rfl ?_; (next => (first | rfl | assumption)))
      | (refine opv_seq_f rfl rfl rfl ?_; (next => (first | rfl | assumption)))
      | exact opv_str rfl rfl rfl
      | fail)
     | (apply opk ⟨_, .binOp .lss _ _ _ _, _, _, _, _⟩; first
      | (refine opv_cmp_t rfl rfl rfl ?_; (next => (first | exact rfl | (simp only [cmpP]; omega) | (simp only [cmpP]; simp [NFL] <;> omega))))
      | (refine opv_cmp_f rfl rfl rfl ?_; (next => (first | exact rfl | (simp only [cmpP]; omega) | (simp only [cmpP]; simp [NFL] <;> omega))))
      | exact opv_bin rfl rfl rfl
      | exact opv_str rfl rfl rfl
      | fail)
     | (apply opk ⟨_, .convert _ _ _, _, _, _, _⟩; first
      | (refine opv_conv_byte (T := TT) rfl rfl rfl ?_; (next => (first | exact .inl rfl | exact .inr (.inl rfl) | exact .inr (.inr rfl))))
      | (refine opv_conv64 (T := TT) rfl rfl rfl ?_; (next => (first | omega | (simp [NFL] <;> omega))))
      | (refine opv_convu64 (T := TT) rfl rfl rfl ?_; (next => (first | omega | (simp [NFL] <;> omega))))
      | exact opv_conv8 (T := TT) rfl rfl rfl
      | exact opv_conv_int (T := TT) rfl rfl rfl
      | exact opv_conv_str (T := TT) rfl rfl rfl
      | exact opv_bytes_str (T := TT) rfl rfl rfl rfl
      | exact opv_str_bytes (T := TT) rfl rfl rfl rfl
      | fail)
     | (apply opk ⟨_, .call { callee := .builtin .len, args := _, argTypes := _ }, _, _, _, _⟩; first
      | exact opv_len_str (T := TT) rfl rfl rfl
      | exact opv_len_sl (T := TT) rfl rfl rfl
      | exact opv_len_nil (T := TT) rfl rfl rfl
      | fail)
     | fail)))
    | (refine arO _ ?_; first
     | (refine arO ⟨_, .move _, _, _, _, _⟩ ?_; first | refine ar_move_sl rfl rfl rfl rfl ?_ | fail)
     | (refine arO ⟨_, .assign _, _, _, _, _⟩ ?_; first
      | refine ar_assign_sl rfl rfl rfl rfl ?_
      | refine ar_op rfl rfl rfl rfl (opv_const (cst_plain _) (.inr rfl)) ?_
      | fail)
     | fail)
    | refine ar_seq ?_
    | (refine arE ?_; refine ar_endM [0, 2, 3, 4, 5, 6, 10, 25, 33] rfl ?_)
    | refine ar_region ?_
    | refine ar_block ?_
    | refine ar_skip ?_
    | refine ar_blk ?_
    | refine ar_dedup rfl ?_
    | (refine arC (.cond _ _ _) ?_; first
     | (refine ar_cond_true rfl ?_ ?_; (next => (first | rfl | (simp only [decide_eq_true_eq, beq_iff_eq, bne_iff_ne, ge_iff_le, gt_iff_lt, ne_eq, Bool.not_eq_true', decide_eq_false_iff_not]; omega))))
     | (refine ar_cond_false rfl ?_ ?_; (next => (first
      | rfl
      | (simp only [decide_eq_false_iff_not, beq_eq_false_iff_ne, bne_eq_false_iff_eq, ge_iff_le, gt_iff_lt, ne_eq, Bool.not_eq_false', decide_eq_true_eq]; omega))))
     | fail)
    | refine ar_exit ?_
    | refine stk_b_hit ?_
    | refine stk_b_miss rfl ?_
    | refine stk_c_exit ?_
    | refine stk_l_exit ?_
    | (refine arC .ret ?_; refine ar_retM [2] ?_)
    | refine stk_c_ret ?_
    | refine stk_b_ret ?_
    | refine stk_l_ret ?_
    | refine stk_nil ?_
    | fail)
  refine ar_loop (fun i : Nat => ⟨38, [(0, .v (.string (mkB s))), (3, .v (.int .i64 (crcR 4294967295 (s.take i) : Nat))), (4, .v (.int .i64 i))], [], []⟩) (fun i => i ≤ s.length) (fun i => s.length - i) 0 ⟨rfl, ?_, ?_, rfl⟩ (Nat.zero_le _) ?_
  · (repeat' (first
    | exact trivial
    | exact LeL.refl _
    | exact .refl _
    | refine ⟨⟨_, rfl, ?_⟩, ?_⟩
    | refine ⟨⟨_, look_hd, ?_⟩, ?_⟩
    | refine ⟨⟨_, look_tl (by first | assumption | (intro e; exact absurd e.symm (by assumption))) look_hd, ?_⟩, ?_⟩
    | refine ⟨⟨_, look_tl (by first | assumption | (intro e; exact absurd e.symm (by assumption))) (look_tl (by first | assumption | (intro e; exact absurd e.symm (by assumption))) look_hd), ?_⟩, ?_⟩
    | refine ⟨⟨_, look_tl (by first | assumption | (intro e; exact absurd e.symm (by assumption))) (look_tl (by first | assumption | (intro e; exact absurd e.symm (by assumption))) (look_tl (by first | assumption | (intro e; exact absurd e.symm (by assumption))) look_hd)), ?_⟩, ?_⟩
    | refine ⟨⟨_, look_tl (by first | assumption | (intro e; exact absurd e.symm (by assumption))) (look_tl (by first | assumption | (intro e; exact absurd e.symm (by assumption))) (look_tl (by first | assumption | (intro e; exact absurd e.symm (by assumption))) (look_tl (by first | assumption | (intro e; exact absurd e.symm (by assumption))) look_hd))), ?_⟩, ?_⟩
    | exact .nil _ _
    | exact .rd _ _ _
    | refine LeL.cons ?_ ?_
    | exact LeL.nil
    | refine Le1.of_eq ?_))
    all_goals rfl
  · (repeat' (first
    | exact trivial
    | exact LeL.refl _
    | exact .refl _
    | refine ⟨⟨_, rfl, ?_⟩, ?_⟩
    | refine ⟨⟨_, look_hd, ?_⟩, ?_⟩
    | refine ⟨⟨_, look_tl (by first | assumption | (intro e; exact absurd e.symm (by assumption))) look_hd, ?_⟩, ?_⟩
    | refine ⟨⟨_, look_tl (by first | assumption | (intro e; exact absurd e.symm (by assumption))) (look_tl (by first | assumption | (intro e; exact absurd e.symm (by assumption))) look_hd), ?_⟩, ?_⟩
    | refine ⟨⟨_, look_tl (by first | assumption | (intro e; exact absurd e.symm (by assumption))) (look_tl (by first | assumption | (intro e; exact absurd e.symm (by assumption))) (look_tl (by first | assumption | (intro e; exact absurd e.symm (by assumption))) look_hd)), ?_⟩, ?_⟩
    | refine ⟨⟨_, look_tl (by first | assumption | (intro e; exact absurd e.symm (by assumption))) (look_tl (by first | assumption | (intro e; exact absurd e.symm (by assumption))) (look_tl (by first | assumption | (intro e; exact absurd e.symm (by assumption))) (look_tl (by first | assumption | (intro e; exact absurd e.symm (by assumption))) look_hd))), ?_⟩, ?_⟩
    | exact .nil _ _
    | exact .rd _ _ _
    | refine LeL.cons ?_ ?_
    | exact LeL.nil
    | refine Le1.of_eq ?_))
  intro i hi
  have hcr : crcR 4294967295 (s.take i) < 4294967296 := crcR_lt (by omega) _
  by_cases hend : i = s.length
  · have hall : crcB s = crcR 4294967295 (s.take i) ^^^ 4294967295 := by rw [hend, List.take_length]; rfl
    repeat (first
      | ((first | apply ar_un | apply stk_un); (next => (first | (simp only [go_sem, Nat.reduceBEq, Nat.reduceEqDiff, reduceIte, reduceCtorEq, String.reduceEq, Nat.reduceAdd, Int.reduceToNat]; exact rfl) | exact rfl)))
      | (first
       | refine ar_unwantedN rfl rfl rfl rfl ?_
       | refine ar_unwantedU rfl rfl rfl rfl ?_
       | (apply ar_opN rfl rfl rfl rfl; (next => (first
        | exact opv_pickt_cb rfl rfl
        | exact opv_pickf_cb rfl rfl
        | exact opv_pickt rfl rfl rfl
        | exact opv_pickf rfl rfl rfl
        | exact opv_len_str (T := TT) rfl rfl rfl
        | exact opv_len_sl (T := TT) rfl rfl rfl
        | fail)))
       | fail)
      | (refine arC .ret ?_; refine ar_retM0 [2] ?_)
      | (apply ar_op' rfl rfl rfl rfl; (next => (first
       | (refine evalE_ok (T := TT) rfl ?_; (first | exact trivial | omega | (simp [NFL] <;> omega)))
       | (apply opk ⟨_, .move _, _, _, _, _⟩; first | exact opv_const (cst_plain _) (.inl rfl) | fail)
       | (apply opk ⟨_, .binOp .add _ _ _ _, _, _, _, _⟩; first | exact opv_bin rfl rfl rfl | fail)
       | (apply opk ⟨_, .binOp .mul _ _ _ _, _, _, _, _⟩; first | exact opv_bin rfl rfl rfl | fail)
       | (apply opk ⟨_, .binOp .quo _ _ _ _, _, _, _, _⟩; first | (refine opv_quo rfl rfl rfl ?_; (next => (first | omega | (simp [NFL] <;> omega)))) | fail)
       | (apply opk ⟨_, .binOp .rem _ _ _ _, _, _, _, _⟩; first | (refine opv_rem rfl rfl rfl ?_; (next => (first | omega | (simp [NFL] <;> omega)))) | fail)
       | (apply opk ⟨_, .binOp .eql _ _ _ _, _, _, _, _⟩; first
        | (refine opv_cmp_t rfl rfl rfl ?_; (next => (first | exact rfl | (simp only [cmpP]; omega) | (simp only [cmpP]; simp [NFL] <;> omega))))
        | (refine opv_cmp_f rfl rfl rfl ?_; (next => (first | exact rfl | (simp only [cmpP]; omega) | (simp only [cmpP]; simp [NFL] <;> omega))))
        | exact opv_bin rfl rfl rfl
        | (refine opv_seq_t rfl rfl rfl ?_; (next => (first | rfl | assumption)))
        | (refine opv_seq_f rfl rfl rfl ?_; (next => (first | rfl | assumption)))
        | exact opv_str rfl rfl rfl
        | fail)
       | (apply opk ⟨_, .binOp .lss _ _ _ _, _, _, _, _⟩; first
        | (refine opv_cmp_t rfl rfl rfl ?_; (next => (first | exact rfl | (simp only [cmpP]; omega) | (simp only [cmpP]; simp [NFL] <;> omega))))
        | (refine opv_cmp_f rfl rfl rfl ?_; (next => (first | exact rfl | (simp only [cmpP]; omega) | (simp only [cmpP]; simp [NFL] <;> omega))))
        | exact opv_bin rfl rfl rfl
        | exact opv_str rfl rfl rfl
        | fail)
       | (apply opk ⟨_, .convert _ _ _, _, _, _, _⟩; first
        | (refine opv_conv_byte (T := TT) rfl rfl rfl ?_; (next => (first | exact .inl rfl | exact .inr (.inl rfl) | exact .inr (.inr rfl))))
        | (refine opv_conv64 (T := TT) rfl rfl rfl ?_; (next => (first | omega | (simp [NFL] <;> omega))))
        | (refine opv_convu64 (T := TT) rfl rfl rfl ?_; (next => (first | omega | (simp [NFL] <;> omega))))
        | exact opv_conv8 (T := TT) rfl rfl rfl
        | exact opv_conv_int (T := TT) rfl rfl rfl
        | exact opv_conv_str (T := TT) rfl rfl rfl
        | exact opv_bytes_str (T := TT) rfl rfl rfl rfl
        | exact opv_str_bytes (T := TT) rfl rfl rfl rfl
        | fail)
       | (apply opk ⟨_, .call { callee := .builtin .len, args := _, argTypes := _ }, _, _, _, _⟩; first
        | exact opv_len_str (T := TT) rfl rfl rfl
        | exact opv_len_sl (T := TT) rfl rfl rfl
        | exact opv_len_nil (T := TT) rfl rfl rfl
        | fail)
       | fail)))
      | (refine arO _ ?_; first
       | (refine arO ⟨_, .move _, _, _, _, _⟩ ?_; first | refine ar_move_sl rfl rfl rfl rfl ?_ | fail)
       | (refine arO ⟨_, .assign _, _, _, _, _⟩ ?_; first
        | refine ar_assign_sl rfl rfl rfl rfl ?_
        | refine ar_op rfl rfl rfl rfl (opv_const (cst_plain _) (.inr rfl)) ?_
        | fail)
       | (refine arO ⟨_, .call { callee := .value _, args := _, argTypes := _ }, _, _, _, _⟩ ?_; first
        | (apply ar_callM0 rfl (xor_a (crcR 4294967295 (s.take i) : Nat) 4294967295 (crcR 4294967295 (s.take i)) 4294967295 rfl rfl hcr (by omega)) rfl rfl; (next => (repeat (first
         | exact PArgs.nil
         | (apply PArgs.cons; (next => (first
          | exact PArg.own rfl rfl
          | exact PArg.rd rfl (Le1.refl _) rfl
          | exact PArg.rd rfl (Le1.rd _ _ _) rfl
          | exact PArg.nil rfl
          | exact PArg.rd rfl (Le1.nil _ _) rfl
          | (refine PArg.rd rfl (Le1.of_eq ?_) rfl; congr 2 <;> (first | omega | (simp; omega) | (simp [NFL]; done))))))))); (next => rfl); (next => rfl); rintro _ _ ⟨rfl, rfl⟩; refine ⟨_, rfl, ?_⟩)
        | fail)
       | fail)
      | refine ar_seq ?_
      | (refine arE ?_; refine ar_endM [0, 2, 3, 4, 5, 6, 10, 25, 33] rfl ?_)
      | refine ar_region ?_
      | refine ar_block ?_
      | refine ar_skip ?_
      | refine ar_blk ?_
      | refine ar_dedup rfl ?_
      | (refine arC (.cond _ _ _) ?_; first
       | (refine ar_cond_true rfl ?_ ?_; (next => (first | rfl | (simp only [decide_eq_true_eq, beq_iff_eq, bne_iff_ne, ge_iff_le, gt_iff_lt, ne_eq, Bool.not_eq_true', decide_eq_false_iff_not]; omega))))
       | (refine ar_cond_false rfl ?_ ?_; (next => (first
        | rfl
        | (simp only [decide_eq_false_iff_not, beq_eq_false_iff_ne, bne_eq_false_iff_eq, ge_iff_le, gt_iff_lt, ne_eq, Bool.not_eq_false', decide_eq_true_eq]; omega))))
       | fail)
      | refine ar_exit ?_
      | refine stk_b_hit ?_
      | refine stk_b_miss rfl ?_
      | refine stk_c_exit ?_
      | refine stk_l_exit ?_
      | (refine arC .ret ?_; refine ar_retM [2] ?_)
      | refine stk_c_ret ?_
      | refine stk_b_ret ?_
      | refine stk_l_ret ?_
      | refine stk_nil ?_
      | fail)
    first | exact qret_mk rfl (⟨by rw [hall], rfl⟩) | (trace_state; exact qret_mk rfl (⟨by rw [hall], rfl⟩))
  · have hb : (s.getD i 0).toNat < 256 := UInt8.toNat_lt _
    have hsucc := crcR_take 4294967295 s i (by omega)
    generalize crcR 4294967295 (s.take i) = c0 at hcr hsucc
    have hxl := xor_low (c := c0) hb
    have hxl2 : c0 % 256 ^^^ (s.getD i 0).toNat < 256 := Nat.xor_lt_two_pow (n := 8) (by omega) hb
    have hx : c0 ^^^ (s.getD i 0).toNat < 4294967296 := xor_lt32 hcr (by omega)
    repeat (first
      | ((first | apply ar_un | apply stk_un); (next => (first | (simp only [go_sem, Nat.reduceBEq, Nat.reduceEqDiff, reduceIte, reduceCtorEq, String.reduceEq, Nat.reduceAdd, Int.reduceToNat]; exact rfl) | exact rfl)))
      | (first
       | refine ar_unwantedN rfl rfl rfl rfl ?_
       | refine ar_unwantedU rfl rfl rfl rfl ?_
       | (apply ar_opN rfl rfl rfl rfl; (next => (first
        | exact opv_pickt_cb rfl rfl
        | exact opv_pickf_cb rfl rfl
        | exact opv_pickt rfl rfl rfl
        | exact opv_pickf rfl rfl rfl
        | exact opv_len_str (T := TT) rfl rfl rfl
        | exact opv_len_sl (T := TT) rfl rfl rfl
        | fail)))
       | fail)
      | (refine arC .ret ?_; refine ar_retM0 [2] ?_)
      | (apply ar_op' rfl rfl rfl rfl; (next => (first
       | (refine evalE_ok (T := TT) rfl ?_; (first | exact trivial | omega | (simp [NFL] <;> omega)))
       | (apply opk ⟨_, .move _, _, _, _, _⟩; first | exact opv_const (cst_plain _) (.inl rfl) | fail)
       | (apply opk ⟨_, .binOp .add _ _ _ _, _, _, _, _⟩; first | exact opv_bin rfl rfl rfl | fail)
       | (apply opk ⟨_, .binOp .mul _ _ _ _, _, _, _, _⟩; first | exact opv_bin rfl rfl rfl | fail)
       | (apply opk ⟨_, .binOp .quo _ _ _ _, _, _, _, _⟩; first | (refine opv_quo rfl rfl rfl ?_; (next => (first | omega | (simp [NFL] <;> omega)))) | fail)
       | (apply opk ⟨_, .binOp .rem _ _ _ _, _, _, _, _⟩; first | (refine opv_rem rfl rfl rfl ?_; (next => (first | omega | (simp [NFL] <;> omega)))) | fail)
       | (apply opk ⟨_, .binOp .eql _ _ _ _, _, _, _, _⟩; first
        | (refine opv_cmp_t rfl rfl rfl ?_; (next => (first | exact rfl | (simp only [cmpP]; omega) | (simp only [cmpP]; simp [NFL] <;> omega))))
        | (refine opv_cmp_f rfl rfl rfl ?_; (next => (first | exact rfl | (simp only [cmpP]; omega) | (simp only [cmpP]; simp [NFL] <;> omega))))
        | exact opv_bin rfl rfl rfl
        | (refine opv_seq_t rfl rfl rfl ?_; (next => (first | rfl | assumption)))
        | (refine opv_seq_f rfl rfl rfl ?_; (next => (first | rfl | assumption)))
        | exact opv_str rfl rfl rfl
        | fail)
       | (apply opk ⟨_, .binOp .lss _ _ _ _, _, _, _, _⟩; first
        | (refine opv_cmp_t rfl rfl rfl ?_; (next => (first | exact rfl | (simp only [cmpP]; omega) | (simp only [cmpP]; simp [NFL] <;> omega))))
        | (refine opv_cmp_f rfl rfl rfl ?_; (next => (first | exact rfl | (simp only [cmpP]; omega) | (simp only [cmpP]; simp [NFL] <;> omega))))
        | exact opv_bin rfl rfl rfl
        | exact opv_str rfl rfl rfl
        | fail)
       | (apply opk ⟨_, .convert _ _ _, _, _, _, _⟩; first
        | (refine opv_conv_byte (T := TT) rfl rfl rfl ?_; (next => (first | exact .inl rfl | exact .inr (.inl rfl) | exact .inr (.inr rfl))))
        | (refine opv_conv64 (T := TT) rfl rfl rfl ?_; (next => (first | omega | (simp [NFL] <;> omega))))
        | (refine opv_convu64 (T := TT) rfl rfl rfl ?_; (next => (first | omega | (simp [NFL] <;> omega))))
        | exact opv_conv8 (T := TT) rfl rfl rfl
        | exact opv_conv_int (T := TT) rfl rfl rfl
        | exact opv_conv_str (T := TT) rfl rfl rfl
        | exact opv_bytes_str (T := TT) rfl rfl rfl rfl
        | exact opv_str_bytes (T := TT) rfl rfl rfl rfl
        | fail)
       | (apply opk ⟨_, .call { callee := .builtin .len, args := _, argTypes := _ }, _, _, _, _⟩; first
        | exact opv_len_str (T := TT) rfl rfl rfl
        | exact opv_len_sl (T := TT) rfl rfl rfl
        | exact opv_len_nil (T := TT) rfl rfl rfl
        | fail)
       | fail)))
      | (refine arO _ ?_; first
       | (refine arO ⟨_, .move _, _, _, _, _⟩ ?_; first | refine ar_move_sl rfl rfl rfl rfl ?_ | fail)
       | (refine arO ⟨_, .assign _, _, _, _, _⟩ ?_; first
        | refine ar_assign_sl rfl rfl rfl rfl ?_
        | refine ar_op rfl rfl rfl rfl (opv_const (cst_plain _) (.inr rfl)) ?_
        | fail)
       | (refine arO ⟨_, .call { callee := .value _, args := _, argTypes := _ }, _, _, _, _⟩ ?_; first
        | (apply ar_callM0 rfl (xor_a ((c0 : Int) % 256) ((s.getD i 0).toNat : Int) (c0 % 256) (s.getD i 0).toNat (by omega) rfl (by omega) (by omega)) rfl rfl; (next => (repeat (first
         | exact PArgs.nil
         | (apply PArgs.cons; (next => (first
          | exact PArg.own rfl rfl
          | exact PArg.rd rfl (Le1.refl _) rfl
          | exact PArg.rd rfl (Le1.rd _ _ _) rfl
          | exact PArg.nil rfl
          | exact PArg.rd rfl (Le1.nil _ _) rfl
          | (refine PArg.rd rfl (Le1.of_eq ?_) rfl; congr 2 <;> (first | omega | (simp; omega) | (simp [NFL]; done))))))))); (next => rfl); (next => rfl); rintro _ _ ⟨rfl, rfl⟩; refine ⟨_, rfl, ?_⟩)
        | fail)
       | fail)
      | refine ar_seq ?_
      | (refine arE ?_; refine ar_endM [0, 2, 3, 4, 5, 6, 10, 25, 33] rfl ?_)
      | refine ar_region ?_
      | refine ar_block ?_
      | refine ar_skip ?_
      | refine ar_blk ?_
      | refine ar_dedup rfl ?_
      | (refine arC (.cond _ _ _) ?_; first
       | (refine ar_cond_true rfl ?_ ?_; (next => (first | rfl | (simp only [decide_eq_true_eq, beq_iff_eq, bne_iff_ne, ge_iff_le, gt_iff_lt, ne_eq, Bool.not_eq_true', decide_eq_false_iff_not]; omega))))
       | (refine ar_cond_false rfl ?_ ?_; (next => (first
        | rfl
        | (simp only [decide_eq_false_iff_not, beq_eq_false_iff_ne, bne_eq_false_iff_eq, ge_iff_le, gt_iff_lt, ne_eq, Bool.not_eq_false', decide_eq_true_eq]; omega))))
       | fail)
      | refine ar_exit ?_
      | refine stk_b_hit ?_
      | refine stk_b_miss rfl ?_
      | refine stk_c_exit ?_
      | refine stk_l_exit ?_
      | (refine arC .ret ?_; refine ar_retM [2] ?_)
      | refine stk_c_ret ?_
      | refine stk_b_ret ?_
      | refine stk_l_ret ?_
      | refine stk_nil ?_
      | fail)
    refine ar_loop (fun k : Nat => ⟨38, [(0, .v (.string (mkB s))), (3, .v (.int .i64 (crcN k (c0 ^^^ (s.getD i 0).toNat) : Nat))), (4, .v (.int .i64 i)), (5, .v (.int .i64 k))], [], []⟩) (fun k => k ≤ 8) (fun k => 8 - k) 0 ⟨rfl, ?_, ?_, rfl⟩ (Nat.zero_le _) ?_
    · (repeat' (first
      | exact trivial
      | exact LeL.refl _
      | exact .refl _
      | refine ⟨⟨_, rfl, ?_⟩, ?_⟩
      | refine ⟨⟨_, look_hd, ?_⟩, ?_⟩
      | refine ⟨⟨_, look_tl (by first | assumption | (intro e; exact absurd e.symm (by assumption))) look_hd, ?_⟩, ?_⟩
      | refine ⟨⟨_, look_tl (by first | assumption | (intro e; exact absurd e.symm (by assumption))) (look_tl (by first | assumption | (intro e; exact absurd e.symm (by assumption))) look_hd), ?_⟩, ?_⟩
      | refine ⟨⟨_, look_tl (by first | assumption | (intro e; exact absurd e.symm (by assumption))) (look_tl (by first | assumption | (intro e; exact absurd e.symm (by assumption))) (look_tl (by first | assumption | (intro e; exact absurd e.symm (by assumption))) look_hd)), ?_⟩, ?_⟩
      | refine ⟨⟨_, look_tl (by first | assumption | (intro e; exact absurd e.symm (by assumption))) (look_tl (by first | assumption | (intro e; exact absurd e.symm (by assumption))) (look_tl (by first | assumption | (intro e; exact absurd e.symm (by assumption))) (look_tl (by first | assumption | (intro e; exact absurd e.symm (by assumption))) look_hd))), ?_⟩, ?_⟩
      | exact .nil _ _
      | exact .rd _ _ _
      | refine LeL.cons ?_ ?_
      | exact LeL.nil
      | refine Le1.of_eq ?_))
      all_goals (exact congrArg (fun q => AV.v (.int .i64 q)) (by show _ = ((c0 ^^^ (s.getD i 0).toNat : Nat) : Int); rw [← hxl]; push_cast; omega))
    · (repeat' (first
      | exact trivial
      | exact LeL.refl _
      | exact .refl _
      | refine ⟨⟨_, rfl, ?_⟩, ?_⟩
      | refine ⟨⟨_, look_hd, ?_⟩, ?_⟩
      | refine ⟨⟨_, look_tl (by first | assumption | (intro e; exact absurd e.symm (by assumption))) look_hd, ?_⟩, ?_⟩
      | refine ⟨⟨_, look_tl (by first | assumption | (intro e; exact absurd e.symm (by assumption))) (look_tl (by first | assumption | (intro e; exact absurd e.symm (by assumption))) look_hd), ?_⟩, ?_⟩
      | refine ⟨⟨_, look_tl (by first | assumption | (intro e; exact absurd e.symm (by assumption))) (look_tl (by first | assumption | (intro e; exact absurd e.symm (by assumption))) (look_tl (by first | assumption | (intro e; exact absurd e.symm (by assumption))) look_hd)), ?_⟩, ?_⟩
      | refine ⟨⟨_, look_tl (by first | assumption | (intro e; exact absurd e.symm (by assumption))) (look_tl (by first | assumption | (intro e; exact absurd e.symm (by assumption))) (look_tl (by first | assumption | (intro e; exact absurd e.symm (by assumption))) (look_tl (by first | assumption | (intro e; exact absurd e.symm (by assumption))) look_hd))), ?_⟩, ?_⟩
      | exact .nil _ _
      | exact .rd _ _ _
      | refine LeL.cons ?_ ?_
      | exact LeL.nil
      | refine Le1.of_eq ?_))
    intro k hk
    have hck : crcN k (c0 ^^^ (s.getD i 0).toNat) < 4294967296 := crcN_lt hx
    have hcs := crcN_succ k (c0 ^^^ (s.getD i 0).toNat)
    have hc8 : crcOne c0 (s.getD i 0) = crcN 8 (c0 ^^^ (s.getD i 0).toNat) := rfl
    by_cases hke : k = 8
    · repeat (first
      | ((first | apply ar_un | apply stk_un); (next => (first | (simp only [go_sem, Nat.reduceBEq, Nat.reduceEqDiff, reduceIte, reduceCtorEq, String.reduceEq, Nat.reduceAdd, Int.reduceToNat]; exact rfl) | exact rfl)))
      | (first
       | refine ar_unwantedN rfl rfl rfl rfl ?_
       | refine ar_unwantedU rfl rfl rfl rfl ?_
       | (apply ar_opN rfl rfl rfl rfl; (next => (first
        | exact opv_pickt_cb rfl rfl
        | exact opv_pickf_cb rfl rfl
        | exact opv_pickt rfl rfl rfl
        | exact opv_pickf rfl rfl rfl
        | exact opv_len_str (T := TT) rfl rfl rfl
        | exact opv_len_sl (T := TT) rfl rfl rfl
        | fail)))
       | fail)
      | (refine arC .ret ?_; refine ar_retM0 [2] ?_)
      | (apply ar_op' rfl rfl rfl rfl; (next => (first
       | (refine evalE_ok (T := TT) rfl ?_; (first | exact trivial | omega | (simp [NFL] <;> omega)))
       | (apply opk ⟨_, .move _, _, _, _, _⟩; first | exact opv_const (cst_plain _) (.inl rfl) | fail)
       | (apply opk ⟨_, .binOp .add _ _ _ _, _, _, _, _⟩; first | exact opv_bin rfl rfl rfl | fail)
       | (apply opk ⟨_, .binOp .mul _ _ _ _, _, _, _, _⟩; first | exact opv_bin rfl rfl rfl | fail)
       | (apply opk ⟨_, .binOp .quo _ _ _ _, _, _, _, _⟩; first | (refine opv_quo rfl rfl rfl ?_; (next => (first | omega | (simp [NFL] <;> omega)))) | fail)
       | (apply opk ⟨_, .binOp .rem _ _ _ _, _, _, _, _⟩; first | (refine opv_rem rfl rfl rfl ?_; (next => (first | omega | (simp [NFL] <;> omega)))) | fail)
       | (apply opk ⟨_, .binOp .eql _ _ _ _, _, _, _, _⟩; first
        | (refine opv_cmp_t rfl rfl rfl ?_; (next => (first | exact rfl | (simp only [cmpP]; omega) | (simp only [cmpP]; simp [NFL] <;> omega))))
        | (refine opv_cmp_f rfl rfl rfl ?_; (next => (first | exact rfl | (simp only [cmpP]; omega) | (simp only [cmpP]; simp [NFL] <;> omega))))
        | exact opv_bin rfl rfl rfl
        | (refine opv_seq_t rfl rfl rfl ?_; (next => (first | rfl | assumption)))
        | (refine opv_seq_f rfl rfl rfl ?_; (next => (first | rfl | assumption)))
        | exact opv_str rfl rfl rfl
        | fail)
       | (apply opk ⟨_, .binOp .lss _ _ _ _, _, _, _, _⟩; first
        | (refine opv_cmp_t rfl rfl rfl ?_; (next => (first | exact rfl | (simp only [cmpP]; omega) | (simp only [cmpP]; simp [NFL] <;> omega))))
        | (refine opv_cmp_f rfl rfl rfl ?_; (next => (first | exact rfl | (simp only [cmpP]; omega) | (simp only [cmpP]; simp [NFL] <;> omega))))
        | exact opv_bin rfl rfl rfl
        | exact opv_str rfl rfl rfl
        | fail)
       | (apply opk ⟨_, .convert _ _ _, _, _, _, _⟩; first
        | (refine opv_conv_byte (T := TT) rfl rfl rfl ?_; (next => (first | exact .inl rfl | exact .inr (.inl rfl) | exact .inr (.inr rfl))))
        | (refine opv_conv64 (T := TT) rfl rfl rfl ?_; (next => (first | omega | (simp [NFL] <;> omega))))
        | (refine opv_convu64 (T := TT) rfl rfl rfl ?_; (next => (first | omega | (simp [NFL] <;> omega))))
        | exact opv_conv8 (T := TT) rfl rfl rfl
        | exact opv_conv_int (T := TT) rfl rfl rfl
        | exact opv_conv_str (T := TT) rfl rfl rfl
        | exact opv_bytes_str (T := TT) rfl rfl rfl rfl
        | exact opv_str_bytes (T := TT) rfl rfl rfl rfl
        | fail)
       | (apply opk ⟨_, .call { callee := .builtin .len, args := _, argTypes := _ }, _, _, _, _⟩; first
        | exact opv_len_str (T := TT) rfl rfl rfl
        | exact opv_len_sl (T := TT) rfl rfl rfl
        | exact opv_len_nil (T := TT) rfl rfl rfl
        | fail)
       | fail)))
      | (refine arO _ ?_; first
       | (refine arO ⟨_, .move _, _, _, _, _⟩ ?_; first | refine ar_move_sl rfl rfl rfl rfl ?_ | fail)
       | (refine arO ⟨_, .assign _, _, _, _, _⟩ ?_; first
        | refine ar_assign_sl rfl rfl rfl rfl ?_
        | refine ar_op rfl rfl rfl rfl (opv_const (cst_plain _) (.inr rfl)) ?_
        | fail)
       | fail)
      | refine ar_seq ?_
      | (refine arE ?_; refine ar_endM [0, 2, 3, 4, 5, 6, 10, 25, 33] rfl ?_)
      | refine ar_region ?_
      | refine ar_block ?_
      | refine ar_skip ?_
      | refine ar_blk ?_
      | refine ar_dedup rfl ?_
      | (refine arC (.cond _ _ _) ?_; first
       | (refine ar_cond_true rfl ?_ ?_; (next => (first | rfl | (simp only [decide_eq_true_eq, beq_iff_eq, bne_iff_ne, ge_iff_le, gt_iff_lt, ne_eq, Bool.not_eq_true', decide_eq_false_iff_not]; omega))))
       | (refine ar_cond_false rfl ?_ ?_; (next => (first
        | rfl
        | (simp only [decide_eq_false_iff_not, beq_eq_false_iff_ne, bne_eq_false_iff_eq, ge_iff_le, gt_iff_lt, ne_eq, Bool.not_eq_false', decide_eq_true_eq]; omega))))
       | fail)
      | refine ar_exit ?_
      | refine stk_b_hit ?_
      | refine stk_b_miss rfl ?_
      | refine stk_c_exit ?_
      | refine stk_l_exit ?_
      | (refine arC .ret ?_; refine ar_retM [2] ?_)
      | refine stk_c_ret ?_
      | refine stk_b_ret ?_
      | refine stk_l_ret ?_
      | refine stk_nil ?_
      | fail)
      refine ar_back ⟨i + 1, ⟨rfl, ?_, ?_, rfl⟩, by omega, by omega⟩
      · (repeat' (first
        | exact trivial
        | exact LeL.refl _
        | exact .refl _
        | refine ⟨⟨_, rfl, ?_⟩, ?_⟩
        | refine ⟨⟨_, look_hd, ?_⟩, ?_⟩
        | refine ⟨⟨_, look_tl (by first | assumption | (intro e; exact absurd e.symm (by assumption))) look_hd, ?_⟩, ?_⟩
        | refine ⟨⟨_, look_tl (by first | assumption | (intro e; exact absurd e.symm (by assumption))) (look_tl (by first | assumption | (intro e; exact absurd e.symm (by assumption))) look_hd), ?_⟩, ?_⟩
        | refine ⟨⟨_, look_tl (by first | assumption | (intro e; exact absurd e.symm (by assumption))) (look_tl (by first | assumption | (intro e; exact absurd e.symm (by assumption))) (look_tl (by first | assumption | (intro e; exact absurd e.symm (by assumption))) look_hd)), ?_⟩, ?_⟩
        | refine ⟨⟨_, look_tl (by first | assumption | (intro e; exact absurd e.symm (by assumption))) (look_tl (by first | assumption | (intro e; exact absurd e.symm (by assumption))) (look_tl (by first | assumption | (intro e; exact absurd e.symm (by assumption))) (look_tl (by first | assumption | (intro e; exact absurd e.symm (by assumption))) look_hd))), ?_⟩, ?_⟩
        | exact .nil _ _
        | exact .rd _ _ _
        | refine LeL.cons ?_ ?_
        | exact LeL.nil
        | refine Le1.of_eq ?_))
        all_goals (rw [hsucc, hc8, hke])
      · (repeat' (first
        | exact trivial
        | exact LeL.refl _
        | exact .refl _
        | refine ⟨⟨_, rfl, ?_⟩, ?_⟩
        | refine ⟨⟨_, look_hd, ?_⟩, ?_⟩
        | refine ⟨⟨_, look_tl (by first | assumption | (intro e; exact absurd e.symm (by assumption))) look_hd, ?_⟩, ?_⟩
        | refine ⟨⟨_, look_tl (by first | assumption | (intro e; exact absurd e.symm (by assumption))) (look_tl (by first | assumption | (intro e; exact absurd e.symm (by assumption))) look_hd), ?_⟩, ?_⟩
        | refine ⟨⟨_, look_tl (by first | assumption | (intro e; exact absurd e.symm (by assumption))) (look_tl (by first | assumption | (intro e; exact absurd e.symm (by assumption))) (look_tl (by first | assumption | (intro e; exact absurd e.symm (by assumption))) look_hd)), ?_⟩, ?_⟩
        | refine ⟨⟨_, look_tl (by first | assumption | (intro e; exact absurd e.symm (by assumption))) (look_tl (by first | assumption | (intro e; exact absurd e.symm (by assumption))) (look_tl (by first | assumption | (intro e; exact absurd e.symm (by assumption))) (look_tl (by first | assumption | (intro e; exact absurd e.symm (by assumption))) look_hd))), ?_⟩, ?_⟩
        | exact .nil _ _
        | exact .rd _ _ _
        | refine LeL.cons ?_ ?_
        | exact LeL.nil
        | refine Le1.of_eq ?_))
    · generalize crcN k (c0 ^^^ (s.getD i 0).toNat) = c1 at hck hcs
      by_cases hodd : c1 % 2 = 1
      · have hst : crcStep c1 = c1 / 2 ^^^ 2197175160 := by unfold crcStep; rw [if_pos hodd]
        repeat (first
          | ((first | apply ar_un | apply stk_un); (next => (first | (simp only [go_sem, Nat.reduceBEq, Nat.reduceEqDiff, reduceIte, reduceCtorEq, String.reduceEq, Nat.reduceAdd, Int.reduceToNat]; exact rfl) | exact rfl)))
          | (first
           | refine ar_unwantedN rfl rfl rfl rfl ?_
           | refine ar_unwantedU rfl rfl rfl rfl ?_
           | (apply ar_opN rfl rfl rfl rfl; (next => (first
            | exact opv_pickt_cb rfl rfl
            | exact opv_pickf_cb rfl rfl
            | exact opv_pickt rfl rfl rfl
            | exact opv_pickf rfl rfl rfl
            | exact opv_len_str (T := TT) rfl rfl rfl
            | exact opv_len_sl (T := TT) rfl rfl rfl
            | fail)))
           | fail)
          | (refine arC .ret ?_; refine ar_retM0 [2] ?_)
          | (apply ar_op' rfl rfl rfl rfl; (next => (first
           | (refine evalE_ok (T := TT) rfl ?_; (first | exact trivial | omega | (simp [NFL] <;> omega)))
           | (apply opk ⟨_, .move _, _, _, _, _⟩; first | exact opv_const (cst_plain _) (.inl rfl) | fail)
           | (apply opk ⟨_, .binOp .add _ _ _ _, _, _, _, _⟩; first | exact opv_bin rfl rfl rfl | fail)
           | (apply opk ⟨_, .binOp .mul _ _ _ _, _, _, _, _⟩; first | exact opv_bin rfl rfl rfl | fail)
           | (apply opk ⟨_, .binOp .quo _ _ _ _, _, _, _, _⟩; first | (refine opv_quo rfl rfl rfl ?_; (next => (first | omega | (simp [NFL] <;> omega)))) | fail)
           | (apply opk ⟨_, .binOp .rem _ _ _ _, _, _, _, _⟩; first | (refine opv_rem rfl rfl rfl ?_; (next => (first | omega | (simp [NFL] <;> omega)))) | fail)
           | (apply opk ⟨_, .binOp .eql _ _ _ _, _, _, _, _⟩; first
            | (refine opv_cmp_t rfl rfl rfl ?_; (next => (first | exact rfl | (simp only [cmpP]; omega) | (simp only [cmpP]; simp [NFL] <;> omega))))
            | (refine opv_cmp_f rfl rfl rfl ?_; (next => (first | exact rfl | (simp only [cmpP]; omega) | (simp only [cmpP]; simp [NFL] <;> omega))))
            | exact opv_bin rfl rfl rfl
            | (refine opv_seq_t rfl rfl rfl ?_; (next => (first | rfl | assumption)))
            | (refine opv_seq_f rfl rfl rfl ?_; (next => (first | rfl | assumption)))
            | exact opv_str rfl rfl rfl
            | fail)
           | (apply opk ⟨_, .binOp .lss _ _ _ _, _, _, _, _⟩; first
            | (refine opv_cmp_t rfl rfl rfl ?_; (next => (first | exact rfl | (simp only [cmpP]; omega) | (simp only [cmpP]; simp [NFL] <;> omega))))
            | (refine opv_cmp_f rfl rfl rfl ?_; (next => (first | exact rfl | (simp only [cmpP]; omega) | (simp only [cmpP]; simp [NFL] <;> omega))))
            | exact opv_bin rfl rfl rfl
            | exact opv_str rfl rfl rfl
            | fail)
           | (apply opk ⟨_, .convert _ _ _, _, _, _, _⟩; first
            | (refine opv_conv_byte (T := TT) rfl rfl rfl ?_; (next => (first | exact .inl rfl | exact .inr (.inl rfl) | exact .inr (.inr rfl))))
            | (refine opv_conv64 (T := TT) rfl rfl rfl ?_; (next => (first | omega | (simp [NFL] <;> omega))))
            | (refine opv_convu64 (T := TT) rfl rfl rfl ?_; (next => (first | omega | (simp [NFL] <;> omega))))
            | exact opv_conv8 (T := TT) rfl rfl rfl
            | exact opv_conv_int (T := TT) rfl rfl rfl
            | exact opv_conv_str (T := TT) rfl rfl rfl
            | exact opv_bytes_str (T := TT) rfl rfl rfl rfl
            | exact opv_str_bytes (T := TT) rfl rfl rfl rfl
            | fail)
           | (apply opk ⟨_, .call { callee := .builtin .len, args := _, argTypes := _ }, _, _, _, _⟩; first
            | exact opv_len_str (T := TT) rfl rfl rfl
            | exact opv_len_sl (T := TT) rfl rfl rfl
            | exact opv_len_nil (T := TT) rfl rfl rfl
            | fail)
           | fail)))
          | (refine arO _ ?_; first
           | (refine arO ⟨_, .move _, _, _, _, _⟩ ?_; first | refine ar_move_sl rfl rfl rfl rfl ?_ | fail)
           | (refine arO ⟨_, .assign _, _, _, _, _⟩ ?_; first
            | refine ar_assign_sl rfl rfl rfl rfl ?_
            | refine ar_op rfl rfl rfl rfl (opv_const (cst_plain _) (.inr rfl)) ?_
            | fail)
           | (refine arO ⟨_, .call { callee := .value _, args := _, argTypes := _ }, _, _, _, _⟩ ?_; first
            | (apply ar_callM0 rfl (xor_a ((c1 : Int) / 2) 2197175160 (c1 / 2) 2197175160 (by omega) rfl (by omega) (by omega)) rfl rfl; (next => (repeat (first
             | exact PArgs.nil
             | (apply PArgs.cons; (next => (first
              | exact PArg.own rfl rfl
              | exact PArg.rd rfl (Le1.refl _) rfl
              | exact PArg.rd rfl (Le1.rd _ _ _) rfl
              | exact PArg.nil rfl
              | exact PArg.rd rfl (Le1.nil _ _) rfl
              | (refine PArg.rd rfl (Le1.of_eq ?_) rfl; congr 2 <;> (first | omega | (simp; omega) | (simp [NFL]; done))))))))); (next => rfl); (next => rfl); rintro _ _ ⟨rfl, rfl⟩; refine ⟨_, rfl, ?_⟩)
            | fail)
           | fail)
          | refine ar_seq ?_
          | (refine arE ?_; refine ar_endM [0, 2, 3, 4, 5, 6, 10, 25, 33] rfl ?_)
          | refine ar_region ?_
          | refine ar_block ?_
          | refine ar_skip ?_
          | refine ar_blk ?_
          | refine ar_dedup rfl ?_
          | (refine arC (.cond _ _ _) ?_; first
           | (refine ar_cond_true rfl ?_ ?_; (next => (first | rfl | (simp only [decide_eq_true_eq, beq_iff_eq, bne_iff_ne, ge_iff_le, gt_iff_lt, ne_eq, Bool.not_eq_true', decide_eq_false_iff_not]; omega))))
           | (refine ar_cond_false rfl ?_ ?_; (next => (first
            | rfl
            | (simp only [decide_eq_false_iff_not, beq_eq_false_iff_ne, bne_eq_false_iff_eq, ge_iff_le, gt_iff_lt, ne_eq, Bool.not_eq_false', decide_eq_true_eq]; omega))))
           | fail)
          | refine ar_exit ?_
          | refine stk_b_hit ?_
          | refine stk_b_miss rfl ?_
          | refine stk_c_exit ?_
          | refine stk_l_exit ?_
          | (refine arC .ret ?_; refine ar_retM [2] ?_)
          | refine stk_c_ret ?_
          | refine stk_b_ret ?_
          | refine stk_l_ret ?_
          | refine stk_nil ?_
          | fail)
        refine ar_back ⟨k + 1, ⟨rfl, ?_, ?_, rfl⟩, by omega, by omega⟩
        · (repeat' (first
          | exact trivial
          | exact LeL.refl _
          | exact .refl _
          | refine ⟨⟨_, rfl, ?_⟩, ?_⟩
          | refine ⟨⟨_, look_hd, ?_⟩, ?_⟩
          | refine ⟨⟨_, look_tl (by first | assumption | (intro e; exact absurd e.symm (by assumption))) look_hd, ?_⟩, ?_⟩
          | refine ⟨⟨_, look_tl (by first | assumption | (intro e; exact absurd e.symm (by assumption))) (look_tl (by first | assumption | (intro e; exact absurd e.symm (by assumption))) look_hd), ?_⟩, ?_⟩
          | refine ⟨⟨_, look_tl (by first | assumption | (intro e; exact absurd e.symm (by assumption))) (look_tl (by first | assumption | (intro e; exact absurd e.symm (by assumption))) (look_tl (by first | assumption | (intro e; exact absurd e.symm (by assumption))) look_hd)), ?_⟩, ?_⟩
          | refine ⟨⟨_, look_tl (by first | assumption | (intro e; exact absurd e.symm (by assumption))) (look_tl (by first | assumption | (intro e; exact absurd e.symm (by assumption))) (look_tl (by first | assumption | (intro e; exact absurd e.symm (by assumption))) (look_tl (by first | assumption | (intro e; exact absurd e.symm (by assumption))) look_hd))), ?_⟩, ?_⟩
          | exact .nil _ _
          | exact .rd _ _ _
          | refine LeL.cons ?_ ?_
          | exact LeL.nil
          | refine Le1.of_eq ?_))
          all_goals (rw [hcs, hst])
        · (repeat' (first
          | exact trivial
          | exact LeL.refl _
          | exact .refl _
          | refine ⟨⟨_, rfl, ?_⟩, ?_⟩
          | refine ⟨⟨_, look_hd, ?_⟩, ?_⟩
          | refine ⟨⟨_, look_tl (by first | assumption | (intro e; exact absurd e.symm (by assumption))) look_hd, ?_⟩, ?_⟩
          | refine ⟨⟨_, look_tl (by first | assumption | (intro e; exact absurd e.symm (by assumption))) (look_tl (by first | assumption | (intro e; exact absurd e.symm (by assumption))) look_hd), ?_⟩, ?_⟩
          | refine ⟨⟨_, look_tl (by first | assumption | (intro e; exact absurd e.symm (by assumption))) (look_tl (by first | assumption | (intro e; exact absurd e.symm (by assumption))) (look_tl (by first | assumption | (intro e; exact absurd e.symm (by assumption))) look_hd)), ?_⟩, ?_⟩
          | refine ⟨⟨_, look_tl (by first | assumption | (intro e; exact absurd e.symm (by assumption))) (look_tl (by first | assumption | (intro e; exact absurd e.symm (by assumption))) (look_tl (by first | assumption | (intro e; exact absurd e.symm (by assumption))) (look_tl (by first | assumption | (intro e; exact absurd e.symm (by assumption))) look_hd))), ?_⟩, ?_⟩
          | exact .nil _ _
          | exact .rd _ _ _
          | refine LeL.cons ?_ ?_
          | exact LeL.nil
          | refine Le1.of_eq ?_))
      · have hst : crcStep c1 = c1 / 2 := by unfold crcStep; rw [if_neg hodd]
        repeat (first
          | ((first | apply ar_un | apply stk_un); (next => (first | (simp only [go_sem, Nat.reduceBEq, Nat.reduceEqDiff, reduceIte, reduceCtorEq, String.reduceEq, Nat.reduceAdd, Int.reduceToNat]; exact rfl) | exact rfl)))
          | (first
           | refine ar_unwantedN rfl rfl rfl rfl ?_
           | refine ar_unwantedU rfl rfl rfl rfl ?_
           | (apply ar_opN rfl rfl rfl rfl; (next => (first
            | exact opv_pickt_cb rfl rfl
            | exact opv_pickf_cb rfl rfl
            | exact opv_pickt rfl rfl rfl
            | exact opv_pickf rfl rfl rfl
            | exact opv_len_str (T := TT) rfl rfl rfl
            | exact opv_len_sl (T := TT) rfl rfl rfl
            | fail)))
           | fail)
          | (refine arC .ret ?_; refine ar_retM0 [2] ?_)
          | (apply ar_op' rfl rfl rfl rfl; (next => (first
           | (refine evalE_ok (T := TT) rfl ?_; (first | exact trivial | omega | (simp [NFL] <;> omega)))
           | (apply opk ⟨_, .move _, _, _, _, _⟩; first | exact opv_const (cst_plain _) (.inl rfl) | fail)
           | (apply opk ⟨_, .binOp .add _ _ _ _, _, _, _, _⟩; first | exact opv_bin rfl rfl rfl | fail)
           | (apply opk ⟨_, .binOp .mul _ _ _ _, _, _, _, _⟩; first | exact opv_bin rfl rfl rfl | fail)
           | (apply opk ⟨_, .binOp .quo _ _ _ _, _, _, _, _⟩; first | (refine opv_quo rfl rfl rfl ?_; (next => (first | omega | (simp [NFL] <;> omega)))) | fail)
           | (apply opk ⟨_, .binOp .rem _ _ _ _, _, _, _, _⟩; first | (refine opv_rem rfl rfl rfl ?_; (next => (first | omega | (simp [NFL] <;> omega)))) | fail)
           | (apply opk ⟨_, .binOp .eql _ _ _ _, _, _, _, _⟩; first
            | (refine opv_cmp_t rfl rfl rfl ?_; (next => (first | exact rfl | (simp only [cmpP]; omega) | (simp only [cmpP]; simp [NFL] <;> omega))))
            | (refine opv_cmp_f rfl rfl rfl ?_; (next => (first | exact rfl | (simp only [cmpP]; omega) | (simp only [cmpP]; simp [NFL] <;> omega))))
            | exact opv_bin rfl rfl rfl
            | (refine opv_seq_t rfl rfl rfl ?_; (next => (first | rfl | assumption)))
            | (refine opv_seq_f rfl rfl rfl ?_; (next => (first | rfl | assumption)))
            | exact opv_str rfl rfl rfl
            | fail)
           | (apply opk ⟨_, .binOp .lss _ _ _ _, _, _, _, _⟩; first
            | (refine opv_cmp_t rfl rfl rfl ?_; (next => (first | exact rfl | (simp only [cmpP]; omega) | (simp only [cmpP]; simp [NFL] <;> omega))))
            | (refine opv_cmp_f rfl rfl rfl ?_; (next => (first | exact rfl | (simp only [cmpP]; omega) | (simp only [cmpP]; simp [NFL] <;> omega))))
            | exact opv_bin rfl rfl rfl
            | exact opv_str rfl rfl rfl
            | fail)
           | (apply opk ⟨_, .convert _ _ _, _, _, _, _⟩; first
            | (refine opv_conv_byte (T := TT) rfl rfl rfl ?_; (next => (first | exact .inl rfl | exact .inr (.inl rfl) | exact .inr (.inr rfl))))
            | (refine opv_conv64 (T := TT) rfl rfl rfl ?_; (next => (first | omega | (simp [NFL] <;> omega))))
            | (refine opv_convu64 (T := TT) rfl rfl rfl ?_; (next => (first | omega | (simp [NFL] <;> omega))))
            | exact opv_conv8 (T := TT) rfl rfl rfl
            | exact opv_conv_int (T := TT) rfl rfl rfl
            | exact opv_conv_str (T := TT) rfl rfl rfl
            | exact opv_bytes_str (T := TT) rfl rfl rfl rfl
            | exact opv_str_bytes (T := TT) rfl rfl rfl rfl
            | fail)
           | (apply opk ⟨_, .call { callee := .builtin .len, args := _, argTypes := _ }, _, _, _, _⟩; first
            | exact opv_len_str (T := TT) rfl rfl rfl
            | exact opv_len_sl (T := TT) rfl rfl rfl
            | exact opv_len_nil (T := TT) rfl rfl rfl
            | fail)
           | fail)))
          | (refine arO _ ?_; first
           | (refine arO ⟨_, .move _, _, _, _, _⟩ ?_; first | refine ar_move_sl rfl rfl rfl rfl ?_ | fail)
           | (refine arO ⟨_, .assign _, _, _, _, _⟩ ?_; first
            | refine ar_assign_sl rfl rfl rfl rfl ?_
            | refine ar_op rfl rfl rfl rfl (opv_const (cst_plain _) (.inr rfl)) ?_
            | fail)
           | fail)
          | refine ar_seq ?_
          | (refine arE ?_; refine ar_endM [0, 2, 3, 4, 5, 6, 10, 25, 33] rfl ?_)
          | refine ar_region ?_
          | refine ar_block ?_
          | refine ar_skip ?_
          | refine ar_blk ?_
          | refine ar_dedup rfl ?_
          | (refine arC (.cond _ _ _) ?_; first
           | (refine ar_cond_true rfl ?_ ?_; (next => (first | rfl | (simp only [decide_eq_true_eq, beq_iff_eq, bne_iff_ne, ge_iff_le, gt_iff_lt, ne_eq, Bool.not_eq_true', decide_eq_false_iff_not]; omega))))
           | (refine ar_cond_false rfl ?_ ?_; (next => (first
            | rfl
            | (simp only [decide_eq_false_iff_not, beq_eq_false_iff_ne, bne_eq_false_iff_eq, ge_iff_le, gt_iff_lt, ne_eq, Bool.not_eq_false', decide_eq_true_eq]; omega))))
           | fail)
          | refine ar_exit ?_
          | refine stk_b_hit ?_
          | refine stk_b_miss rfl ?_
          | refine stk_c_exit ?_
          | refine stk_l_exit ?_
          | (refine arC .ret ?_; refine ar_retM [2] ?_)
          | refine stk_c_ret ?_
          | refine stk_b_ret ?_
          | refine stk_l_ret ?_
          | refine stk_nil ?_
          | fail)
        refine ar_back ⟨k + 1, ⟨rfl, ?_, ?_, rfl⟩, by omega, by omega⟩
        · (repeat' (first
          | exact trivial
          | exact LeL.refl _
          | exact .refl _
          | refine ⟨⟨_, rfl, ?_⟩, ?_⟩
          | refine ⟨⟨_, look_hd, ?_⟩, ?_⟩
          | refine ⟨⟨_, look_tl (by first | assumption | (intro e; exact absurd e.symm (by assumption))) look_hd, ?_⟩, ?_⟩
          | refine ⟨⟨_, look_tl (by first | assumption | (intro e; exact absurd e.symm (by assumption))) (look_tl (by first | assumption | (intro e; exact absurd e.symm (by assumption))) look_hd), ?_⟩, ?_⟩
          | refine ⟨⟨_, look_tl (by first | assumption | (intro e; exact absurd e.symm (by assumption))) (look_tl (by first | assumption | (intro e; exact absurd e.symm (by assumption))) (look_tl (by first | assumption | (intro e; exact absurd e.symm (by assumption))) look_hd)), ?_⟩, ?_⟩
          | refine ⟨⟨_, look_tl (by first | assumption | (intro e; exact absurd e.symm (by assumption))) (look_tl (by first | assumption | (intro e; exact absurd e.symm (by assumption))) (look_tl (by first | assumption | (intro e; exact absurd e.symm (by assumption))) (look_tl (by first | assumption | (intro e; exact absurd e.symm (by assumption))) look_hd))), ?_⟩, ?_⟩
          | exact .nil _ _
          | exact .rd _ _ _
          | refine LeL.cons ?_ ?_
          | exact LeL.nil
          | refine Le1.of_eq ?_))
          all_goals (rw [hcs, hst]; rfl)
        · (repeat' (first
          | exact trivial
          | exact LeL.refl _
          | exact .refl _
          | refine ⟨⟨_, rfl, ?_⟩, ?_⟩
          | refine ⟨⟨_, look_hd, ?_⟩, ?_⟩
          | refine ⟨⟨_, look_tl (by first | assumption | (intro e; exact absurd e.symm (by assumption))) look_hd, ?_⟩, ?_⟩
          | refine ⟨⟨_, look_tl (by first | assumption | (intro e; exact absurd e.symm (by assumption))) (look_tl (by first | assumption | (intro e; exact absurd e.symm (by assumption))) look_hd), ?_⟩, ?_⟩
          | refine ⟨⟨_, look_tl (by first | assumption | (intro e; exact absurd e.symm (by assumption))) (look_tl (by first | assumption | (intro e; exact absurd e.symm (by assumption))) (look_tl (by first | assumption | (intro e; exact absurd e.symm (by assumption))) look_hd)), ?_⟩, ?_⟩
          | refine ⟨⟨_, look_tl (by first | assumption | (intro e; exact absurd e.symm (by assumption))) (look_tl (by first | assumption | (intro e; exact absurd e.symm (by assumption))) (look_tl (by first | assumption | (intro e; exact absurd e.symm (by assumption))) (look_tl (by first | assumption | (intro e; exact absurd e.symm (by assumption))) look_hd))), ?_⟩, ?_⟩
          | exact .nil _ _
          | exact .rd _ _ _
          | refine LeL.cons ?_ ?_
          | exact LeL.nil
          | refine Le1.of_eq ?_))
end Go.Proofs.Ytgidmcfnnmheoaa
