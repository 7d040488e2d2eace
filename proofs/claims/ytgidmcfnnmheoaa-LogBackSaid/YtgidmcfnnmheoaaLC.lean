-- slim: written by gen/slim.py from XLC.lean.tpl
/- Pages of a log: how much a page has left, noughts, texts cut; the reference's sum: walked over abstract values. -/
import Derived.Test.YtgidmcfnnmheoaaLB
import Derived.Test.YtgidmcfnnmheoaaLS
namespace Go.Proofs.Ytgidmcfnnmheoaa
open Go.RowKit P
set_option linter.unusedSimpArgs false
set_option linter.unusedVariables false
attribute [local irreducible] AS.nf OpV ARun Stk QSem QSemA ACalls EffOp AppOk SrcOk Awp Aops
set_option maxHeartbeats 4000000

theorem opv_bytes_rows {P : Program} {T : Tys P} {σ : AS} {dd : Option Tmp} {t u ty e : TypeId} {x : Operand} {pos : String} {af : Array Edge} {g : Option (Nat × Bool)} {o : Bool} {R : List (List AV)} (L : List UInt8) (hx : opV σ x = some (.sl o 1 R)) (hR : R = byteA L) (ht : look T.ty t = some (.slice e)) (he : look T.ty e = some (.int .u8)) (hu : look T.ty u = some .string) :
    OpV P ⟨dd, .convert t u x, ty, pos, af, g⟩ σ (.v (.string (mkB L))) := by
  subst hR
  exact opv_bytes_str hx ht he hu
theorem byt_nat (n : Nat) : (byt n).toNat = n % 256 := by
  unfold byt
  rw [UInt8.toNat_ofNat']
theorem repeatL_zero (n : Nat) : Lib.repeatL [0] n = zerosB n := by
  unfold zerosB
  induction n with
  | zero => rfl
  | succ n ih => simp [Lib.repeatL] at ih ⊢; simp [ih, List.replicate_succ]
theorem repeat_a (n : Nat) (h : n ≤ 6) : ACalls Try.prog 31 [.v (.string (mkB [0])), .v (.int .i64 n)] [] (fun out H => out = .ret (.v (.string (mkB (zerosB n)))) ∧ H = []) :=
  acalls_of_calls (vs := [.string (mkB [0]), .int .i64 n]) ⟨_, Try.func31, by kernel_rfl, rfl⟩ fun w => (Try.strings_Repeat (mkB [0]) n w (by omega) (by show 1 * n ≤ _; omega)).mono fun e w' h => by
    obtain ⟨h1, h2⟩ := h
    have h3 : Lib.repeatL (mkB [0]).data.toList n = zerosB n := repeatL_zero n
    rw [h3] at h1
    exact ⟨h1, h2⟩
set_option maxRecDepth 100000 in
theorem left_a (n : Nat) : ACalls Try.prog 23 [.v (.int .i64 n)] [] (fun out H => out = .ret (.v (.int .i64 ((128 - n % 128 : Nat)))) ∧ H = []) := by
  refine acalls_enter _ 6 [.tmp 2] Try.func23 (by kernel_rfl) rfl rfl rfl rfl ?_
  dsimp only [slotsOf]
  repeat (first
    | ((first | apply ar_un | apply stk_un); (next => (first | (simp only [go_sem, Nat.reduceBEq, Nat.reduceEqDiff, reduceIte, reduceCtorEq, String.reduceEq, Nat.reduceAdd, Int.reduceToNat]; exact rfl) | exact rfl)))
    | (first
     | refine ar_unwantedN rfl rfl rfl rfl ?_
     | refine ar_unwantedU rfl rfl rfl rfl ?_
     | (apply ar_opN rfl rfl rfl rfl; (next => (first
      | exact opv_pickt_cb rfl rfl
      | exact opv_pickf_cb rfl rfl
      | exact opv_pickt rfl rfl rfl
      | exact opv_pickf rfl rfl rfl
      | exact opv_len_str (T := TT) rfl rfl rfl
      | exact opv_len_sl (T := TT) rfl rfl rfl
      | fail)))
     | fail)
    | (refine arC .ret ?_; refine ar_retM0 [2] ?_)
    | (apply ar_op' rfl rfl rfl rfl; (next => (first
     | (refine evalE_ok (T := TT) rfl ?_; (first | exact trivial | omega | (simp [NFL] <;> omega)))
     | (apply opk ⟨_, .move _, _, _, _, _⟩; first | exact opv_const (cst_plain _) (.inl rfl) | fail)
     | (apply opk ⟨_, .binOp .sub _ _ _ _, _, _, _, _⟩; first | exact opv_bin rfl rfl rfl | fail)
     | (apply opk ⟨_, .binOp .rem _ _ _ _, _, _, _, _⟩; first | (refine opv_rem rfl rfl rfl ?_; (next => (first | omega | (simp [NFL] <;> omega)))) | fail)
     | fail)))
    | (refine arO _ ?_; first
     | (refine arO ⟨_, .move _, _, _, _, _⟩ ?_; first | refine ar_move_sl rfl rfl rfl rfl ?_ | fail)
     | (refine arO ⟨_, .assign _, _, _, _, _⟩ ?_; first
      | refine ar_assign_sl rfl rfl rfl rfl ?_
      | refine ar_op rfl rfl rfl rfl (opv_const (cst_plain _) (.inr rfl)) ?_
      | fail)
     | fail)
    | refine ar_seq ?_
    | (refine arE ?_; refine ar_endM [0, 2] rfl ?_)
    | refine ar_region ?_
    | refine ar_block ?_
    | refine ar_skip ?_
    | refine ar_blk ?_
    | refine ar_dedup rfl ?_
    | (refine arC (.cond _ _ _) ?_; first
     | (refine ar_cond_true rfl ?_ ?_; (next => (first | rfl | (simp only [decide_eq_true_eq, beq_iff_eq, bne_iff_ne, ge_iff_le, gt_iff_lt, ne_eq, Bool.not_eq_true', decide_eq_false_iff_not]; omega))))
     | (refine ar_cond_false rfl ?_ ?_; (next => (first
      | rfl
      | (simp only [decide_eq_false_iff_not, beq_eq_false_iff_ne, bne_eq_false_iff_eq, ge_iff_le, gt_iff_lt, ne_eq, Bool.not_eq_false', decide_eq_true_eq]; omega))))
     | fail)
    | refine ar_exit ?_
    | refine stk_b_hit ?_
    | refine stk_b_miss rfl ?_
    | refine stk_c_exit ?_
    | refine stk_l_exit ?_
    | (refine arC .ret ?_; refine ar_retM [2] ?_)
    | refine stk_c_ret ?_
    | refine stk_b_ret ?_
    | refine stk_l_ret ?_
    | refine stk_nil ?_
    | fail)
  first | exact qret_mk rfl (⟨congrArg (fun q => AOut.ret (.v (.int .i64 q))) (by omega), rfl⟩) | (trace_state; exact qret_mk rfl (⟨congrArg (fun q => AOut.ret (.v (.int .i64 q))) (by omega), rfl⟩))
set_option maxRecDepth 100000 in
theorem padding_a (n : Nat) (hn : n ≤ 140737488355328) : ACalls Try.prog 21 [.v (.int .i64 n)] [] (fun out H => out = .ret (.v (.string (mkB (zerosB (padN n))))) ∧ H = []) := by
  refine acalls_enter _ 10 [.tmp 2] Try.func21 (by kernel_rfl) rfl rfl rfl rfl ?_
  dsimp only [slotsOf]
  by_cases h : 121 < n % 128
  · have hp : padN n = 128 - n % 128 := by unfold padN; rw [if_pos h]
    rw [hp]
    repeat (first
      | ((first | apply ar_un | apply stk_un); (next => (first | (simp only [go_sem, Nat.reduceBEq, Nat.reduceEqDiff, reduceIte, reduceCtorEq, String.reduceEq, Nat.reduceAdd, Int.reduceToNat]; exact rfl) | exact rfl)))
      | (first
       | refine ar_unwantedN rfl rfl rfl rfl ?_
       | refine ar_unwantedU rfl rfl rfl rfl ?_
       | (apply ar_opN rfl rfl rfl rfl; (next => (first
        | exact opv_pickt_cb rfl rfl
        | exact opv_pickf_cb rfl rfl
        | exact opv_pickt rfl rfl rfl
        | exact opv_pickf rfl rfl rfl
        | exact opv_len_str (T := TT) rfl rfl rfl
        | exact opv_len_sl (T := TT) rfl rfl rfl
        | fail)))
       | fail)
      | (refine arC .ret ?_; refine ar_retM0 [2] ?_)
      | (apply ar_op' rfl rfl rfl rfl; (next => (first
       | (refine evalE_ok (T := TT) rfl ?_; (first | exact trivial | omega | (simp [NFL] <;> omega)))
       | (apply opk ⟨_, .move _, _, _, _, _⟩; first | exact opv_const (cst_plain _) (.inl rfl) | fail)
       | (apply opk ⟨_, .binOp .lss _ _ _ _, _, _, _, _⟩; first
        | (refine opv_cmp_t rfl rfl rfl ?_; (next => (first | exact rfl | (simp only [cmpP]; omega) | (simp only [cmpP]; simp [NFL] <;> omega))))
        | (refine opv_cmp_f rfl rfl rfl ?_; (next => (first | exact rfl | (simp only [cmpP]; omega) | (simp only [cmpP]; simp [NFL] <;> omega))))
        | exact opv_bin rfl rfl rfl
        | exact opv_str rfl rfl rfl
        | fail)
       | fail)))
      | (refine arO _ ?_; first
       | (refine arO ⟨_, .move _, _, _, _, _⟩ ?_; first | refine ar_move_sl rfl rfl rfl rfl ?_ | fail)
       | (refine arO ⟨_, .assign _, _, _, _, _⟩ ?_; first
        | refine ar_assign_sl rfl rfl rfl rfl ?_
        | refine ar_op rfl rfl rfl rfl (opv_const (cst_plain _) (.inr rfl)) ?_
        | fail)
       | (refine arO ⟨_, .call { callee := .value _, args := _, argTypes := _ }, _, _, _, _⟩ ?_; first
        | (apply ar_callM0 rfl (left_a n) rfl rfl; (next => (repeat (first
         | exact PArgs.nil
         | (apply PArgs.cons; (next => (first
          | exact PArg.own rfl rfl
          | exact PArg.rd rfl (Le1.refl _) rfl
          | exact PArg.rd rfl (Le1.rd _ _ _) rfl
          | exact PArg.nil rfl
          | exact PArg.rd rfl (Le1.nil _ _) rfl
          | (refine PArg.rd rfl (Le1.of_eq ?_) rfl; congr 2 <;> (first | omega | (simp; omega) | (simp [NFL]; done))))))))); (next => rfl); (next => rfl); rintro _ _ ⟨rfl, rfl⟩; refine ⟨_, rfl, ?_⟩)
        | (apply ar_callM0 rfl (repeat_a (128 - n % 128) (by omega)) rfl rfl; (next => (repeat (first
         | exact PArgs.nil
         | (apply PArgs.cons; (next => (first
          | exact PArg.own rfl rfl
          | exact PArg.rd rfl (Le1.refl _) rfl
          | exact PArg.rd rfl (Le1.rd _ _ _) rfl
          | exact PArg.nil rfl
          | exact PArg.rd rfl (Le1.nil _ _) rfl
          | (refine PArg.rd rfl (Le1.of_eq ?_) rfl; congr 2 <;> (first | omega | (simp; omega) | (simp [NFL]; done))))))))); (next => rfl); (next => rfl); rintro _ _ ⟨rfl, rfl⟩; refine ⟨_, rfl, ?_⟩)
        | fail)
       | fail)
      | refine ar_seq ?_
      | (refine arE ?_; refine ar_endM [0, 2, 3, 7] rfl ?_)
      | refine ar_region ?_
      | refine ar_block ?_
      | refine ar_skip ?_
      | refine ar_blk ?_
      | refine ar_dedup rfl ?_
      | (refine arC (.cond _ _ _) ?_; first
       | (refine ar_cond_true rfl ?_ ?_; (next => (first | rfl | (simp only [decide_eq_true_eq, beq_iff_eq, bne_iff_ne, ge_iff_le, gt_iff_lt, ne_eq, Bool.not_eq_true', decide_eq_false_iff_not]; omega))))
       | (refine ar_cond_false rfl ?_ ?_; (next => (first
        | rfl
        | (simp only [decide_eq_false_iff_not, beq_eq_false_iff_ne, bne_eq_false_iff_eq, ge_iff_le, gt_iff_lt, ne_eq, Bool.not_eq_false', decide_eq_true_eq]; omega))))
       | fail)
      | refine ar_exit ?_
      | refine stk_b_hit ?_
      | refine stk_b_miss rfl ?_
      | refine stk_c_exit ?_
      | refine stk_l_exit ?_
      | (refine arC .ret ?_; refine ar_retM [2] ?_)
      | refine stk_c_ret ?_
      | refine stk_b_ret ?_
      | refine stk_l_ret ?_
      | refine stk_nil ?_
      | fail)
    first | exact qret_mk rfl (⟨rfl, rfl⟩) | (trace_state; exact qret_mk rfl (⟨rfl, rfl⟩))
  · have hp : padN n = 0 := by unfold padN; rw [if_neg h]
    rw [hp]
    repeat (first
      | ((first | apply ar_un | apply stk_un); (next => (first | (simp only [go_sem, Nat.reduceBEq, Nat.reduceEqDiff, reduceIte, reduceCtorEq, String.reduceEq, Nat.reduceAdd, Int.reduceToNat]; exact rfl) | exact rfl)))
      | (first
       | refine ar_unwantedN rfl rfl rfl rfl ?_
       | refine ar_unwantedU rfl rfl rfl rfl ?_
       | (apply ar_opN rfl rfl rfl rfl; (next => (first
        | exact opv_pickt_cb rfl rfl
        | exact opv_pickf_cb rfl rfl
        | exact opv_pickt rfl rfl rfl
        | exact opv_pickf rfl rfl rfl
        | exact opv_len_str (T := TT) rfl rfl rfl
        | exact opv_len_sl (T := TT) rfl rfl rfl
        | fail)))
       | fail)
      | (refine arC .ret ?_; refine ar_retM0 [2] ?_)
      | (apply ar_op' rfl rfl rfl rfl; (next => (first
       | (refine evalE_ok (T := TT) rfl ?_; (first | exact trivial | omega | (simp [NFL] <;> omega)))
       | (apply opk ⟨_, .move _, _, _, _, _⟩; first | exact opv_const (cst_plain _) (.inl rfl) | fail)
       | (apply opk ⟨_, .binOp .lss _ _ _ _, _, _, _, _⟩; first
        | (refine opv_cmp_t rfl rfl rfl ?_; (next => (first | exact rfl | (simp only [cmpP]; omega) | (simp only [cmpP]; simp [NFL] <;> omega))))
        | (refine opv_cmp_f rfl rfl rfl ?_; (next => (first | exact rfl | (simp only [cmpP]; omega) | (simp only [cmpP]; simp [NFL] <;> omega))))
        | exact opv_bin rfl rfl rfl
        | exact opv_str rfl rfl rfl
        | fail)
       | fail)))
      | (refine arO _ ?_; first
       | (refine arO ⟨_, .move _, _, _, _, _⟩ ?_; first | refine ar_move_sl rfl rfl rfl rfl ?_ | fail)
       | (refine arO ⟨_, .assign _, _, _, _, _⟩ ?_; first
        | refine ar_assign_sl rfl rfl rfl rfl ?_
        | refine ar_op rfl rfl rfl rfl (opv_const (cst_plain _) (.inr rfl)) ?_
        | fail)
       | (refine arO ⟨_, .call { callee := .value _, args := _, argTypes := _ }, _, _, _, _⟩ ?_; first
        | (apply ar_callM0 rfl (left_a n) rfl rfl; (next => (repeat (first
         | exact PArgs.nil
         | (apply PArgs.cons; (next => (first
          | exact PArg.own rfl rfl
          | exact PArg.rd rfl (Le1.refl _) rfl
          | exact PArg.rd rfl (Le1.rd _ _ _) rfl
          | exact PArg.nil rfl
          | exact PArg.rd rfl (Le1.nil _ _) rfl
          | (refine PArg.rd rfl (Le1.of_eq ?_) rfl; congr 2 <;> (first | omega | (simp; omega) | (simp [NFL]; done))))))))); (next => rfl); (next => rfl); rintro _ _ ⟨rfl, rfl⟩; refine ⟨_, rfl, ?_⟩)
        | fail)
       | fail)
      | refine ar_seq ?_
      | (refine arE ?_; refine ar_endM [0, 2, 3, 7] rfl ?_)
      | refine ar_region ?_
      | refine ar_block ?_
      | refine ar_skip ?_
      | refine ar_blk ?_
      | refine ar_dedup rfl ?_
      | (refine arC (.cond _ _ _) ?_; first
       | (refine ar_cond_true rfl ?_ ?_; (next => (first | rfl | (simp only [decide_eq_true_eq, beq_iff_eq, bne_iff_ne, ge_iff_le, gt_iff_lt, ne_eq, Bool.not_eq_true', decide_eq_false_iff_not]; omega))))
       | (refine ar_cond_false rfl ?_ ?_; (next => (first
        | rfl
        | (simp only [decide_eq_false_iff_not, beq_eq_false_iff_ne, bne_eq_false_iff_eq, ge_iff_le, gt_iff_lt, ne_eq, Bool.not_eq_false', decide_eq_true_eq]; omega))))
       | fail)
      | refine ar_exit ?_
      | refine stk_b_hit ?_
      | refine stk_b_miss rfl ?_
      | refine stk_c_exit ?_
      | refine stk_l_exit ?_
      | (refine arC .ret ?_; refine ar_retM [2] ?_)
      | refine stk_c_ret ?_
      | refine stk_b_ret ?_
      | refine stk_l_ret ?_
      | refine stk_nil ?_
      | fail)
    first | exact qret_mk rfl (⟨rfl, rfl⟩) | (trace_state; exact qret_mk rfl (⟨rfl, rfl⟩))
end Go.Proofs.Ytgidmcfnnmheoaa
