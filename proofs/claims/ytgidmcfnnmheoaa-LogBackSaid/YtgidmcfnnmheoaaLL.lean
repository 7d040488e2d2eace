-- slim: written by gen/slim.py from XLL.lean.tpl
/- The program's Read, and what must be in any case, walked over abstract values; the walk of the law LogSums. -/
import Derived.Test.YtgidmcfnnmheoaaLH
import Derived.Test.YtgidmcfnnmheoaaLK
namespace Go.Proofs.Ytgidmcfnnmheoaa
open Go.RowKit P
set_option linter.unusedSimpArgs false
set_option linter.unusedVariables false
attribute [local irreducible] AS.nf OpV ARun Stk QSem QSemA ACalls EffOp AppOk SrcOk Awp Aops
set_option maxHeartbeats 16000000

theorem rdB_len (s : List UInt8) : (rdB s).ends.length = (rdB s).out.length ∧ (rdB s).out.length ≤ s.length := by
  have key : ∀ z, Steps s st0 z → z.ends.length = z.out.length ∧ z.out.length ≤ z.at_ := by
    intro z h
    induction h with
    | refl => exact ⟨rfl, Nat.le_refl _⟩
    | tail _ e ih =>
      obtain ⟨k, t, hp, rfl⟩ := rdStep_inv e
      unfold nextSt
      split <;> simp <;> omega
  obtain ⟨h1, h2⟩ := key _ (rdB_steps s).1
  have h3 := (rdB_steps s).1.bound (Nat.zero_le _)
  exact ⟨h1, by omega⟩
theorem lastN_get {l : List Nat} (h : l ≠ []) : l[l.length - 1]? = some (lastN l) := by
  rw [lastN, List.getLastD_eq_getLast?, ← List.getLast?_eq_getElem?]
  cases l with
  | nil => exact absurd rfl h
  | cons a l => simp [List.getLast?_cons]
set_option maxRecDepth 100000 in
theorem read_none (s : List UInt8) (hs : s.length ≤ 1000000000000) (ho : (rdB s).out = []) : ACalls Try.prog 14 [.v (.string (mkB s))] [] (fun out H => out = .ret (.tu [.v (.slice none 0 0), .v (.int .i64 0)]) ∧ H = []) := by
  have hr := read_a s hs
  unfold rdU at hr
  rw [ho] at hr
  have hlen := (rdB_len s).1
  rw [ho] at hlen
  have he : (rdB s).ends = [] := List.length_eq_zero_iff.1 hlen
  rw [he] at hr
  refine acalls_enter _ 21 [.tmp 2, .tmp 3] Try.func14 (by kernel_rfl) rfl rfl rfl rfl ?_
  dsimp only [slotsOf]
  repeat (first
    | ((first | apply ar_un | apply stk_un); (next => (first | (simp only [go_sem, Nat.reduceBEq, Nat.reduceEqDiff, reduceIte, reduceCtorEq, String.reduceEq, Nat.reduceAdd, Int.reduceToNat]; exact rfl) | exact rfl)))
    | (first
     | refine ar_unwantedN rfl rfl rfl rfl ?_
     | refine ar_unwantedU rfl rfl rfl rfl ?_
     | (apply ar_opN rfl rfl rfl rfl; (next => (first
      | exact opv_pickt_cb rfl rfl
      | exact opv_pickf_cb rfl rfl
      | exact opv_pickt rfl rfl rfl
      | exact opv_pickf rfl rfl rfl
      | exact opv_len_str (T := TT) rfl rfl rfl
      | exact opv_len_sl (T := TT) rfl rfl rfl
      | fail)))
     | fail)
    | (refine arC .ret ?_; refine ar_retM0 [2, 3] ?_)
    | ((first | apply ar_op' rfl rfl rfl rfl | apply q_op rfl rfl rfl); (next => (first
     | (refine evalE_ok (T := TT) rfl ?_; (first | exact trivial | omega | (simp [NFL] <;> omega)))
     | (apply opk ⟨_, .move _, _, _, _, _⟩; first | exact opv_const (cst_plain _) (.inl rfl) | fail)
     | (apply opk ⟨_, .binOp .sub _ _ _ _, _, _, _, _⟩; first | exact opv_bin rfl rfl rfl | fail)
     | (apply opk ⟨_, .binOp .eql _ _ _ _, _, _, _, _⟩; first
      | (refine opv_cmp_t rfl rfl rfl ?_; (next => (first | exact rfl | (simp only [cmpP]; omega) | (simp only [cmpP]; simp [NFL] <;> omega))))
      | (refine opv_cmp_f rfl rfl rfl ?_; (next => (first | exact rfl | (simp only [cmpP]; omega) | (simp only [cmpP]; simp [NFL] <;> omega))))
      | exact opv_bin rfl rfl rfl
      | (refine opv_seq_t rfl rfl rfl ?_; (next => (first | rfl | assumption)))
      | (refine opv_seq_f rfl rfl rfl ?_; (next => (first | rfl | assumption)))
      | exact opv_str rfl rfl rfl
      | fail)
     | (apply opk ⟨_, .call { callee := .builtin .len, args := _, argTypes := _ }, _, _, _, _⟩; first
      | exact opv_len_str (T := TT) rfl rfl rfl
      | exact opv_len_sl (T := TT) rfl rfl rfl
      | exact opv_len_nil (T := TT) rfl rfl rfl
      | fail)
     | (apply opk ⟨_, .indexAddr _ _ _, _, _, _, _⟩; first
      | (refine opv_indexaddr_byte (T := TT) rfl rfl rfl rfl ?_ ?_; (next => (first | omega | (simp [NFL] <;> omega))); (next => (first | omega | (simp [NFL] <;> omega))))
      | (refine opv_indexaddr (T := TT) rfl rfl rfl rfl ?_ ?_; (next => (first | omega | (simp [NFL] <;> omega))); (next => (first | omega | (simp [NFL] <;> omega))))
      | fail)
     | (apply opk ⟨_, .load _ _, _, _, _, _⟩; first | exact opv_load_el (T := TT) rfl rfl rfl | exact opv_load_els (T := TT) rfl rfl rfl rfl | fail)
     | fail)))
    | (refine arO _ ?_; first
     | (refine arO ⟨_, .move _, _, _, _, _⟩ ?_; first | refine ar_move_sl rfl rfl rfl rfl ?_ | fail)
     | (refine arO ⟨_, .assign _, _, _, _, _⟩ ?_; first
      | refine ar_assign_sl rfl rfl rfl rfl ?_
      | refine ar_op rfl rfl rfl rfl (opv_const (cst_plain _) (.inr rfl)) ?_
      | fail)
     | (refine arO ⟨_, .load _ _, _, _, _, _⟩ ?_; first
      | refine ar_load_own (T := TT) rfl rfl rfl rfl look_hd rfl rfl rfl rfl ?_
      | (refine ar_load_own (T := TT) rfl rfl rfl rfl (look_tl ?_ look_hd) rfl rfl rfl rfl ?_; (next => (first | assumption | (intro e; exact absurd e.symm (by assumption)))))
      | (refine ar_load_own (T := TT) rfl rfl rfl rfl (look_tl ?_ (look_tl ?_ look_hd)) rfl rfl rfl rfl ?_; (next => (first | assumption | (intro e; exact absurd e.symm (by assumption)))); (next => (first | assumption | (intro e; exact absurd e.symm (by assumption)))))
      | fail)
     | (refine arO ⟨_, .call { callee := .value _, args := _, argTypes := _ }, _, _, _, _⟩ ?_; first
      | (apply ar_callM0 rfl (hr) rfl rfl; (next => (repeat (first
       | exact PArgs.nil
       | (apply PArgs.cons; (next => (first
        | exact PArg.own rfl rfl
        | exact PArg.rd rfl (Le1.refl _) rfl
        | exact PArg.rd rfl (Le1.rd _ _ _) rfl
        | exact PArg.nil rfl
        | exact PArg.rd rfl (Le1.nil _ _) rfl
        | (refine PArg.rd rfl (Le1.of_eq ?_) rfl; congr 2 <;> (first | omega | (simp; omega) | (simp [NFL]; done))))))))); (next => rfl); (next => rfl); rintro _ _ ⟨rfl, rfl⟩; refine ⟨_, rfl, ?_⟩)
      | fail)
     | fail)
    | (apply q_op rfl rfl rfl; (next => (first
     | exact opv_move_rd rfl (.inl rfl)
     | exact opv_move_rd rfl (.inr rfl)
     | exact opv_assign_const rfl
     | (apply opv_load_box (T := TT) rfl; (next => (first
      | rfl
      | exact look_hd
      | assumption
      | ((repeat (first | exact look_hd | assumption | (apply look_tl; (next => (first | assumption | (intro e; exact absurd e.symm (by assumption)) | fail))) | fail)); done)
      | fail)); (next => rfl); (next => rfl); (next => rfl); (next => rfl))
     | fail)))
    | refine ar_seq ?_
    | (refine arE ?_; refine ar_endM [0, 2, 3, 4, 5, 13] rfl ?_)
    | refine ar_region ?_
    | refine ar_block ?_
    | refine ar_skip ?_
    | refine ar_blk ?_
    | refine ar_dedup rfl ?_
    | (refine arC (.cond _ _ _) ?_; first
     | (refine ar_cond_true rfl ?_ ?_; (next => (first | rfl | (simp only [decide_eq_true_eq, beq_iff_eq, bne_iff_ne, ge_iff_le, gt_iff_lt, ne_eq, Bool.not_eq_true', decide_eq_false_iff_not]; omega))))
     | (refine ar_cond_false rfl ?_ ?_; (next => (first
      | rfl
      | (simp only [decide_eq_false_iff_not, beq_eq_false_iff_ne, bne_eq_false_iff_eq, ge_iff_le, gt_iff_lt, ne_eq, Bool.not_eq_false', decide_eq_true_eq]; omega))))
     | fail)
    | refine ar_exit ?_
    | refine stk_b_hit ?_
    | refine stk_b_miss rfl ?_
    | refine stk_c_exit ?_
    | refine stk_l_exit ?_
    | (refine arC .ret ?_; refine ar_retM [2, 3] ?_)
    | refine stk_c_ret ?_
    | refine stk_b_ret ?_
    | refine stk_l_ret ?_
    | refine stk_nil ?_
    | (refine arC (.region _ _ true) ?_; refine ar_nop (ar_draw mixed (by kernel_rfl) rfl ?_))
    | refine q_unwanted rfl rfl rfl ?_
    | (refine q_nil ?_; refine ar_endM [0, 2, 3, 4, 5, 13] rfl ?_)
    | fail)
  first | exact qret_mk rfl (⟨rfl, rfl⟩) | (trace_state; exact qret_mk rfl (⟨rfl, rfl⟩))
set_option maxRecDepth 100000 in
theorem read_some (s : List UInt8) (hs : s.length ≤ 1000000000000) (o : List (List UInt8)) (n : Nat) (ho : (rdB s).out = o) (hne : o ≠ []) (hn : lastN (rdB s).ends = n) : ACalls Try.prog 14 [.v (.string (mkB s))] [] (fun out H => out = .ret (.tu [.sl false 1 (o.map txRow), .v (.int .i64 n)]) ∧ H = []) := by
  have hr := read_a s hs
  unfold rdU at hr
  obtain ⟨h1, h2⟩ := rdB_len s
  rw [ho] at hr h1 h2
  have hp : 0 < o.length := List.length_pos_iff.2 hne
  have hg := lastN_get (l := (rdB s).ends) (fun e => by rw [e] at h1; simp at h1; omega)
  rw [hn] at hg
  have hm : (o.map txRow).length = o.length := List.length_map ..
  have hm2 : ((rdB s).ends.map nmRow).length = (rdB s).ends.length := List.length_map ..
  generalize (rdB s).ends = E at hr h1 hg hm2
  refine acalls_enter _ 21 [.tmp 2, .tmp 3] Try.func14 (by kernel_rfl) rfl rfl rfl rfl ?_
  dsimp only [slotsOf]
  repeat (first
    | ((first | apply ar_un | apply stk_un); (next => (first | (simp only [go_sem, Nat.reduceBEq, Nat.reduceEqDiff, reduceIte, reduceCtorEq, String.reduceEq, Nat.reduceAdd, Int.reduceToNat]; exact rfl) | exact rfl)))
    | (first
     | refine ar_unwantedN rfl rfl rfl rfl ?_
     | refine ar_unwantedU rfl rfl rfl rfl ?_
     | (apply ar_opN rfl rfl rfl rfl; (next => (first
      | exact opv_pickt_cb rfl rfl
      | exact opv_pickf_cb rfl rfl
      | exact opv_pickt rfl rfl rfl
      | exact opv_pickf rfl rfl rfl
      | exact opv_len_str (T := TT) rfl rfl rfl
      | exact opv_len_sl (T := TT) rfl rfl rfl
      | fail)))
     | fail)
    | (refine arC .ret ?_; refine ar_retM0 [2, 3] ?_)
    | ((first | apply ar_op' rfl rfl rfl rfl | apply q_op rfl rfl rfl); (next => exact opv_indexaddr_tx (T := TT) nmRow E (E.length - 1) n hg rfl rfl (by omega) rfl rfl))
    | ((first | apply ar_op' rfl rfl rfl rfl | apply q_op rfl rfl rfl); (next => (first
     | (refine evalE_ok (T := TT) rfl ?_; (first | exact trivial | omega | (simp [NFL] <;> omega)))
     | (apply opk ⟨_, .move _, _, _, _, _⟩; first | exact opv_const (cst_plain _) (.inl rfl) | fail)
     | (apply opk ⟨_, .binOp .sub _ _ _ _, _, _, _, _⟩; first | exact opv_bin rfl rfl rfl | fail)
     | (apply opk ⟨_, .binOp .eql _ _ _ _, _, _, _, _⟩; first
      | (refine opv_cmp_t rfl rfl rfl ?_; (next => (first | exact rfl | (simp only [cmpP]; omega) | (simp only [cmpP]; simp [NFL] <;> omega))))
      | (refine opv_cmp_f rfl rfl rfl ?_; (next => (first | exact rfl | (simp only [cmpP]; omega) | (simp only [cmpP]; simp [NFL] <;> omega))))
      | exact opv_bin rfl rfl rfl
      | (refine opv_seq_t rfl rfl rfl ?_; (next => (first | rfl | assumption)))
      | (refine opv_seq_f rfl rfl rfl ?_; (next => (first | rfl | assumption)))
      | exact opv_str rfl rfl rfl
      | fail)
     | (apply opk ⟨_, .call { callee := .builtin .len, args := _, argTypes := _ }, _, _, _, _⟩; first
      | exact opv_len_str (T := TT) rfl rfl rfl
      | exact opv_len_sl (T := TT) rfl rfl rfl
      | exact opv_len_nil (T := TT) rfl rfl rfl
      | fail)
     | (apply opk ⟨_, .indexAddr _ _ _, _, _, _, _⟩; first
      | (refine opv_indexaddr_byte (T := TT) rfl rfl rfl rfl ?_ ?_; (next => (first | omega | (simp [NFL] <;> omega))); (next => (first | omega | (simp [NFL] <;> omega))))
      | (refine opv_indexaddr (T := TT) rfl rfl rfl rfl ?_ ?_; (next => (first | omega | (simp [NFL] <;> omega))); (next => (first | omega | (simp [NFL] <;> omega))))
      | fail)
     | (apply opk ⟨_, .load _ _, _, _, _, _⟩; first | exact opv_load_el (T := TT) rfl rfl rfl | exact opv_load_els (T := TT) rfl rfl rfl rfl | fail)
     | fail)))
    | (refine arO _ ?_; first
     | (refine arO ⟨_, .move _, _, _, _, _⟩ ?_; first | refine ar_move_sl rfl rfl rfl rfl ?_ | fail)
     | (refine arO ⟨_, .assign _, _, _, _, _⟩ ?_; first
      | refine ar_assign_sl rfl rfl rfl rfl ?_
      | refine ar_op rfl rfl rfl rfl (opv_const (cst_plain _) (.inr rfl)) ?_
      | fail)
     | (refine arO ⟨_, .load _ _, _, _, _, _⟩ ?_; first
      | refine ar_load_own (T := TT) rfl rfl rfl rfl look_hd rfl rfl rfl rfl ?_
      | (refine ar_load_own (T := TT) rfl rfl rfl rfl (look_tl ?_ look_hd) rfl rfl rfl rfl ?_; (next => (first | assumption | (intro e; exact absurd e.symm (by assumption)))))
      | (refine ar_load_own (T := TT) rfl rfl rfl rfl (look_tl ?_ (look_tl ?_ look_hd)) rfl rfl rfl rfl ?_; (next => (first | assumption | (intro e; exact absurd e.symm (by assumption)))); (next => (first | assumption | (intro e; exact absurd e.symm (by assumption)))))
      | fail)
     | (refine arO ⟨_, .call { callee := .value _, args := _, argTypes := _ }, _, _, _, _⟩ ?_; first
      | (apply ar_callM0 rfl (hr) rfl rfl; (next => (repeat (first
       | exact PArgs.nil
       | (apply PArgs.cons; (next => (first
        | exact PArg.own rfl rfl
        | exact PArg.rd rfl (Le1.refl _) rfl
        | exact PArg.rd rfl (Le1.rd _ _ _) rfl
        | exact PArg.nil rfl
        | exact PArg.rd rfl (Le1.nil _ _) rfl
        | (refine PArg.rd rfl (Le1.of_eq ?_) rfl; congr 2 <;> (first | omega | (simp; omega) | (simp [NFL]; done))))))))); (next => rfl); (next => rfl); rintro _ _ ⟨rfl, rfl⟩; refine ⟨_, rfl, ?_⟩)
      | fail)
     | fail)
    | (apply q_op rfl rfl rfl; (next => (first
     | exact opv_move_rd rfl (.inl rfl)
     | exact opv_move_rd rfl (.inr rfl)
     | exact opv_assign_const rfl
     | (apply opv_load_box (T := TT) rfl; (next => (first
      | rfl
      | exact look_hd
      | assumption
      | ((repeat (first | exact look_hd | assumption | (apply look_tl; (next => (first | assumption | (intro e; exact absurd e.symm (by assumption)) | fail))) | fail)); done)
      | fail)); (next => rfl); (next => rfl); (next => rfl); (next => rfl))
     | fail)))
    | refine ar_seq ?_
    | (refine arE ?_; refine ar_endM [0, 2, 3, 4, 5, 13] rfl ?_)
    | refine ar_region ?_
    | refine ar_block ?_
    | refine ar_skip ?_
    | refine ar_blk ?_
    | refine ar_dedup rfl ?_
    | (refine arC (.cond _ _ _) ?_; first
     | (refine ar_cond_true rfl ?_ ?_; (next => (first | rfl | (simp only [decide_eq_true_eq, beq_iff_eq, bne_iff_ne, ge_iff_le, gt_iff_lt, ne_eq, Bool.not_eq_true', decide_eq_false_iff_not]; omega))))
     | (refine ar_cond_false rfl ?_ ?_; (next => (first
      | rfl
      | (simp only [decide_eq_false_iff_not, beq_eq_false_iff_ne, bne_eq_false_iff_eq, ge_iff_le, gt_iff_lt, ne_eq, Bool.not_eq_false', decide_eq_true_eq]; omega))))
     | fail)
    | refine ar_exit ?_
    | refine stk_b_hit ?_
    | refine stk_b_miss rfl ?_
    | refine stk_c_exit ?_
    | refine stk_l_exit ?_
    | (refine arC .ret ?_; refine ar_retM [2, 3] ?_)
    | refine stk_c_ret ?_
    | refine stk_b_ret ?_
    | refine stk_l_ret ?_
    | refine stk_nil ?_
    | (refine arC (.region _ _ true) ?_; refine ar_nop (ar_draw mixed (by kernel_rfl) rfl ?_))
    | refine q_unwanted rfl rfl rfl ?_
    | (refine q_nil ?_; refine ar_endM [0, 2, 3, 4, 5, 13] rfl ?_)
    | fail)
  first | exact qret_mk rfl (⟨rfl, rfl⟩) | (trace_state; exact qret_mk rfl (⟨rfl, rfl⟩))
theorem beg_facts : ∃ g : List UInt8, g.length = 9 ∧ appendB [] [97, 98] = (g, 0) ∧ (rdB g).out = [[97, 98]] ∧ lastN (rdB g).ends = 9 := by
  have hn : rndN [] [97, 98] = 2 := by decide
  have hg : lgApp [] [97, 98] = rndL [] [97, 98] true := by
    unfold lgApp
    rw [show 2 * ([97, 98] : List UInt8).length + 2 = 5 + 1 from rfl, lgAppR_succ, if_pos (by rw [hn]; rfl)]
  have hl : (lgApp [] [97, 98]).length = 9 := by rw [hg, rndL_length, hn]; decide
  have hr := rdB_log [[97, 98]]
  have hb : logB [[97, 98]] = lgApp [] [97, 98] := rfl
  rw [hb, hl] at hr
  exact ⟨lgApp [] [97, 98], hl, by unfold appendB; rw [if_neg (by decide), if_neg (by omega)], hr.1, hr.2⟩
set_option maxRecDepth 100000 in
theorem logBegun_a : ACalls Try.prog 8 [] [] (fun out H => out = .ret (.v (.bool true)) ∧ H = []) := by
  obtain ⟨g, h1, h2, h3, h4⟩ := beg_facts
  have hap := append_a [] [97, 98] (by simp)
  rw [h2] at hap
  have hrd := read_some g (by omega) [[97, 98]] 9 h3 (by simp) h4
  have hst := sameTexts_a [[97, 98]] [[97, 98]] (by simp) (by simp)
  rw [decide_eq_true rfl] at hst
  refine acalls_enter _ 30 [.tmp 0] Try.func8 (by kernel_rfl) rfl rfl rfl rfl ?_
  dsimp only [slotsOf]
  repeat (first
    | ((first | apply ar_un | apply stk_un); (next => (first | (simp only [go_sem, Nat.reduceBEq, Nat.reduceEqDiff, reduceIte, reduceCtorEq, String.reduceEq, Nat.reduceAdd, Int.reduceToNat]; exact rfl) | exact rfl)))
    | (first
     | refine ar_unwantedN rfl rfl rfl rfl ?_
     | refine ar_unwantedU rfl rfl rfl rfl ?_
     | (apply ar_opN rfl rfl rfl rfl; (next => (first
      | exact opv_pickt_cb rfl rfl
      | exact opv_pickf_cb rfl rfl
      | exact opv_pickt rfl rfl rfl
      | exact opv_pickf rfl rfl rfl
      | exact opv_len_str (T := TT) rfl rfl rfl
      | exact opv_len_sl (T := TT) rfl rfl rfl
      | fail)))
     | fail)
    | (refine arC .ret ?_; refine ar_retM0 [0] ?_)
    | (apply ar_op' rfl rfl rfl rfl; (next => (first
     | (refine evalE_ok (T := TT) rfl ?_; (first | exact trivial | omega | (simp [NFL] <;> omega)))
     | (apply opk ⟨_, .move _, _, _, _, _⟩; first | exact opv_const (cst_plain _) (.inl rfl) | fail)
     | (apply opk ⟨_, .binOp .eql _ _ _ _, _, _, _, _⟩; first
      | (refine opv_cmp_t rfl rfl rfl ?_; (next => (first | exact rfl | (simp only [cmpP]; omega) | (simp only [cmpP]; simp [NFL] <;> omega))))
      | (refine opv_cmp_f rfl rfl rfl ?_; (next => (first | exact rfl | (simp only [cmpP]; omega) | (simp only [cmpP]; simp [NFL] <;> omega))))
      | exact opv_bin rfl rfl rfl
      | (refine opv_seq_t rfl rfl rfl ?_; (next => (first | rfl | assumption)))
      | (refine opv_seq_f rfl rfl rfl ?_; (next => (first | rfl | assumption)))
      | exact opv_str rfl rfl rfl
      | fail)
     | (apply opk ⟨_, .call { callee := .builtin .len, args := _, argTypes := _ }, _, _, _, _⟩; first
      | exact opv_len_str (T := TT) rfl rfl rfl
      | exact opv_len_sl (T := TT) rfl rfl rfl
      | exact opv_len_nil (T := TT) rfl rfl rfl
      | fail)
     | (apply opk ⟨_, .buildSlice _ _ _, _, _, _, _⟩; first | exact opv_build_slice (T := TT) rfl rfl rfl rfl rfl rfl rfl | fail)
     | (apply opk ⟨_, .pick _ _ _, _, _, _, _⟩; first
      | (refine opv_pickt rfl ?_ rfl; (next => (first | rfl | assumption)))
      | (refine opv_pickf rfl ?_ rfl; (next => (first | rfl | assumption)))
      | fail)
     | fail)))
    | (refine arO _ ?_; first
     | (refine arO ⟨_, .move _, _, _, _, _⟩ ?_; first | refine ar_move_sl rfl rfl rfl rfl ?_ | fail)
     | (refine arO ⟨_, .assign _, _, _, _, _⟩ ?_; first
      | refine ar_assign_sl rfl rfl rfl rfl ?_
      | refine ar_op rfl rfl rfl rfl (opv_const (cst_plain _) (.inr rfl)) ?_
      | fail)
     | (refine arO ⟨_, .call { callee := .value _, args := _, argTypes := _ }, _, _, _, _⟩ ?_; first
      | (apply ar_callM0 rfl (hap) rfl rfl; (next => (repeat (first
       | exact PArgs.nil
       | (apply PArgs.cons; (next => (first
        | exact PArg.own rfl rfl
        | exact PArg.rd rfl (Le1.refl _) rfl
        | exact PArg.rd rfl (Le1.rd _ _ _) rfl
        | exact PArg.nil rfl
        | exact PArg.rd rfl (Le1.nil _ _) rfl
        | (refine PArg.rd rfl (Le1.of_eq ?_) rfl; congr 2 <;> (first | omega | (simp; omega) | (simp [NFL]; done))))))))); (next => rfl); (next => rfl); rintro _ _ ⟨rfl, rfl⟩; refine ⟨_, rfl, ?_⟩)
      | (apply ar_callM0 rfl (hrd) rfl rfl; (next => (repeat (first
       | exact PArgs.nil
       | (apply PArgs.cons; (next => (first
        | exact PArg.own rfl rfl
        | exact PArg.rd rfl (Le1.refl _) rfl
        | exact PArg.rd rfl (Le1.rd _ _ _) rfl
        | exact PArg.nil rfl
        | exact PArg.rd rfl (Le1.nil _ _) rfl
        | (refine PArg.rd rfl (Le1.of_eq ?_) rfl; congr 2 <;> (first | omega | (simp; omega) | (simp [NFL]; done))))))))); (next => rfl); (next => rfl); rintro _ _ ⟨rfl, rfl⟩; refine ⟨_, rfl, ?_⟩)
      | (apply ar_callM0 rfl (hst) rfl rfl; (next => (repeat (first
       | exact PArgs.nil
       | (apply PArgs.cons; (next => (first
        | exact PArg.own rfl rfl
        | exact PArg.rd rfl (Le1.refl _) rfl
        | exact PArg.rd rfl (Le1.rd _ _ _) rfl
        | exact PArg.nil rfl
        | exact PArg.rd rfl (Le1.nil _ _) rfl
        | (refine PArg.rd rfl (Le1.of_eq ?_) rfl; congr 2 <;> (first | omega | (simp; omega) | (simp [NFL]; done))))))))); (next => rfl); (next => rfl); rintro _ _ ⟨rfl, rfl⟩; refine ⟨_, rfl, ?_⟩)
      | fail)
     | fail)
    | refine ar_unwanted' rfl rfl rfl rfl ?_
    | refine ar_seq ?_
    | (refine arE ?_; refine ar_endM [0, 1, 2, 3, 4] rfl ?_)
    | refine ar_region ?_
    | refine ar_block ?_
    | refine ar_skip ?_
    | refine ar_blk ?_
    | refine ar_dedup rfl ?_
    | (refine arC (.cond _ _ _) ?_; first
     | (refine ar_cond_true rfl ?_ ?_; (next => (first | rfl | (simp only [decide_eq_true_eq, beq_iff_eq, bne_iff_ne, ge_iff_le, gt_iff_lt, ne_eq, Bool.not_eq_true', decide_eq_false_iff_not]; omega))))
     | (refine ar_cond_false rfl ?_ ?_; (next => (first
      | rfl
      | (simp only [decide_eq_false_iff_not, beq_eq_false_iff_ne, bne_eq_false_iff_eq, ge_iff_le, gt_iff_lt, ne_eq, Bool.not_eq_false', decide_eq_true_eq]; omega))))
     | fail)
    | refine ar_exit ?_
    | refine stk_b_hit ?_
    | refine stk_b_miss rfl ?_
    | refine stk_c_exit ?_
    | refine stk_l_exit ?_
    | (refine arC .ret ?_; refine ar_retM [0] ?_)
    | refine stk_c_ret ?_
    | refine stk_b_ret ?_
    | refine stk_l_ret ?_
    | refine stk_nil ?_
    | fail)
  first | exact qret_mk rfl (⟨rfl, rfl⟩) | (trace_state; exact qret_mk rfl (⟨rfl, rfl⟩))
end Go.Proofs.Ytgidmcfnnmheoaa
