/- The reference's AppendOf, walked over abstract values. -/
import Derived.Test.YtgidmcfnnmheoaaLD
import Derived.Test.YtgidmcfnnmheoaaLR
namespace Go.Proofs.Ytgidmcfnnmheoaa
open Go.RowKit P
set_option linter.unusedSimpArgs false
set_option linter.unusedVariables false
attribute [local irreducible] AS.nf OpV ARun Stk QSem QSemA ACalls EffOp AppOk SrcOk Awp Aops
set_option maxHeartbeats 4000000

theorem cutTo_i (s : List UInt8) (ni : Int) (n : Nat) (h : ni = n) (hs : s.length ≤ 140737488355328) (hn : n ≤ 140737488355328) : ACalls Try.prog 27 [.v (.string (mkB s)), .v (.int .i64 ni)] [] (fun out H => out = .ret (.v (.string (mkB (s.take n)))) ∧ H = []) := by
  subst h
  exact cutTo_a s n hs hn
theorem noughts_i (ni : Int) (n : Nat) (h : ni = n) (hn : n ≤ 140737488355328) : ACalls Try.prog 26 [.v (.int .i64 ni)] [] (fun out H => out = .ret (.v (.string (mkB (zerosB (padN n))))) ∧ H = []) := by
  subst h
  exact noughts_a n hn
/-- Where the rounds of an append stand: at its end, or on the way. -/
def appJ (F log rec : List UInt8) (begun : Bool) : Prop :=
  (begun = true ∧ rec = [] ∧ log = F) ∨ ((begun = false ∨ ¬ rec = []) ∧ ∃ n, needR log rec ≤ n ∧ lgAppR log rec (!begun) n = F)
theorem appJ_len {F log rec : List UInt8} {begun : Bool} (h : appJ F log rec begun) : log.length ≤ F.length := by
  rcases h with ⟨_, _, rfl⟩ | ⟨_, n, _, rfl⟩
  · exact Nat.le_refl _
  · obtain ⟨r, hr⟩ := lgAppR_pre log rec (!begun) n
    rw [hr]; simp
theorem appJ_next {F log rec : List UInt8} {begun : Bool} (h : (begun = false ∨ ¬ rec = []) ∧ ∃ n, needR log rec ≤ n ∧ lgAppR log rec (!begun) n = F) : appJ F (rndL log rec (!begun)) (rec.drop (rndN log rec)) true := by
  obtain ⟨_, n, h1, h2⟩ := h
  have hle : rndN log rec ≤ rec.length := Nat.min_le_left _ _
  cases n with
  | zero => unfold needR at h1; omega
  | succ n =>
    rw [lgAppR_succ] at h2
    by_cases he : rndN log rec = rec.length
    · rw [if_pos he] at h2
      exact .inl ⟨rfl, by rw [he]; exact List.drop_length .., h2⟩
    · rw [if_neg he] at h2
      refine .inr ⟨.inr fun hd => he ?_, n, by have := needR_next (first := !begun) he; omega, h2⟩
      have := congrArg List.length hd
      simp at this
      omega
theorem lgApp_eq (log rec : List UInt8) : appJ (lgApp log rec) log rec false := .inr ⟨.inl rfl, _, needR_le _ _, rfl⟩
set_option maxRecDepth 100000 in
theorem appendOf_a (log rec : List UInt8) (hl : log.length ≤ 1000000000000) : ACalls Try.prog 12 [.v (.string (mkB log)), .v (.string (mkB rec))] [] (fun out H => out = .ret (.tu [.v (.string (mkB (appendB log rec).1)), .v (.int .i64 (appendB log rec).2)]) ∧ H = []) := by
  refine acalls_enter _ 58 [.tmp 4, .tmp 5] Try.func12 (by kernel_rfl) rfl rfl rfl rfl ?_
  dsimp only [slotsOf]
  by_cases hbig : 20000 < rec.length
  · have hA : appendB log rec = ([], 2) := by unfold appendB; rw [if_pos hbig]
    rw [hA]
    repeat (first
      | ((first | apply ar_un | apply stk_un); (next => (first | (simp only [go_sem, Nat.reduceBEq, Nat.reduceEqDiff, reduceIte, reduceCtorEq, String.reduceEq, Nat.reduceAdd, Int.reduceToNat]; exact rfl) | exact rfl)))
      | (first
       | refine ar_unwantedN rfl rfl rfl rfl ?_
       | refine ar_unwantedU rfl rfl rfl rfl ?_
       | (apply ar_opN rfl rfl rfl rfl; (next => (first
        | exact opv_pickt_cb rfl rfl
        | exact opv_pickf_cb rfl rfl
        | exact opv_pickt rfl rfl rfl
        | exact opv_pickf rfl rfl rfl
        | exact opv_len_str (T := TT) rfl rfl rfl
        | exact opv_len_sl (T := TT) rfl rfl rfl
        | fail)))
       | fail)
      | (refine arC .ret ?_; refine ar_retM0 [4, 5] ?_)
      | (apply ar_op' rfl rfl rfl rfl; (next => (first
       | (refine evalE_ok (T := TT) rfl ?_; (first | exact trivial | omega | (simp [NFL] <;> omega)))
       | (apply opk ⟨_, .move _, _, _, _, _⟩; first | exact opv_const (cst_plain _) (.inl rfl) | fail)
       | (apply opk ⟨_, .binOp .add _ _ _ _, _, _, _, _⟩; first | exact opv_bin rfl rfl rfl | fail)
       | (apply opk ⟨_, .binOp .sub _ _ _ _, _, _, _, _⟩; first | exact opv_bin rfl rfl rfl | fail)
       | (apply opk ⟨_, .binOp .rem _ _ _ _, _, _, _, _⟩; first | (refine opv_rem rfl rfl rfl ?_; (next => (first | omega | (simp [NFL] <;> omega)))) | fail)
       | (apply opk ⟨_, .binOp .eql _ _ _ _, _, _, _, _⟩; first
        | (refine opv_cmp_t rfl rfl rfl ?_; (next => (first | exact rfl | (simp only [cmpP]; omega) | (simp only [cmpP]; simp [NFL] <;> omega))))
        | (refine opv_cmp_f rfl rfl rfl ?_; (next => (first | exact rfl | (simp only [cmpP]; omega) | (simp only [cmpP]; simp [NFL] <;> omega))))
        | exact opv_bin rfl rfl rfl
        | (refine opv_seq_t rfl rfl rfl ?_; (next => (first | rfl | assumption)))
        | (refine opv_seq_f rfl rfl rfl ?_; (next => (first | rfl | assumption)))
        | exact opv_str rfl rfl rfl
        | fail)
       | (apply opk ⟨_, .binOp .neq _ _ _ _, _, _, _, _⟩; first
        | (refine opv_cmp_t rfl rfl rfl ?_; (next => (first | exact rfl | (simp only [cmpP]; omega) | (simp only [cmpP]; simp [NFL] <;> omega))))
        | (refine opv_cmp_f rfl rfl rfl ?_; (next => (first | exact rfl | (simp only [cmpP]; omega) | (simp only [cmpP]; simp [NFL] <;> omega))))
        | exact opv_bin rfl rfl rfl
        | (refine opv_sne_t rfl rfl rfl ?_; (next => (first | rfl | assumption)))
        | (refine opv_sne_f rfl rfl rfl ?_; (next => (first | rfl | assumption)))
        | exact opv_str rfl rfl rfl
        | fail)
       | (apply opk ⟨_, .binOp .gtr _ _ _ _, _, _, _, _⟩; first
        | (refine opv_cmp_t rfl rfl rfl ?_; (next => (first | exact rfl | (simp only [cmpP]; omega) | (simp only [cmpP]; simp [NFL] <;> omega))))
        | (refine opv_cmp_f rfl rfl rfl ?_; (next => (first | exact rfl | (simp only [cmpP]; omega) | (simp only [cmpP]; simp [NFL] <;> omega))))
        | exact opv_bin rfl rfl rfl
        | exact opv_str rfl rfl rfl
        | fail)
       | (apply opk ⟨_, .unOp _ _ _, _, _, _, _⟩; first | exact opv_not_t rfl rfl | exact opv_not_f rfl rfl | exact opv_neg rfl rfl | fail)
       | (apply opk ⟨_, .call { callee := .builtin .len, args := _, argTypes := _ }, _, _, _, _⟩; first
        | exact opv_len_str (T := TT) rfl rfl rfl
        | exact opv_len_sl (T := TT) rfl rfl rfl
        | exact opv_len_nil (T := TT) rfl rfl rfl
        | fail)
       | (apply opk ⟨_, .slice _ _ _ _ _, _, _, _, _⟩; first
        | (refine opv_slice_str (T := TT) (k1 := .i64) (k2 := .u64) rfl rfl rfl rfl ?_ ?_ ?_; (next => (first | omega | (simp [NFL] <;> omega))); (next => (first | omega | (simp [NFL] <;> omega))); (next => (first | omega | (simp [NFL] <;> omega))))
        | (refine opv_slice_str (T := TT) (k1 := .u64) (k2 := .i64) rfl rfl rfl rfl ?_ ?_ ?_; (next => (first | omega | (simp [NFL] <;> omega))); (next => (first | omega | (simp [NFL] <;> omega))); (next => (first | omega | (simp [NFL] <;> omega))))
        | (refine opv_slice_str (T := TT) (k1 := .u64) (k2 := .u64) rfl rfl rfl rfl ?_ ?_ ?_; (next => (first | omega | (simp [NFL] <;> omega))); (next => (first | omega | (simp [NFL] <;> omega))); (next => (first | omega | (simp [NFL] <;> omega))))
        | fail)
       | (apply opk ⟨_, .pick _ _ _, _, _, _, _⟩; first
        | (refine opv_pickt rfl ?_ rfl; (next => (first | rfl | assumption)))
        | (refine opv_pickf rfl ?_ rfl; (next => (first | rfl | assumption)))
        | fail)
       | fail)))
      | (refine arO _ ?_; first
       | (refine arO ⟨_, .move _, _, _, _, _⟩ ?_; first | refine ar_move_sl rfl rfl rfl rfl ?_ | fail)
       | (refine arO ⟨_, .assign _, _, _, _, _⟩ ?_; first
        | refine ar_assign_sl rfl rfl rfl rfl ?_
        | refine ar_op rfl rfl rfl rfl (opv_const (cst_plain _) (.inr rfl)) ?_
        | fail)
       | fail)
      | refine ar_unwanted' rfl rfl rfl rfl ?_
      | refine ar_seq ?_
      | (refine arE ?_; refine ar_endM [0, 1, 4, 5, 6, 7, 8, 9, 12, 18, 36, 43, 46, 56] rfl ?_)
      | refine ar_region ?_
      | refine ar_block ?_
      | refine ar_skip ?_
      | refine ar_blk ?_
      | refine ar_dedup rfl ?_
      | (refine arC (.cond _ _ _) ?_; first
       | (refine ar_cond_true rfl ?_ ?_; (next => (first | rfl | (simp only [decide_eq_true_eq, beq_iff_eq, bne_iff_ne, ge_iff_le, gt_iff_lt, ne_eq, Bool.not_eq_true', decide_eq_false_iff_not]; omega))))
       | (refine ar_cond_false rfl ?_ ?_; (next => (first
        | rfl
        | (simp only [decide_eq_false_iff_not, beq_eq_false_iff_ne, bne_eq_false_iff_eq, ge_iff_le, gt_iff_lt, ne_eq, Bool.not_eq_false', decide_eq_true_eq]; omega))))
       | fail)
      | refine ar_exit ?_
      | refine stk_b_hit ?_
      | refine stk_b_miss rfl ?_
      | refine stk_c_exit ?_
      | refine stk_l_exit ?_
      | (refine arC .ret ?_; refine ar_retM [4, 5] ?_)
      | refine stk_c_ret ?_
      | refine stk_b_ret ?_
      | refine stk_l_ret ?_
      | refine stk_nil ?_
      | fail)
    first | exact qret_mk rfl (⟨rfl, rfl⟩) | (trace_state; exact qret_mk rfl (⟨rfl, rfl⟩))
  have hF := lgApp_len log rec
  have hA : appendB log rec = if 1000000 < (lgApp log rec).length then ([], 2) else (lgApp log rec, 0) := by unfold appendB; rw [if_neg hbig]
  have hJ := lgApp_eq log rec
  generalize lgApp log rec = F at hF hA hJ
  repeat (first
    | ((first | apply ar_un | apply stk_un); (next => (first | (simp only [go_sem, Nat.reduceBEq, Nat.reduceEqDiff, reduceIte, reduceCtorEq, String.reduceEq, Nat.reduceAdd, Int.reduceToNat]; exact rfl) | exact rfl)))
    | (first
     | refine ar_unwantedN rfl rfl rfl rfl ?_
     | refine ar_unwantedU rfl rfl rfl rfl ?_
     | (apply ar_opN rfl rfl rfl rfl; (next => (first
      | exact opv_pickt_cb rfl rfl
      | exact opv_pickf_cb rfl rfl
      | exact opv_pickt rfl rfl rfl
      | exact opv_pickf rfl rfl rfl
      | exact opv_len_str (T := TT) rfl rfl rfl
      | exact opv_len_sl (T := TT) rfl rfl rfl
      | fail)))
     | fail)
    | (refine arC .ret ?_; refine ar_retM0 [4, 5] ?_)
    | (apply ar_op' rfl rfl rfl rfl; (next => (first
     | (refine evalE_ok (T := TT) rfl ?_; (first | exact trivial | omega | (simp [NFL] <;> omega)))
     | (apply opk ⟨_, .move _, _, _, _, _⟩; first | exact opv_const (cst_plain _) (.inl rfl) | fail)
     | (apply opk ⟨_, .binOp .add _ _ _ _, _, _, _, _⟩; first | exact opv_bin rfl rfl rfl | fail)
     | (apply opk ⟨_, .binOp .sub _ _ _ _, _, _, _, _⟩; first | exact opv_bin rfl rfl rfl | fail)
     | (apply opk ⟨_, .binOp .rem _ _ _ _, _, _, _, _⟩; first | (refine opv_rem rfl rfl rfl ?_; (next => (first | omega | (simp [NFL] <;> omega)))) | fail)
     | (apply opk ⟨_, .binOp .eql _ _ _ _, _, _, _, _⟩; first
      | (refine opv_cmp_t rfl rfl rfl ?_; (next => (first | exact rfl | (simp only [cmpP]; omega) | (simp only [cmpP]; simp [NFL] <;> omega))))
      | (refine opv_cmp_f rfl rfl rfl ?_; (next => (first | exact rfl | (simp only [cmpP]; omega) | (simp only [cmpP]; simp [NFL] <;> omega))))
      | exact opv_bin rfl rfl rfl
      | (refine opv_seq_t rfl rfl rfl ?_; (next => (first | rfl | assumption)))
      | (refine opv_seq_f rfl rfl rfl ?_; (next => (first | rfl | assumption)))
      | exact opv_str rfl rfl rfl
      | fail)
     | (apply opk ⟨_, .binOp .neq _ _ _ _, _, _, _, _⟩; first
      | (refine opv_cmp_t rfl rfl rfl ?_; (next => (first | exact rfl | (simp only [cmpP]; omega) | (simp only [cmpP]; simp [NFL] <;> omega))))
      | (refine opv_cmp_f rfl rfl rfl ?_; (next => (first | exact rfl | (simp only [cmpP]; omega) | (simp only [cmpP]; simp [NFL] <;> omega))))
      | exact opv_bin rfl rfl rfl
      | (refine opv_sne_t rfl rfl rfl ?_; (next => (first | rfl | assumption)))
      | (refine opv_sne_f rfl rfl rfl ?_; (next => (first | rfl | assumption)))
      | exact opv_str rfl rfl rfl
      | fail)
     | (apply opk ⟨_, .binOp .gtr _ _ _ _, _, _, _, _⟩; first
      | (refine opv_cmp_t rfl rfl rfl ?_; (next => (first | exact rfl | (simp only [cmpP]; omega) | (simp only [cmpP]; simp [NFL] <;> omega))))
      | (refine opv_cmp_f rfl rfl rfl ?_; (next => (first | exact rfl | (simp only [cmpP]; omega) | (simp only [cmpP]; simp [NFL] <;> omega))))
      | exact opv_bin rfl rfl rfl
      | exact opv_str rfl rfl rfl
      | fail)
     | (apply opk ⟨_, .unOp _ _ _, _, _, _, _⟩; first | exact opv_not_t rfl rfl | exact opv_not_f rfl rfl | exact opv_neg rfl rfl | fail)
     | (apply opk ⟨_, .call { callee := .builtin .len, args := _, argTypes := _ }, _, _, _, _⟩; first
      | exact opv_len_str (T := TT) rfl rfl rfl
      | exact opv_len_sl (T := TT) rfl rfl rfl
      | exact opv_len_nil (T := TT) rfl rfl rfl
      | fail)
     | (apply opk ⟨_, .slice _ _ _ _ _, _, _, _, _⟩; first
      | (refine opv_slice_str (T := TT) (k1 := .i64) (k2 := .u64) rfl rfl rfl rfl ?_ ?_ ?_; (next => (first | omega | (simp [NFL] <;> omega))); (next => (first | omega | (simp [NFL] <;> omega))); (next => (first | omega | (simp [NFL] <;> omega))))
      | (refine opv_slice_str (T := TT) (k1 := .u64) (k2 := .i64) rfl rfl rfl rfl ?_ ?_ ?_; (next => (first | omega | (simp [NFL] <;> omega))); (next => (first | omega | (simp [NFL] <;> omega))); (next => (first | omega | (simp [NFL] <;> omega))))
      | (refine opv_slice_str (T := TT) (k1 := .u64) (k2 := .u64) rfl rfl rfl rfl ?_ ?_ ?_; (next => (first | omega | (simp [NFL] <;> omega))); (next => (first | omega | (simp [NFL] <;> omega))); (next => (first | omega | (simp [NFL] <;> omega))))
      | fail)
     | (apply opk ⟨_, .pick _ _ _, _, _, _, _⟩; first
      | (refine opv_pickt rfl ?_ rfl; (next => (first | rfl | assumption)))
      | (refine opv_pickf rfl ?_ rfl; (next => (first | rfl | assumption)))
      | fail)
     | fail)))
    | (refine arO _ ?_; first
     | (refine arO ⟨_, .move _, _, _, _, _⟩ ?_; first | refine ar_move_sl rfl rfl rfl rfl ?_ | fail)
     | (refine arO ⟨_, .assign _, _, _, _, _⟩ ?_; first
      | refine ar_assign_sl rfl rfl rfl rfl ?_
      | refine ar_op rfl rfl rfl rfl (opv_const (cst_plain _) (.inr rfl)) ?_
      | fail)
     | fail)
    | refine ar_unwanted' rfl rfl rfl rfl ?_
    | refine ar_seq ?_
    | (refine arE ?_; refine ar_endM [0, 1, 4, 5, 6, 7, 8, 9, 12, 18, 36, 43, 46, 56] rfl ?_)
    | refine ar_region ?_
    | refine ar_block ?_
    | refine ar_skip ?_
    | refine ar_blk ?_
    | refine ar_dedup rfl ?_
    | (refine arC (.cond _ _ _) ?_; first
     | (refine ar_cond_true rfl ?_ ?_; (next => (first | rfl | (simp only [decide_eq_true_eq, beq_iff_eq, bne_iff_ne, ge_iff_le, gt_iff_lt, ne_eq, Bool.not_eq_true', decide_eq_false_iff_not]; omega))))
     | (refine ar_cond_false rfl ?_ ?_; (next => (first
      | rfl
      | (simp only [decide_eq_false_iff_not, beq_eq_false_iff_ne, bne_eq_false_iff_eq, ge_iff_le, gt_iff_lt, ne_eq, Bool.not_eq_false', decide_eq_true_eq]; omega))))
     | fail)
    | refine ar_exit ?_
    | refine stk_b_hit ?_
    | refine stk_b_miss rfl ?_
    | refine stk_c_exit ?_
    | refine stk_l_exit ?_
    | (refine arC .ret ?_; refine ar_retM [4, 5] ?_)
    | refine stk_c_ret ?_
    | refine stk_b_ret ?_
    | refine stk_l_ret ?_
    | refine stk_nil ?_
    | fail)
  refine ar_loop (fun y : List UInt8 × List UInt8 × Bool => ⟨58, [(0, .v (.string (mkB y.1))), (1, .v (.string (mkB y.2.1))), (6, .v (.bool y.2.2))], [], []⟩) (fun y => appJ F y.1 y.2.1 y.2.2 ∧ y.2.1.length ≤ rec.length) (fun y => if y.2.2 = true ∧ y.2.1 = [] then 0 else needR y.1 y.2.1) (log, rec, false) ⟨rfl, ?_, ?_, rfl⟩ ⟨hJ, Nat.le_refl _⟩ ?_
  · (repeat' (first
    | exact trivial
    | exact LeL.refl _
    | exact .refl _
    | refine ⟨⟨_, rfl, ?_⟩, ?_⟩
    | refine ⟨⟨_, look_hd, ?_⟩, ?_⟩
    | refine ⟨⟨_, look_tl (by first | assumption | (intro e; exact absurd e.symm (by assumption))) look_hd, ?_⟩, ?_⟩
    | refine ⟨⟨_, look_tl (by first | assumption | (intro e; exact absurd e.symm (by assumption))) (look_tl (by first | assumption | (intro e; exact absurd e.symm (by assumption))) look_hd), ?_⟩, ?_⟩
    | refine ⟨⟨_, look_tl (by first | assumption | (intro e; exact absurd e.symm (by assumption))) (look_tl (by first | assumption | (intro e; exact absurd e.symm (by assumption))) (look_tl (by first | assumption | (intro e; exact absurd e.symm (by assumption))) look_hd)), ?_⟩, ?_⟩
    | refine ⟨⟨_, look_tl (by first | assumption | (intro e; exact absurd e.symm (by assumption))) (look_tl (by first | assumption | (intro e; exact absurd e.symm (by assumption))) (look_tl (by first | assumption | (intro e; exact absurd e.symm (by assumption))) (look_tl (by first | assumption | (intro e; exact absurd e.symm (by assumption))) look_hd))), ?_⟩, ?_⟩
    | exact .nil _ _
    | exact .rd _ _ _
    | refine LeL.cons ?_ ?_
    | exact LeL.nil
    | refine Le1.of_eq ?_))
  · (repeat' (first
    | exact trivial
    | exact LeL.refl _
    | exact .refl _
    | refine ⟨⟨_, rfl, ?_⟩, ?_⟩
    | refine ⟨⟨_, look_hd, ?_⟩, ?_⟩
    | refine ⟨⟨_, look_tl (by first | assumption | (intro e; exact absurd e.symm (by assumption))) look_hd, ?_⟩, ?_⟩
    | refine ⟨⟨_, look_tl (by first | assumption | (intro e; exact absurd e.symm (by assumption))) (look_tl (by first | assumption | (intro e; exact absurd e.symm (by assumption))) look_hd), ?_⟩, ?_⟩
    | refine ⟨⟨_, look_tl (by first | assumption | (intro e; exact absurd e.symm (by assumption))) (look_tl (by first | assumption | (intro e; exact absurd e.symm (by assumption))) (look_tl (by first | assumption | (intro e; exact absurd e.symm (by assumption))) look_hd)), ?_⟩, ?_⟩
    | refine ⟨⟨_, look_tl (by first | assumption | (intro e; exact absurd e.symm (by assumption))) (look_tl (by first | assumption | (intro e; exact absurd e.symm (by assumption))) (look_tl (by first | assumption | (intro e; exact absurd e.symm (by assumption))) (look_tl (by first | assumption | (intro e; exact absurd e.symm (by assumption))) look_hd))), ?_⟩, ?_⟩
    | exact .nil _ _
    | exact .rd _ _ _
    | refine LeL.cons ?_ ?_
    | exact LeL.nil
    | refine Le1.of_eq ?_))
  rintro ⟨g, r, b⟩ ⟨h1, h2⟩
  dsimp only at h1 h2 ⊢
  have hgl := appJ_len h1
  rcases h1 with ⟨rfl, rfl, rfl⟩ | h1
  · by_cases hm : 1000000 < g.length
    · rw [hA, if_pos hm]
      repeat (first
        | ((first | apply ar_un | apply stk_un); (next => (first | (simp only [go_sem, Nat.reduceBEq, Nat.reduceEqDiff, reduceIte, reduceCtorEq, String.reduceEq, Nat.reduceAdd, Int.reduceToNat]; exact rfl) | exact rfl)))
        | (first
         | refine ar_unwantedN rfl rfl rfl rfl ?_
         | refine ar_unwantedU rfl rfl rfl rfl ?_
         | (apply ar_opN rfl rfl rfl rfl; (next => (first
          | exact opv_pickt_cb rfl rfl
          | exact opv_pickf_cb rfl rfl
          | exact opv_pickt rfl rfl rfl
          | exact opv_pickf rfl rfl rfl
          | exact opv_len_str (T := TT) rfl rfl rfl
          | exact opv_len_sl (T := TT) rfl rfl rfl
          | fail)))
         | fail)
        | (refine arC .ret ?_; refine ar_retM0 [4, 5] ?_)
        | (apply ar_op' rfl rfl rfl rfl; (next => (first
         | (refine evalE_ok (T := TT) rfl ?_; (first | exact trivial | omega | (simp [NFL] <;> omega)))
         | (apply opk ⟨_, .move _, _, _, _, _⟩; first | exact opv_const (cst_plain _) (.inl rfl) | fail)
         | (apply opk ⟨_, .binOp .add _ _ _ _, _, _, _, _⟩; first | exact opv_bin rfl rfl rfl | fail)
         | (apply opk ⟨_, .binOp .sub _ _ _ _, _, _, _, _⟩; first | exact opv_bin rfl rfl rfl | fail)
         | (apply opk ⟨_, .binOp .rem _ _ _ _, _, _, _, _⟩; first | (refine opv_rem rfl rfl rfl ?_; (next => (first | omega | (simp [NFL] <;> omega)))) | fail)
         | (apply opk ⟨_, .binOp .eql _ _ _ _, _, _, _, _⟩; first
          | (refine opv_cmp_t rfl rfl rfl ?_; (next => (first | exact rfl | (simp only [cmpP]; omega) | (simp only [cmpP]; simp [NFL] <;> omega))))
          | (refine opv_cmp_f rfl rfl rfl ?_; (next => (first | exact rfl | (simp only [cmpP]; omega) | (simp only [cmpP]; simp [NFL] <;> omega))))
          | exact opv_bin rfl rfl rfl
          | (refine opv_seq_t rfl rfl rfl ?_; (next => (first | rfl | assumption)))
          | (refine opv_seq_f rfl rfl rfl ?_; (next => (first | rfl | assumption)))
          | exact opv_str rfl rfl rfl
          | fail)
         | (apply opk ⟨_, .binOp .neq _ _ _ _, _, _, _, _⟩; first
          | (refine opv_cmp_t rfl rfl rfl ?_; (next => (first | exact rfl | (simp only [cmpP]; omega) | (simp only [cmpP]; simp [NFL] <;> omega))))
          | (refine opv_cmp_f rfl rfl rfl ?_; (next => (first | exact rfl | (simp only [cmpP]; omega) | (simp only [cmpP]; simp [NFL] <;> omega))))
          | exact opv_bin rfl rfl rfl
          | (refine opv_sne_t rfl rfl rfl ?_; (next => (first | rfl | assumption)))
          | (refine opv_sne_f rfl rfl rfl ?_; (next => (first | rfl | assumption)))
          | exact opv_str rfl rfl rfl
          | fail)
         | (apply opk ⟨_, .binOp .gtr _ _ _ _, _, _, _, _⟩; first
          | (refine opv_cmp_t rfl rfl rfl ?_; (next => (first | exact rfl | (simp only [cmpP]; omega) | (simp only [cmpP]; simp [NFL] <;> omega))))
          | (refine opv_cmp_f rfl rfl rfl ?_; (next => (first | exact rfl | (simp only [cmpP]; omega) | (simp only [cmpP]; simp [NFL] <;> omega))))
          | exact opv_bin rfl rfl rfl
          | exact opv_str rfl rfl rfl
          | fail)
         | (apply opk ⟨_, .unOp _ _ _, _, _, _, _⟩; first | exact opv_not_t rfl rfl | exact opv_not_f rfl rfl | exact opv_neg rfl rfl | fail)
         | (apply opk ⟨_, .call { callee := .builtin .len, args := _, argTypes := _ }, _, _, _, _⟩; first
          | exact opv_len_str (T := TT) rfl rfl rfl
          | exact opv_len_sl (T := TT) rfl rfl rfl
          | exact opv_len_nil (T := TT) rfl rfl rfl
          | fail)
         | (apply opk ⟨_, .slice _ _ _ _ _, _, _, _, _⟩; first
          | (refine opv_slice_str (T := TT) (k1 := .i64) (k2 := .u64) rfl rfl rfl rfl ?_ ?_ ?_; (next => (first | omega | (simp [NFL] <;> omega))); (next => (first | omega | (simp [NFL] <;> omega))); (next => (first | omega | (simp [NFL] <;> omega))))
          | (refine opv_slice_str (T := TT) (k1 := .u64) (k2 := .i64) rfl rfl rfl rfl ?_ ?_ ?_; (next => (first | omega | (simp [NFL] <;> omega))); (next => (first | omega | (simp [NFL] <;> omega))); (next => (first | omega | (simp [NFL] <;> omega))))
          | (refine opv_slice_str (T := TT) (k1 := .u64) (k2 := .u64) rfl rfl rfl rfl ?_ ?_ ?_; (next => (first | omega | (simp [NFL] <;> omega))); (next => (first | omega | (simp [NFL] <;> omega))); (next => (first | omega | (simp [NFL] <;> omega))))
          | fail)
         | (apply opk ⟨_, .pick _ _ _, _, _, _, _⟩; first
          | (refine opv_pickt rfl ?_ rfl; (next => (first | rfl | assumption)))
          | (refine opv_pickf rfl ?_ rfl; (next => (first | rfl | assumption)))
          | fail)
         | fail)))
        | (refine arO _ ?_; first
         | (refine arO ⟨_, .move _, _, _, _, _⟩ ?_; first | refine ar_move_sl rfl rfl rfl rfl ?_ | fail)
         | (refine arO ⟨_, .assign _, _, _, _, _⟩ ?_; first
          | refine ar_assign_sl rfl rfl rfl rfl ?_
          | refine ar_op rfl rfl rfl rfl (opv_const (cst_plain _) (.inr rfl)) ?_
          | fail)
         | fail)
        | refine ar_unwanted' rfl rfl rfl rfl ?_
        | refine ar_seq ?_
        | (refine arE ?_; refine ar_endM [0, 1, 4, 5, 6, 7, 8, 9, 12, 18, 36, 43, 46, 56] rfl ?_)
        | refine ar_region ?_
        | refine ar_block ?_
        | refine ar_skip ?_
        | refine ar_blk ?_
        | refine ar_dedup rfl ?_
        | (refine arC (.cond _ _ _) ?_; first
         | (refine ar_cond_true rfl ?_ ?_; (next => (first | rfl | (simp only [decide_eq_true_eq, beq_iff_eq, bne_iff_ne, ge_iff_le, gt_iff_lt, ne_eq, Bool.not_eq_true', decide_eq_false_iff_not]; omega))))
         | (refine ar_cond_false rfl ?_ ?_; (next => (first
          | rfl
          | (simp only [decide_eq_false_iff_not, beq_eq_false_iff_ne, bne_eq_false_iff_eq, ge_iff_le, gt_iff_lt, ne_eq, Bool.not_eq_false', decide_eq_true_eq]; omega))))
         | fail)
        | refine ar_exit ?_
        | refine stk_b_hit ?_
        | refine stk_b_miss rfl ?_
        | refine stk_c_exit ?_
        | refine stk_l_exit ?_
        | (refine arC .ret ?_; refine ar_retM [4, 5] ?_)
        | refine stk_c_ret ?_
        | refine stk_b_ret ?_
        | refine stk_l_ret ?_
        | refine stk_nil ?_
        | fail)
      first | exact qret_mk rfl (⟨rfl, rfl⟩) | (trace_state; exact qret_mk rfl (⟨rfl, rfl⟩))
    · rw [hA, if_neg hm]
      repeat (first
        | ((first | apply ar_un | apply stk_un); (next => (first | (simp only [go_sem, Nat.reduceBEq, Nat.reduceEqDiff, reduceIte, reduceCtorEq, String.reduceEq, Nat.reduceAdd, Int.reduceToNat]; exact rfl) | exact rfl)))
        | (first
         | refine ar_unwantedN rfl rfl rfl rfl ?_
         | refine ar_unwantedU rfl rfl rfl rfl ?_
         | (apply ar_opN rfl rfl rfl rfl; (next => (first
          | exact opv_pickt_cb rfl rfl
          | exact opv_pickf_cb rfl rfl
          | exact opv_pickt rfl rfl rfl
          | exact opv_pickf rfl rfl rfl
          | exact opv_len_str (T := TT) rfl rfl rfl
          | exact opv_len_sl (T := TT) rfl rfl rfl
          | fail)))
         | fail)
        | (refine arC .ret ?_; refine ar_retM0 [4, 5] ?_)
        | (apply ar_op' rfl rfl rfl rfl; (next => (first
         | (refine evalE_ok (T := TT) rfl ?_; (first | exact trivial | omega | (simp [NFL] <;> omega)))
         | (apply opk ⟨_, .move _, _, _, _, _⟩; first | exact opv_const (cst_plain _) (.inl rfl) | fail)
         | (apply opk ⟨_, .binOp .add _ _ _ _, _, _, _, _⟩; first | exact opv_bin rfl rfl rfl | fail)
         | (apply opk ⟨_, .binOp .sub _ _ _ _, _, _, _, _⟩; first | exact opv_bin rfl rfl rfl | fail)
         | (apply opk ⟨_, .binOp .rem _ _ _ _, _, _, _, _⟩; first | (refine opv_rem rfl rfl rfl ?_; (next => (first | omega | (simp [NFL] <;> omega)))) | fail)
         | (apply opk ⟨_, .binOp .eql _ _ _ _, _, _, _, _⟩; first
          | (refine opv_cmp_t rfl rfl rfl ?_; (next => (first | exact rfl | (simp only [cmpP]; omega) | (simp only [cmpP]; simp [NFL] <;> omega))))
          | (refine opv_cmp_f rfl rfl rfl ?_; (next => (first | exact rfl | (simp only [cmpP]; omega) | (simp only [cmpP]; simp [NFL] <;> omega))))
          | exact opv_bin rfl rfl rfl
          | (refine opv_seq_t rfl rfl rfl ?_; (next => (first | rfl | assumption)))
          | (refine opv_seq_f rfl rfl rfl ?_; (next => (first | rfl | assumption)))
          | exact opv_str rfl rfl rfl
          | fail)
         | (apply opk ⟨_, .binOp .neq _ _ _ _, _, _, _, _⟩; first
          | (refine opv_cmp_t rfl rfl rfl ?_; (next => (first | exact rfl | (simp only [cmpP]; omega) | (simp only [cmpP]; simp [NFL] <;> omega))))
          | (refine opv_cmp_f rfl rfl rfl ?_; (next => (first | exact rfl | (simp only [cmpP]; omega) | (simp only [cmpP]; simp [NFL] <;> omega))))
          | exact opv_bin rfl rfl rfl
          | (refine opv_sne_t rfl rfl rfl ?_; (next => (first | rfl | assumption)))
          | (refine opv_sne_f rfl rfl rfl ?_; (next => (first | rfl | assumption)))
          | exact opv_str rfl rfl rfl
          | fail)
         | (apply opk ⟨_, .binOp .gtr _ _ _ _, _, _, _, _⟩; first
          | (refine opv_cmp_t rfl rfl rfl ?_; (next => (first | exact rfl | (simp only [cmpP]; omega) | (simp only [cmpP]; simp [NFL] <;> omega))))
          | (refine opv_cmp_f rfl rfl rfl ?_; (next => (first | exact rfl | (simp only [cmpP]; omega) | (simp only [cmpP]; simp [NFL] <;> omega))))
          | exact opv_bin rfl rfl rfl
          | exact opv_str rfl rfl rfl
          | fail)
         | (apply opk ⟨_, .unOp _ _ _, _, _, _, _⟩; first | exact opv_not_t rfl rfl | exact opv_not_f rfl rfl | exact opv_neg rfl rfl | fail)
         | (apply opk ⟨_, .call { callee := .builtin .len, args := _, argTypes := _ }, _, _, _, _⟩; first
          | exact opv_len_str (T := TT) rfl rfl rfl
          | exact opv_len_sl (T := TT) rfl rfl rfl
          | exact opv_len_nil (T := TT) rfl rfl rfl
          | fail)
         | (apply opk ⟨_, .slice _ _ _ _ _, _, _, _, _⟩; first
          | (refine opv_slice_str (T := TT) (k1 := .i64) (k2 := .u64) rfl rfl rfl rfl ?_ ?_ ?_; (next => (first | omega | (simp [NFL] <;> omega))); (next => (first | omega | (simp [NFL] <;> omega))); (next => (first | omega | (simp [NFL] <;> omega))))
          | (refine opv_slice_str (T := TT) (k1 := .u64) (k2 := .i64) rfl rfl rfl rfl ?_ ?_ ?_; (next => (first | omega | (simp [NFL] <;> omega))); (next => (first | omega | (simp [NFL] <;> omega))); (next => (first | omega | (simp [NFL] <;> omega))))
          | (refine opv_slice_str (T := TT) (k1 := .u64) (k2 := .u64) rfl rfl rfl rfl ?_ ?_ ?_; (next => (first | omega | (simp [NFL] <;> omega))); (next => (first | omega | (simp [NFL] <;> omega))); (next => (first | omega | (simp [NFL] <;> omega))))
          | fail)
         | (apply opk ⟨_, .pick _ _ _, _, _, _, _⟩; first
          | (refine opv_pickt rfl ?_ rfl; (next => (first | rfl | assumption)))
          | (refine opv_pickf rfl ?_ rfl; (next => (first | rfl | assumption)))
          | fail)
         | fail)))
        | (refine arO _ ?_; first
         | (refine arO ⟨_, .move _, _, _, _, _⟩ ?_; first | refine ar_move_sl rfl rfl rfl rfl ?_ | fail)
         | (refine arO ⟨_, .assign _, _, _, _, _⟩ ?_; first
          | refine ar_assign_sl rfl rfl rfl rfl ?_
          | refine ar_op rfl rfl rfl rfl (opv_const (cst_plain _) (.inr rfl)) ?_
          | fail)
         | fail)
        | refine ar_unwanted' rfl rfl rfl rfl ?_
        | refine ar_seq ?_
        | (refine arE ?_; refine ar_endM [0, 1, 4, 5, 6, 7, 8, 9, 12, 18, 36, 43, 46, 56] rfl ?_)
        | refine ar_region ?_
        | refine ar_block ?_
        | refine ar_skip ?_
        | refine ar_blk ?_
        | refine ar_dedup rfl ?_
        | (refine arC (.cond _ _ _) ?_; first
         | (refine ar_cond_true rfl ?_ ?_; (next => (first | rfl | (simp only [decide_eq_true_eq, beq_iff_eq, bne_iff_ne, ge_iff_le, gt_iff_lt, ne_eq, Bool.not_eq_true', decide_eq_false_iff_not]; omega))))
         | (refine ar_cond_false rfl ?_ ?_; (next => (first
          | rfl
          | (simp only [decide_eq_false_iff_not, beq_eq_false_iff_ne, bne_eq_false_iff_eq, ge_iff_le, gt_iff_lt, ne_eq, Bool.not_eq_false', decide_eq_true_eq]; omega))))
         | fail)
        | refine ar_exit ?_
        | refine stk_b_hit ?_
        | refine stk_b_miss rfl ?_
        | refine stk_c_exit ?_
        | refine stk_l_exit ?_
        | (refine arC .ret ?_; refine ar_retM [4, 5] ?_)
        | refine stk_c_ret ?_
        | refine stk_b_ret ?_
        | refine stk_l_ret ?_
        | refine stk_nil ?_
        | fail)
      first | exact qret_mk rfl (⟨rfl, rfl⟩) | (trace_state; exact qret_mk rfl (⟨rfl, rfl⟩))
  have hnx := appJ_next h1
  obtain ⟨hbr, _⟩ := h1
  have hle : rndN g r ≤ r.length := Nat.min_le_left _ _
  have hnt : r.take (121 - (g.length + padN g.length) % 128) = r.take (rndN g r) := by unfold rndN; rw [List.take_eq_take_iff]; omega
  have hnl : (r.take (121 - (g.length + padN g.length) % 128)).length = rndN g r := by unfold rndN; rw [List.length_take]; omega
  have hp := padN_le g.length
  have hpm := padN_mod g.length
  have hz := zerosB_length (padN g.length)
  have hdl : r.drop (r.take (121 - (g.length + padN g.length) % 128)).length = r.drop (rndN g r) := by rw [hnl]
  have hkn : (rndN g r == r.length) = decide (r.drop (rndN g r) = []) := by
    by_cases h : rndN g r = r.length
    · rw [h]; simp
    · have : ¬ r.drop (rndN g r) = [] := fun hd => by have := congrArg List.length hd; simp at this; omega
      simp [h, this]
  have hrl : ∀ k, k = kindB (!b) (rndN g r == r.length) → (g ++ zerosB (padN g.length)) ++ partB k (r.take (121 - (g.length + padN g.length) % 128)) = rndL g r (!b) := by
    intro k hk
    rw [hk, hnt, List.append_assoc]
    rfl
  have hmeas : (if true = true ∧ r.drop (rndN g r) = [] then 0 else needR (rndL g r (!b)) (r.drop (rndN g r))) < (if b = true ∧ r = [] then 0 else needR g r) := by
    rw [if_neg (c := b = true ∧ r = []) (by rcases hbr with h | h; simp [h]; simp [h])]
    by_cases hl : r.drop (rndN g r) = []
    · rw [if_pos ⟨rfl, hl⟩]; unfold needR; omega
    · rw [if_neg (fun h => hl h.2)]
      have := needR_next (log := g) (rec := r) (first := !b) (fun e => hl (by rw [e]; exact List.drop_length ..))
      omega
  have hlc : r.drop (rndN g r) = [] ∨ ¬ r.drop (rndN g r) = [] := Decidable.em _
  by_cases hb : b = false
  · subst hb
    have hrd : true = true := rfl
    rcases hlc with hlast2 | hlast2
    · have hlast : decide (r.drop (r.take (121 - (g.length + padN g.length) % 128)).length = []) = true := by rw [hdl, hlast2]; rfl
      have hpl := partB_length 1 (r.take (121 - (g.length + padN g.length) % 128))
      repeat (first
        | ((first | apply ar_un | apply stk_un); (next => (first | (simp only [go_sem, Nat.reduceBEq, Nat.reduceEqDiff, reduceIte, reduceCtorEq, String.reduceEq, Nat.reduceAdd, Int.reduceToNat]; exact rfl) | exact rfl)))
        | (first
         | refine ar_unwantedN rfl rfl rfl rfl ?_
         | refine ar_unwantedU rfl rfl rfl rfl ?_
         | (apply ar_opN rfl rfl rfl rfl; (next => (first
          | exact opv_pickt_cb rfl rfl
          | exact opv_pickf_cb rfl rfl
          | exact opv_pickt rfl rfl rfl
          | exact opv_pickf rfl rfl rfl
          | exact opv_len_str (T := TT) rfl rfl rfl
          | exact opv_len_sl (T := TT) rfl rfl rfl
          | fail)))
         | fail)
        | (refine arC .ret ?_; refine ar_retM0 [4, 5] ?_)
        | (refine arC (.cond _ _ _) ?_; (first | (refine ar_cond_true rfl hlast ?_) | (refine ar_cond_false rfl hlast ?_) | (refine ar_cond_true rfl hrd ?_) | fail))
        | (apply ar_op' rfl rfl rfl rfl; (next => (first
         | (refine evalE_ok (T := TT) rfl ?_; (first | exact trivial | omega | (simp [NFL] <;> omega)))
         | (apply opk ⟨_, .move _, _, _, _, _⟩; first | exact opv_const (cst_plain _) (.inl rfl) | fail)
         | (apply opk ⟨_, .binOp .add _ _ _ _, _, _, _, _⟩; first | exact opv_bin rfl rfl rfl | fail)
         | (apply opk ⟨_, .binOp .sub _ _ _ _, _, _, _, _⟩; first | exact opv_bin rfl rfl rfl | fail)
         | (apply opk ⟨_, .binOp .rem _ _ _ _, _, _, _, _⟩; first | (refine opv_rem rfl rfl rfl ?_; (next => (first | omega | (simp [NFL] <;> omega)))) | fail)
         | (apply opk ⟨_, .binOp .eql _ _ _ _, _, _, _, _⟩; first
          | (refine opv_cmp_t rfl rfl rfl ?_; (next => (first | exact rfl | (simp only [cmpP]; omega) | (simp only [cmpP]; simp [NFL] <;> omega))))
          | (refine opv_cmp_f rfl rfl rfl ?_; (next => (first | exact rfl | (simp only [cmpP]; omega) | (simp only [cmpP]; simp [NFL] <;> omega))))
          | exact opv_bin rfl rfl rfl
          | (refine opv_seq_t rfl rfl rfl ?_; (next => (first | rfl | assumption)))
          | (refine opv_seq_f rfl rfl rfl ?_; (next => (first | rfl | assumption)))
          | exact opv_str rfl rfl rfl
          | fail)
         | (apply opk ⟨_, .binOp .neq _ _ _ _, _, _, _, _⟩; first
          | (refine opv_cmp_t rfl rfl rfl ?_; (next => (first | exact rfl | (simp only [cmpP]; omega) | (simp only [cmpP]; simp [NFL] <;> omega))))
          | (refine opv_cmp_f rfl rfl rfl ?_; (next => (first | exact rfl | (simp only [cmpP]; omega) | (simp only [cmpP]; simp [NFL] <;> omega))))
          | exact opv_bin rfl rfl rfl
          | (refine opv_sne_t rfl rfl rfl ?_; (next => (first | rfl | assumption)))
          | (refine opv_sne_f rfl rfl rfl ?_; (next => (first | rfl | assumption)))
          | exact opv_str rfl rfl rfl
          | fail)
         | (apply opk ⟨_, .binOp .gtr _ _ _ _, _, _, _, _⟩; first
          | (refine opv_cmp_t rfl rfl rfl ?_; (next => (first | exact rfl | (simp only [cmpP]; omega) | (simp only [cmpP]; simp [NFL] <;> omega))))
          | (refine opv_cmp_f rfl rfl rfl ?_; (next => (first | exact rfl | (simp only [cmpP]; omega) | (simp only [cmpP]; simp [NFL] <;> omega))))
          | exact opv_bin rfl rfl rfl
          | exact opv_str rfl rfl rfl
          | fail)
         | (apply opk ⟨_, .unOp _ _ _, _, _, _, _⟩; first | exact opv_not_t rfl rfl | exact opv_not_f rfl rfl | exact opv_neg rfl rfl | fail)
         | (apply opk ⟨_, .call { callee := .builtin .len, args := _, argTypes := _ }, _, _, _, _⟩; first
          | exact opv_len_str (T := TT) rfl rfl rfl
          | exact opv_len_sl (T := TT) rfl rfl rfl
          | exact opv_len_nil (T := TT) rfl rfl rfl
          | fail)
         | (apply opk ⟨_, .slice _ _ _ _ _, _, _, _, _⟩; first
          | (refine opv_slice_str (T := TT) (k1 := .i64) (k2 := .u64) rfl rfl rfl rfl ?_ ?_ ?_; (next => (first | omega | (simp [NFL] <;> omega))); (next => (first | omega | (simp [NFL] <;> omega))); (next => (first | omega | (simp [NFL] <;> omega))))
          | (refine opv_slice_str (T := TT) (k1 := .u64) (k2 := .i64) rfl rfl rfl rfl ?_ ?_ ?_; (next => (first | omega | (simp [NFL] <;> omega))); (next => (first | omega | (simp [NFL] <;> omega))); (next => (first | omega | (simp [NFL] <;> omega))))
          | (refine opv_slice_str (T := TT) (k1 := .u64) (k2 := .u64) rfl rfl rfl rfl ?_ ?_ ?_; (next => (first | omega | (simp [NFL] <;> omega))); (next => (first | omega | (simp [NFL] <;> omega))); (next => (first | omega | (simp [NFL] <;> omega))))
          | fail)
         | (apply opk ⟨_, .pick _ _ _, _, _, _, _⟩; first
          | (refine opv_pickt rfl ?_ rfl; (next => (first | rfl | assumption)))
          | (refine opv_pickf rfl ?_ rfl; (next => (first | rfl | assumption)))
          | fail)
         | fail)))
        | (refine arO _ ?_; first
         | (refine arO ⟨_, .move _, _, _, _, _⟩ ?_; first | refine ar_move_sl rfl rfl rfl rfl ?_ | fail)
         | (refine arO ⟨_, .assign _, _, _, _, _⟩ ?_; first
          | refine ar_assign_sl rfl rfl rfl rfl ?_
          | refine ar_op rfl rfl rfl rfl (opv_const (cst_plain _) (.inr rfl)) ?_
          | fail)
         | (refine arO ⟨_, .call { callee := .value _, args := _, argTypes := _ }, _, _, _, _⟩ ?_; first
          | (apply ar_callM0 rfl (noughts_a g.length (by omega)) rfl rfl; (next => (repeat (first
           | exact PArgs.nil
           | (apply PArgs.cons; (next => (first
            | exact PArg.own rfl rfl
            | exact PArg.rd rfl (Le1.refl _) rfl
            | exact PArg.rd rfl (Le1.rd _ _ _) rfl
            | exact PArg.nil rfl
            | exact PArg.rd rfl (Le1.nil _ _) rfl
            | (refine PArg.rd rfl (Le1.of_eq ?_) rfl; congr 2 <;> (first | omega | (simp; omega) | (simp [NFL]; done))))))))); (next => rfl); (next => rfl); rintro _ _ ⟨rfl, rfl⟩; refine ⟨_, rfl, ?_⟩)
          | (apply ar_callM0 rfl (cutTo_i r (128 - ((g.length + (zerosB (padN g.length)).length : Nat) : Int) % 128 - 7) (121 - (g.length + padN g.length) % 128) (by omega) (by omega) (by omega)) rfl rfl; (next => (repeat (first
           | exact PArgs.nil
           | (apply PArgs.cons; (next => (first
            | exact PArg.own rfl rfl
            | exact PArg.rd rfl (Le1.refl _) rfl
            | exact PArg.rd rfl (Le1.rd _ _ _) rfl
            | exact PArg.nil rfl
            | exact PArg.rd rfl (Le1.nil _ _) rfl
            | (refine PArg.rd rfl (Le1.of_eq ?_) rfl; congr 2 <;> (first | omega | (simp; omega) | (simp [NFL]; done))))))))); (next => rfl); (next => rfl); rintro _ _ ⟨rfl, rfl⟩; refine ⟨_, rfl, ?_⟩)
          | (apply ar_callM0 rfl (partOf_a 1 (r.take (121 - (g.length + padN g.length) % 128)) (by omega) (by omega)) rfl rfl; (next => (repeat (first
           | exact PArgs.nil
           | (apply PArgs.cons; (next => (first
            | exact PArg.own rfl rfl
            | exact PArg.rd rfl (Le1.refl _) rfl
            | exact PArg.rd rfl (Le1.rd _ _ _) rfl
            | exact PArg.nil rfl
            | exact PArg.rd rfl (Le1.nil _ _) rfl
            | (refine PArg.rd rfl (Le1.of_eq ?_) rfl; congr 2 <;> (first | omega | (simp; omega) | (simp [NFL]; done))))))))); (next => rfl); (next => rfl); rintro _ _ ⟨rfl, rfl⟩; refine ⟨_, rfl, ?_⟩)
          | fail)
         | fail)
        | refine ar_unwanted' rfl rfl rfl rfl ?_
        | refine ar_seq ?_
        | (refine arE ?_; refine ar_endM [0, 1, 4, 5, 6, 7, 8, 9, 12, 18, 36, 43, 46, 56] rfl ?_)
        | refine ar_region ?_
        | refine ar_block ?_
        | refine ar_skip ?_
        | refine ar_blk ?_
        | refine ar_dedup rfl ?_
        | (refine arC (.cond _ _ _) ?_; first
         | (refine ar_cond_true rfl ?_ ?_; (next => (first | rfl | (simp only [decide_eq_true_eq, beq_iff_eq, bne_iff_ne, ge_iff_le, gt_iff_lt, ne_eq, Bool.not_eq_true', decide_eq_false_iff_not]; omega))))
         | (refine ar_cond_false rfl ?_ ?_; (next => (first
          | rfl
          | (simp only [decide_eq_false_iff_not, beq_eq_false_iff_ne, bne_eq_false_iff_eq, ge_iff_le, gt_iff_lt, ne_eq, Bool.not_eq_false', decide_eq_true_eq]; omega))))
         | fail)
        | refine ar_exit ?_
        | refine stk_b_hit ?_
        | refine stk_b_miss rfl ?_
        | refine stk_c_exit ?_
        | refine stk_l_exit ?_
        | (refine arC .ret ?_; refine ar_retM [4, 5] ?_)
        | refine stk_c_ret ?_
        | refine stk_b_ret ?_
        | refine stk_l_ret ?_
        | refine stk_nil ?_
        | fail)
      have hk := hrl 1 (by rw [hkn]; simp [hlast2, kindB])
      refine ar_back ⟨(rndL g r (!false), r.drop (rndN g r), true), ⟨rfl, ?_, ?_, rfl⟩, ⟨hnx, by simp; omega⟩, ?_⟩
      · (repeat' (first
        | exact trivial
        | exact LeL.refl _
        | exact .refl _
        | refine ⟨⟨_, rfl, ?_⟩, ?_⟩
        | refine ⟨⟨_, look_hd, ?_⟩, ?_⟩
        | refine ⟨⟨_, look_tl (by first | assumption | (intro e; exact absurd e.symm (by assumption))) look_hd, ?_⟩, ?_⟩
        | refine ⟨⟨_, look_tl (by first | assumption | (intro e; exact absurd e.symm (by assumption))) (look_tl (by first | assumption | (intro e; exact absurd e.symm (by assumption))) look_hd), ?_⟩, ?_⟩
        | refine ⟨⟨_, look_tl (by first | assumption | (intro e; exact absurd e.symm (by assumption))) (look_tl (by first | assumption | (intro e; exact absurd e.symm (by assumption))) (look_tl (by first | assumption | (intro e; exact absurd e.symm (by assumption))) look_hd)), ?_⟩, ?_⟩
        | refine ⟨⟨_, look_tl (by first | assumption | (intro e; exact absurd e.symm (by assumption))) (look_tl (by first | assumption | (intro e; exact absurd e.symm (by assumption))) (look_tl (by first | assumption | (intro e; exact absurd e.symm (by assumption))) (look_tl (by first | assumption | (intro e; exact absurd e.symm (by assumption))) look_hd))), ?_⟩, ?_⟩
        | exact .nil _ _
        | exact .rd _ _ _
        | refine LeL.cons ?_ ?_
        | exact LeL.nil
        | refine Le1.of_eq ?_))
        all_goals (first | rfl | exact congrArg (fun q => AV.v (.string (mkB q))) hk | rw [hdl])
      · (repeat' (first
        | exact trivial
        | exact LeL.refl _
        | exact .refl _
        | refine ⟨⟨_, rfl, ?_⟩, ?_⟩
        | refine ⟨⟨_, look_hd, ?_⟩, ?_⟩
        | refine ⟨⟨_, look_tl (by first | assumption | (intro e; exact absurd e.symm (by assumption))) look_hd, ?_⟩, ?_⟩
        | refine ⟨⟨_, look_tl (by first | assumption | (intro e; exact absurd e.symm (by assumption))) (look_tl (by first | assumption | (intro e; exact absurd e.symm (by assumption))) look_hd), ?_⟩, ?_⟩
        | refine ⟨⟨_, look_tl (by first | assumption | (intro e; exact absurd e.symm (by assumption))) (look_tl (by first | assumption | (intro e; exact absurd e.symm (by assumption))) (look_tl (by first | assumption | (intro e; exact absurd e.symm (by assumption))) look_hd)), ?_⟩, ?_⟩
        | refine ⟨⟨_, look_tl (by first | assumption | (intro e; exact absurd e.symm (by assumption))) (look_tl (by first | assumption | (intro e; exact absurd e.symm (by assumption))) (look_tl (by first | assumption | (intro e; exact absurd e.symm (by assumption))) (look_tl (by first | assumption | (intro e; exact absurd e.symm (by assumption))) look_hd))), ?_⟩, ?_⟩
        | exact .nil _ _
        | exact .rd _ _ _
        | refine LeL.cons ?_ ?_
        | exact LeL.nil
        | refine Le1.of_eq ?_))
      · exact hmeas
    · have hlast : decide (r.drop (r.take (121 - (g.length + padN g.length) % 128)).length = []) = false := by rw [hdl]; simp [hlast2]
      have hpl := partB_length 2 (r.take (121 - (g.length + padN g.length) % 128))
      repeat (first
        | ((first | apply ar_un | apply stk_un); (next => (first | (simp only [go_sem, Nat.reduceBEq, Nat.reduceEqDiff, reduceIte, reduceCtorEq, String.reduceEq, Nat.reduceAdd, Int.reduceToNat]; exact rfl) | exact rfl)))
        | (first
         | refine ar_unwantedN rfl rfl rfl rfl ?_
         | refine ar_unwantedU rfl rfl rfl rfl ?_
         | (apply ar_opN rfl rfl rfl rfl; (next => (first
          | exact opv_pickt_cb rfl rfl
          | exact opv_pickf_cb rfl rfl
          | exact opv_pickt rfl rfl rfl
          | exact opv_pickf rfl rfl rfl
          | exact opv_len_str (T := TT) rfl rfl rfl
          | exact opv_len_sl (T := TT) rfl rfl rfl
          | fail)))
         | fail)
        | (refine arC .ret ?_; refine ar_retM0 [4, 5] ?_)
        | (refine arC (.cond _ _ _) ?_; (first | (refine ar_cond_true rfl hlast ?_) | (refine ar_cond_false rfl hlast ?_) | (refine ar_cond_true rfl hrd ?_) | fail))
        | (apply ar_op' rfl rfl rfl rfl; (next => (first
         | (refine evalE_ok (T := TT) rfl ?_; (first | exact trivial | omega | (simp [NFL] <;> omega)))
         | (apply opk ⟨_, .move _, _, _, _, _⟩; first | exact opv_const (cst_plain _) (.inl rfl) | fail)
         | (apply opk ⟨_, .binOp .add _ _ _ _, _, _, _, _⟩; first | exact opv_bin rfl rfl rfl | fail)
         | (apply opk ⟨_, .binOp .sub _ _ _ _, _, _, _, _⟩; first | exact opv_bin rfl rfl rfl | fail)
         | (apply opk ⟨_, .binOp .rem _ _ _ _, _, _, _, _⟩; first | (refine opv_rem rfl rfl rfl ?_; (next => (first | omega | (simp [NFL] <;> omega)))) | fail)
         | (apply opk ⟨_, .binOp .eql _ _ _ _, _, _, _, _⟩; first
          | (refine opv_cmp_t rfl rfl rfl ?_; (next => (first | exact rfl | (simp only [cmpP]; omega) | (simp only [cmpP]; simp [NFL] <;> omega))))
          | (refine opv_cmp_f rfl rfl rfl ?_; (next => (first | exact rfl | (simp only [cmpP]; omega) | (simp only [cmpP]; simp [NFL] <;> omega))))
          | exact opv_bin rfl rfl rfl
          | (refine opv_seq_t rfl rfl rfl ?_; (next => (first | rfl | assumption)))
          | (refine opv_seq_f rfl rfl rfl ?_; (next => (first | rfl | assumption)))
          | exact opv_str rfl rfl rfl
          | fail)
         | (apply opk ⟨_, .binOp .neq _ _ _ _, _, _, _, _⟩; first
          | (refine opv_cmp_t rfl rfl rfl ?_; (next => (first | exact rfl | (simp only [cmpP]; omega) | (simp only [cmpP]; simp [NFL] <;> omega))))
          | (refine opv_cmp_f rfl rfl rfl ?_; (next => (first | exact rfl | (simp only [cmpP]; omega) | (simp only [cmpP]; simp [NFL] <;> omega))))
          | exact opv_bin rfl rfl rfl
          | (refine opv_sne_t rfl rfl rfl ?_; (next => (first | rfl | assumption)))
          | (refine opv_sne_f rfl rfl rfl ?_; (next => (first | rfl | assumption)))
          | exact opv_str rfl rfl rfl
          | fail)
         | (apply opk ⟨_, .binOp .gtr _ _ _ _, _, _, _, _⟩; first
          | (refine opv_cmp_t rfl rfl rfl ?_; (next => (first | exact rfl | (simp only [cmpP]; omega) | (simp only [cmpP]; simp [NFL] <;> omega))))
          | (refine opv_cmp_f rfl rfl rfl ?_; (next => (first | exact rfl | (simp only [cmpP]; omega) | (simp only [cmpP]; simp [NFL] <;> omega))))
          | exact opv_bin rfl rfl rfl
          | exact opv_str rfl rfl rfl
          | fail)
         | (apply opk ⟨_, .unOp _ _ _, _, _, _, _⟩; first | exact opv_not_t rfl rfl | exact opv_not_f rfl rfl | exact opv_neg rfl rfl | fail)
         | (apply opk ⟨_, .call { callee := .builtin .len, args := _, argTypes := _ }, _, _, _, _⟩; first
          | exact opv_len_str (T := TT) rfl rfl rfl
          | exact opv_len_sl (T := TT) rfl rfl rfl
          | exact opv_len_nil (T := TT) rfl rfl rfl
          | fail)
         | (apply opk ⟨_, .slice _ _ _ _ _, _, _, _, _⟩; first
          | (refine opv_slice_str (T := TT) (k1 := .i64) (k2 := .u64) rfl rfl rfl rfl ?_ ?_ ?_; (next => (first | omega | (simp [NFL] <;> omega))); (next => (first | omega | (simp [NFL] <;> omega))); (next => (first | omega | (simp [NFL] <;> omega))))
          | (refine opv_slice_str (T := TT) (k1 := .u64) (k2 := .i64) rfl rfl rfl rfl ?_ ?_ ?_; (next => (first | omega | (simp [NFL] <;> omega))); (next => (first | omega | (simp [NFL] <;> omega))); (next => (first | omega | (simp [NFL] <;> omega))))
          | (refine opv_slice_str (T := TT) (k1 := .u64) (k2 := .u64) rfl rfl rfl rfl ?_ ?_ ?_; (next => (first | omega | (simp [NFL] <;> omega))); (next => (first | omega | (simp [NFL] <;> omega))); (next => (first | omega | (simp [NFL] <;> omega))))
          | fail)
         | (apply opk ⟨_, .pick _ _ _, _, _, _, _⟩; first
          | (refine opv_pickt rfl ?_ rfl; (next => (first | rfl | assumption)))
          | (refine opv_pickf rfl ?_ rfl; (next => (first | rfl | assumption)))
          | fail)
         | fail)))
        | (refine arO _ ?_; first
         | (refine arO ⟨_, .move _, _, _, _, _⟩ ?_; first | refine ar_move_sl rfl rfl rfl rfl ?_ | fail)
         | (refine arO ⟨_, .assign _, _, _, _, _⟩ ?_; first
          | refine ar_assign_sl rfl rfl rfl rfl ?_
          | refine ar_op rfl rfl rfl rfl (opv_const (cst_plain _) (.inr rfl)) ?_
          | fail)
         | (refine arO ⟨_, .call { callee := .value _, args := _, argTypes := _ }, _, _, _, _⟩ ?_; first
          | (apply ar_callM0 rfl (noughts_a g.length (by omega)) rfl rfl; (next => (repeat (first
           | exact PArgs.nil
           | (apply PArgs.cons; (next => (first
            | exact PArg.own rfl rfl
            | exact PArg.rd rfl (Le1.refl _) rfl
            | exact PArg.rd rfl (Le1.rd _ _ _) rfl
            | exact PArg.nil rfl
            | exact PArg.rd rfl (Le1.nil _ _) rfl
            | (refine PArg.rd rfl (Le1.of_eq ?_) rfl; congr 2 <;> (first | omega | (simp; omega) | (simp [NFL]; done))))))))); (next => rfl); (next => rfl); rintro _ _ ⟨rfl, rfl⟩; refine ⟨_, rfl, ?_⟩)
          | (apply ar_callM0 rfl (cutTo_i r (128 - ((g.length + (zerosB (padN g.length)).length : Nat) : Int) % 128 - 7) (121 - (g.length + padN g.length) % 128) (by omega) (by omega) (by omega)) rfl rfl; (next => (repeat (first
           | exact PArgs.nil
           | (apply PArgs.cons; (next => (first
            | exact PArg.own rfl rfl
            | exact PArg.rd rfl (Le1.refl _) rfl
            | exact PArg.rd rfl (Le1.rd _ _ _) rfl
            | exact PArg.nil rfl
            | exact PArg.rd rfl (Le1.nil _ _) rfl
            | (refine PArg.rd rfl (Le1.of_eq ?_) rfl; congr 2 <;> (first | omega | (simp; omega) | (simp [NFL]; done))))))))); (next => rfl); (next => rfl); rintro _ _ ⟨rfl, rfl⟩; refine ⟨_, rfl, ?_⟩)
          | (apply ar_callM0 rfl (partOf_a 2 (r.take (121 - (g.length + padN g.length) % 128)) (by omega) (by omega)) rfl rfl; (next => (repeat (first
           | exact PArgs.nil
           | (apply PArgs.cons; (next => (first
            | exact PArg.own rfl rfl
            | exact PArg.rd rfl (Le1.refl _) rfl
            | exact PArg.rd rfl (Le1.rd _ _ _) rfl
            | exact PArg.nil rfl
            | exact PArg.rd rfl (Le1.nil _ _) rfl
            | (refine PArg.rd rfl (Le1.of_eq ?_) rfl; congr 2 <;> (first | omega | (simp; omega) | (simp [NFL]; done))))))))); (next => rfl); (next => rfl); rintro _ _ ⟨rfl, rfl⟩; refine ⟨_, rfl, ?_⟩)
          | fail)
         | fail)
        | refine ar_unwanted' rfl rfl rfl rfl ?_
        | refine ar_seq ?_
        | (refine arE ?_; refine ar_endM [0, 1, 4, 5, 6, 7, 8, 9, 12, 18, 36, 43, 46, 56] rfl ?_)
        | refine ar_region ?_
        | refine ar_block ?_
        | refine ar_skip ?_
        | refine ar_blk ?_
        | refine ar_dedup rfl ?_
        | (refine arC (.cond _ _ _) ?_; first
         | (refine ar_cond_true rfl ?_ ?_; (next => (first | rfl | (simp only [decide_eq_true_eq, beq_iff_eq, bne_iff_ne, ge_iff_le, gt_iff_lt, ne_eq, Bool.not_eq_true', decide_eq_false_iff_not]; omega))))
         | (refine ar_cond_false rfl ?_ ?_; (next => (first
          | rfl
          | (simp only [decide_eq_false_iff_not, beq_eq_false_iff_ne, bne_eq_false_iff_eq, ge_iff_le, gt_iff_lt, ne_eq, Bool.not_eq_false', decide_eq_true_eq]; omega))))
         | fail)
        | refine ar_exit ?_
        | refine stk_b_hit ?_
        | refine stk_b_miss rfl ?_
        | refine stk_c_exit ?_
        | refine stk_l_exit ?_
        | (refine arC .ret ?_; refine ar_retM [4, 5] ?_)
        | refine stk_c_ret ?_
        | refine stk_b_ret ?_
        | refine stk_l_ret ?_
        | refine stk_nil ?_
        | fail)
      have hk := hrl 2 (by rw [hkn]; simp [hlast2, kindB])
      refine ar_back ⟨(rndL g r (!false), r.drop (rndN g r), true), ⟨rfl, ?_, ?_, rfl⟩, ⟨hnx, by simp; omega⟩, ?_⟩
      · (repeat' (first
        | exact trivial
        | exact LeL.refl _
        | exact .refl _
        | refine ⟨⟨_, rfl, ?_⟩, ?_⟩
        | refine ⟨⟨_, look_hd, ?_⟩, ?_⟩
        | refine ⟨⟨_, look_tl (by first | assumption | (intro e; exact absurd e.symm (by assumption))) look_hd, ?_⟩, ?_⟩
        | refine ⟨⟨_, look_tl (by first | assumption | (intro e; exact absurd e.symm (by assumption))) (look_tl (by first | assumption | (intro e; exact absurd e.symm (by assumption))) look_hd), ?_⟩, ?_⟩
        | refine ⟨⟨_, look_tl (by first | assumption | (intro e; exact absurd e.symm (by assumption))) (look_tl (by first | assumption | (intro e; exact absurd e.symm (by assumption))) (look_tl (by first | assumption | (intro e; exact absurd e.symm (by assumption))) look_hd)), ?_⟩, ?_⟩
        | refine ⟨⟨_, look_tl (by first | assumption | (intro e; exact absurd e.symm (by assumption))) (look_tl (by first | assumption | (intro e; exact absurd e.symm (by assumption))) (look_tl (by first | assumption | (intro e; exact absurd e.symm (by assumption))) (look_tl (by first | assumption | (intro e; exact absurd e.symm (by assumption))) look_hd))), ?_⟩, ?_⟩
        | exact .nil _ _
        | exact .rd _ _ _
        | refine LeL.cons ?_ ?_
        | exact LeL.nil
        | refine Le1.of_eq ?_))
        all_goals (first | rfl | exact congrArg (fun q => AV.v (.string (mkB q))) hk | rw [hdl])
      · (repeat' (first
        | exact trivial
        | exact LeL.refl _
        | exact .refl _
        | refine ⟨⟨_, rfl, ?_⟩, ?_⟩
        | refine ⟨⟨_, look_hd, ?_⟩, ?_⟩
        | refine ⟨⟨_, look_tl (by first | assumption | (intro e; exact absurd e.symm (by assumption))) look_hd, ?_⟩, ?_⟩
        | refine ⟨⟨_, look_tl (by first | assumption | (intro e; exact absurd e.symm (by assumption))) (look_tl (by first | assumption | (intro e; exact absurd e.symm (by assumption))) look_hd), ?_⟩, ?_⟩
        | refine ⟨⟨_, look_tl (by first | assumption | (intro e; exact absurd e.symm (by assumption))) (look_tl (by first | assumption | (intro e; exact absurd e.symm (by assumption))) (look_tl (by first | assumption | (intro e; exact absurd e.symm (by assumption))) look_hd)), ?_⟩, ?_⟩
        | refine ⟨⟨_, look_tl (by first | assumption | (intro e; exact absurd e.symm (by assumption))) (look_tl (by first | assumption | (intro e; exact absurd e.symm (by assumption))) (look_tl (by first | assumption | (intro e; exact absurd e.symm (by assumption))) (look_tl (by first | assumption | (intro e; exact absurd e.symm (by assumption))) look_hd))), ?_⟩, ?_⟩
        | exact .nil _ _
        | exact .rd _ _ _
        | refine LeL.cons ?_ ?_
        | exact LeL.nil
        | refine Le1.of_eq ?_))
      · exact hmeas
  · have hbt : b = true := by simpa using hb
    subst hbt
    have hrne : ¬ r = [] := by rcases hbr with h | h; cases h; exact h
    have hrd : (!decide (r = [])) = true := by simp [hrne]
    rcases hlc with hlast2 | hlast2
    · have hlast : decide (r.drop (r.take (121 - (g.length + padN g.length) % 128)).length = []) = true := by rw [hdl, hlast2]; rfl
      have hpl := partB_length 4 (r.take (121 - (g.length + padN g.length) % 128))
      repeat (first
        | ((first | apply ar_un | apply stk_un); (next => (first | (simp only [go_sem, Nat.reduceBEq, Nat.reduceEqDiff, reduceIte, reduceCtorEq, String.reduceEq, Nat.reduceAdd, Int.reduceToNat]; exact rfl) | exact rfl)))
        | (first
         | refine ar_unwantedN rfl rfl rfl rfl ?_
         | refine ar_unwantedU rfl rfl rfl rfl ?_
         | (apply ar_opN rfl rfl rfl rfl; (next => (first
          | exact opv_pickt_cb rfl rfl
          | exact opv_pickf_cb rfl rfl
          | exact opv_pickt rfl rfl rfl
          | exact opv_pickf rfl rfl rfl
          | exact opv_len_str (T := TT) rfl rfl rfl
          | exact opv_len_sl (T := TT) rfl rfl rfl
          | fail)))
         | fail)
        | (refine arC .ret ?_; refine ar_retM0 [4, 5] ?_)
        | (refine arC (.cond _ _ _) ?_; (first | (refine ar_cond_true rfl hlast ?_) | (refine ar_cond_false rfl hlast ?_) | (refine ar_cond_true rfl hrd ?_) | fail))
        | (apply ar_op' rfl rfl rfl rfl; (next => (first
         | (refine evalE_ok (T := TT) rfl ?_; (first | exact trivial | omega | (simp [NFL] <;> omega)))
         | (apply opk ⟨_, .move _, _, _, _, _⟩; first | exact opv_const (cst_plain _) (.inl rfl) | fail)
         | (apply opk ⟨_, .binOp .add _ _ _ _, _, _, _, _⟩; first | exact opv_bin rfl rfl rfl | fail)
         | (apply opk ⟨_, .binOp .sub _ _ _ _, _, _, _, _⟩; first | exact opv_bin rfl rfl rfl | fail)
         | (apply opk ⟨_, .binOp .rem _ _ _ _, _, _, _, _⟩; first | (refine opv_rem rfl rfl rfl ?_; (next => (first | omega | (simp [NFL] <;> omega)))) | fail)
         | (apply opk ⟨_, .binOp .eql _ _ _ _, _, _, _, _⟩; first
          | (refine opv_cmp_t rfl rfl rfl ?_; (next => (first | exact rfl | (simp only [cmpP]; omega) | (simp only [cmpP]; simp [NFL] <;> omega))))
          | (refine opv_cmp_f rfl rfl rfl ?_; (next => (first | exact rfl | (simp only [cmpP]; omega) | (simp only [cmpP]; simp [NFL] <;> omega))))
          | exact opv_bin rfl rfl rfl
          | (refine opv_seq_t rfl rfl rfl ?_; (next => (first | rfl | assumption)))
          | (refine opv_seq_f rfl rfl rfl ?_; (next => (first | rfl | assumption)))
          | exact opv_str rfl rfl rfl
          | fail)
         | (apply opk ⟨_, .binOp .neq _ _ _ _, _, _, _, _⟩; first
          | (refine opv_cmp_t rfl rfl rfl ?_; (next => (first | exact rfl | (simp only [cmpP]; omega) | (simp only [cmpP]; simp [NFL] <;> omega))))
          | (refine opv_cmp_f rfl rfl rfl ?_; (next => (first | exact rfl | (simp only [cmpP]; omega) | (simp only [cmpP]; simp [NFL] <;> omega))))
          | exact opv_bin rfl rfl rfl
          | (refine opv_sne_t rfl rfl rfl ?_; (next => (first | rfl | assumption)))
          | (refine opv_sne_f rfl rfl rfl ?_; (next => (first | rfl | assumption)))
          | exact opv_str rfl rfl rfl
          | fail)
         | (apply opk ⟨_, .binOp .gtr _ _ _ _, _, _, _, _⟩; first
          | (refine opv_cmp_t rfl rfl rfl ?_; (next => (first | exact rfl | (simp only [cmpP]; omega) | (simp only [cmpP]; simp [NFL] <;> omega))))
          | (refine opv_cmp_f rfl rfl rfl ?_; (next => (first | exact rfl | (simp only [cmpP]; omega) | (simp only [cmpP]; simp [NFL] <;> omega))))
          | exact opv_bin rfl rfl rfl
          | exact opv_str rfl rfl rfl
          | fail)
         | (apply opk ⟨_, .unOp _ _ _, _, _, _, _⟩; first | exact opv_not_t rfl rfl | exact opv_not_f rfl rfl | exact opv_neg rfl rfl | fail)
         | (apply opk ⟨_, .call { callee := .builtin .len, args := _, argTypes := _ }, _, _, _, _⟩; first
          | exact opv_len_str (T := TT) rfl rfl rfl
          | exact opv_len_sl (T := TT) rfl rfl rfl
          | exact opv_len_nil (T := TT) rfl rfl rfl
          | fail)
         | (apply opk ⟨_, .slice _ _ _ _ _, _, _, _, _⟩; first
          | (refine opv_slice_str (T := TT) (k1 := .i64) (k2 := .u64) rfl rfl rfl rfl ?_ ?_ ?_; (next => (first | omega | (simp [NFL] <;> omega))); (next => (first | omega | (simp [NFL] <;> omega))); (next => (first | omega | (simp [NFL] <;> omega))))
          | (refine opv_slice_str (T := TT) (k1 := .u64) (k2 := .i64) rfl rfl rfl rfl ?_ ?_ ?_; (next => (first | omega | (simp [NFL] <;> omega))); (next => (first | omega | (simp [NFL] <;> omega))); (next => (first | omega | (simp [NFL] <;> omega))))
          | (refine opv_slice_str (T := TT) (k1 := .u64) (k2 := .u64) rfl rfl rfl rfl ?_ ?_ ?_; (next => (first | omega | (simp [NFL] <;> omega))); (next => (first | omega | (simp [NFL] <;> omega))); (next => (first | omega | (simp [NFL] <;> omega))))
          | fail)
         | (apply opk ⟨_, .pick _ _ _, _, _, _, _⟩; first
          | (refine opv_pickt rfl ?_ rfl; (next => (first | rfl | assumption)))
          | (refine opv_pickf rfl ?_ rfl; (next => (first | rfl | assumption)))
          | fail)
         | fail)))
        | (refine arO _ ?_; first
         | (refine arO ⟨_, .move _, _, _, _, _⟩ ?_; first | refine ar_move_sl rfl rfl rfl rfl ?_ | fail)
         | (refine arO ⟨_, .assign _, _, _, _, _⟩ ?_; first
          | refine ar_assign_sl rfl rfl rfl rfl ?_
          | refine ar_op rfl rfl rfl rfl (opv_const (cst_plain _) (.inr rfl)) ?_
          | fail)
         | (refine arO ⟨_, .call { callee := .value _, args := _, argTypes := _ }, _, _, _, _⟩ ?_; first
          | (apply ar_callM0 rfl (noughts_a g.length (by omega)) rfl rfl; (next => (repeat (first
           | exact PArgs.nil
           | (apply PArgs.cons; (next => (first
            | exact PArg.own rfl rfl
            | exact PArg.rd rfl (Le1.refl _) rfl
            | exact PArg.rd rfl (Le1.rd _ _ _) rfl
            | exact PArg.nil rfl
            | exact PArg.rd rfl (Le1.nil _ _) rfl
            | (refine PArg.rd rfl (Le1.of_eq ?_) rfl; congr 2 <;> (first | omega | (simp; omega) | (simp [NFL]; done))))))))); (next => rfl); (next => rfl); rintro _ _ ⟨rfl, rfl⟩; refine ⟨_, rfl, ?_⟩)
          | (apply ar_callM0 rfl (cutTo_i r (128 - ((g.length + (zerosB (padN g.length)).length : Nat) : Int) % 128 - 7) (121 - (g.length + padN g.length) % 128) (by omega) (by omega) (by omega)) rfl rfl; (next => (repeat (first
           | exact PArgs.nil
           | (apply PArgs.cons; (next => (first
            | exact PArg.own rfl rfl
            | exact PArg.rd rfl (Le1.refl _) rfl
            | exact PArg.rd rfl (Le1.rd _ _ _) rfl
            | exact PArg.nil rfl
            | exact PArg.rd rfl (Le1.nil _ _) rfl
            | (refine PArg.rd rfl (Le1.of_eq ?_) rfl; congr 2 <;> (first | omega | (simp; omega) | (simp [NFL]; done))))))))); (next => rfl); (next => rfl); rintro _ _ ⟨rfl, rfl⟩; refine ⟨_, rfl, ?_⟩)
          | (apply ar_callM0 rfl (partOf_a 4 (r.take (121 - (g.length + padN g.length) % 128)) (by omega) (by omega)) rfl rfl; (next => (repeat (first
           | exact PArgs.nil
           | (apply PArgs.cons; (next => (first
            | exact PArg.own rfl rfl
            | exact PArg.rd rfl (Le1.refl _) rfl
            | exact PArg.rd rfl (Le1.rd _ _ _) rfl
            | exact PArg.nil rfl
            | exact PArg.rd rfl (Le1.nil _ _) rfl
            | (refine PArg.rd rfl (Le1.of_eq ?_) rfl; congr 2 <;> (first | omega | (simp; omega) | (simp [NFL]; done))))))))); (next => rfl); (next => rfl); rintro _ _ ⟨rfl, rfl⟩; refine ⟨_, rfl, ?_⟩)
          | fail)
         | fail)
        | refine ar_unwanted' rfl rfl rfl rfl ?_
        | refine ar_seq ?_
        | (refine arE ?_; refine ar_endM [0, 1, 4, 5, 6, 7, 8, 9, 12, 18, 36, 43, 46, 56] rfl ?_)
        | refine ar_region ?_
        | refine ar_block ?_
        | refine ar_skip ?_
        | refine ar_blk ?_
        | refine ar_dedup rfl ?_
        | (refine arC (.cond _ _ _) ?_; first
         | (refine ar_cond_true rfl ?_ ?_; (next => (first | rfl | (simp only [decide_eq_true_eq, beq_iff_eq, bne_iff_ne, ge_iff_le, gt_iff_lt, ne_eq, Bool.not_eq_true', decide_eq_false_iff_not]; omega))))
         | (refine ar_cond_false rfl ?_ ?_; (next => (first
          | rfl
          | (simp only [decide_eq_false_iff_not, beq_eq_false_iff_ne, bne_eq_false_iff_eq, ge_iff_le, gt_iff_lt, ne_eq, Bool.not_eq_false', decide_eq_true_eq]; omega))))
         | fail)
        | refine ar_exit ?_
        | refine stk_b_hit ?_
        | refine stk_b_miss rfl ?_
        | refine stk_c_exit ?_
        | refine stk_l_exit ?_
        | (refine arC .ret ?_; refine ar_retM [4, 5] ?_)
        | refine stk_c_ret ?_
        | refine stk_b_ret ?_
        | refine stk_l_ret ?_
        | refine stk_nil ?_
        | fail)
      have hk := hrl 4 (by rw [hkn]; simp [hlast2, kindB])
      refine ar_back ⟨(rndL g r (!true), r.drop (rndN g r), true), ⟨rfl, ?_, ?_, rfl⟩, ⟨hnx, by simp; omega⟩, ?_⟩
      · (repeat' (first
        | exact trivial
        | exact LeL.refl _
        | exact .refl _
        | refine ⟨⟨_, rfl, ?_⟩, ?_⟩
        | refine ⟨⟨_, look_hd, ?_⟩, ?_⟩
        | refine ⟨⟨_, look_tl (by first | assumption | (intro e; exact absurd e.symm (by assumption))) look_hd, ?_⟩, ?_⟩
        | refine ⟨⟨_, look_tl (by first | assumption | (intro e; exact absurd e.symm (by assumption))) (look_tl (by first | assumption | (intro e; exact absurd e.symm (by assumption))) look_hd), ?_⟩, ?_⟩
        | refine ⟨⟨_, look_tl (by first | assumption | (intro e; exact absurd e.symm (by assumption))) (look_tl (by first | assumption | (intro e; exact absurd e.symm (by assumption))) (look_tl (by first | assumption | (intro e; exact absurd e.symm (by assumption))) look_hd)), ?_⟩, ?_⟩
        | refine ⟨⟨_, look_tl (by first | assumption | (intro e; exact absurd e.symm (by assumption))) (look_tl (by first | assumption | (intro e; exact absurd e.symm (by assumption))) (look_tl (by first | assumption | (intro e; exact absurd e.symm (by assumption))) (look_tl (by first | assumption | (intro e; exact absurd e.symm (by assumption))) look_hd))), ?_⟩, ?_⟩
        | exact .nil _ _
        | exact .rd _ _ _
        | refine LeL.cons ?_ ?_
        | exact LeL.nil
        | refine Le1.of_eq ?_))
        all_goals (first | rfl | exact congrArg (fun q => AV.v (.string (mkB q))) hk | rw [hdl])
      · (repeat' (first
        | exact trivial
        | exact LeL.refl _
        | exact .refl _
        | refine ⟨⟨_, rfl, ?_⟩, ?_⟩
        | refine ⟨⟨_, look_hd, ?_⟩, ?_⟩
        | refine ⟨⟨_, look_tl (by first | assumption | (intro e; exact absurd e.symm (by assumption))) look_hd, ?_⟩, ?_⟩
        | refine ⟨⟨_, look_tl (by first | assumption | (intro e; exact absurd e.symm (by assumption))) (look_tl (by first | assumption | (intro e; exact absurd e.symm (by assumption))) look_hd), ?_⟩, ?_⟩
        | refine ⟨⟨_, look_tl (by first | assumption | (intro e; exact absurd e.symm (by assumption))) (look_tl (by first | assumption | (intro e; exact absurd e.symm (by assumption))) (look_tl (by first | assumption | (intro e; exact absurd e.symm (by assumption))) look_hd)), ?_⟩, ?_⟩
        | refine ⟨⟨_, look_tl (by first | assumption | (intro e; exact absurd e.symm (by assumption))) (look_tl (by first | assumption | (intro e; exact absurd e.symm (by assumption))) (look_tl (by first | assumption | (intro e; exact absurd e.symm (by assumption))) (look_tl (by first | assumption | (intro e; exact absurd e.symm (by assumption))) look_hd))), ?_⟩, ?_⟩
        | exact .nil _ _
        | exact .rd _ _ _
        | refine LeL.cons ?_ ?_
        | exact LeL.nil
        | refine Le1.of_eq ?_))
      · exact hmeas
    · have hlast : decide (r.drop (r.take (121 - (g.length + padN g.length) % 128)).length = []) = false := by rw [hdl]; simp [hlast2]
      have hpl := partB_length 3 (r.take (121 - (g.length + padN g.length) % 128))
      repeat (first
        | ((first | apply ar_un | apply stk_un); (next => (first | (simp only [go_sem, Nat.reduceBEq, Nat.reduceEqDiff, reduceIte, reduceCtorEq, String.reduceEq, Nat.reduceAdd, Int.reduceToNat]; exact rfl) | exact rfl)))
        | (first
         | refine ar_unwantedN rfl rfl rfl rfl ?_
         | refine ar_unwantedU rfl rfl rfl rfl ?_
         | (apply ar_opN rfl rfl rfl rfl; (next => (first
          | exact opv_pickt_cb rfl rfl
          | exact opv_pickf_cb rfl rfl
          | exact opv_pickt rfl rfl rfl
          | exact opv_pickf rfl rfl rfl
          | exact opv_len_str (T := TT) rfl rfl rfl
          | exact opv_len_sl (T := TT) rfl rfl rfl
          | fail)))
         | fail)
        | (refine arC .ret ?_; refine ar_retM0 [4, 5] ?_)
        | (refine arC (.cond _ _ _) ?_; (first | (refine ar_cond_true rfl hlast ?_) | (refine ar_cond_false rfl hlast ?_) | (refine ar_cond_true rfl hrd ?_) | fail))
        | (apply ar_op' rfl rfl rfl rfl; (next => (first
         | (refine evalE_ok (T := TT) rfl ?_; (first | exact trivial | omega | (simp [NFL] <;> omega)))
         | (apply opk ⟨_, .move _, _, _, _, _⟩; first | exact opv_const (cst_plain _) (.inl rfl) | fail)
         | (apply opk ⟨_, .binOp .add _ _ _ _, _, _, _, _⟩; first | exact opv_bin rfl rfl rfl | fail)
         | (apply opk ⟨_, .binOp .sub _ _ _ _, _, _, _, _⟩; first | exact opv_bin rfl rfl rfl | fail)
         | (apply opk ⟨_, .binOp .rem _ _ _ _, _, _, _, _⟩; first | (refine opv_rem rfl rfl rfl ?_; (next => (first | omega | (simp [NFL] <;> omega)))) | fail)
         | (apply opk ⟨_, .binOp .eql _ _ _ _, _, _, _, _⟩; first
          | (refine opv_cmp_t rfl rfl rfl ?_; (next => (first | exact rfl | (simp only [cmpP]; omega) | (simp only [cmpP]; simp [NFL] <;> omega))))
          | (refine opv_cmp_f rfl rfl rfl ?_; (next => (first | exact rfl | (simp only [cmpP]; omega) | (simp only [cmpP]; simp [NFL] <;> omega))))
          | exact opv_bin rfl rfl rfl
          | (refine opv_seq_t rfl rfl rfl ?_; (next => (first | rfl | assumption)))
          | (refine opv_seq_f rfl rfl rfl ?_; (next => (first | rfl | assumption)))
          | exact opv_str rfl rfl rfl
          | fail)
         | (apply opk ⟨_, .binOp .neq _ _ _ _, _, _, _, _⟩; first
          | (refine opv_cmp_t rfl rfl rfl ?_; (next => (first | exact rfl | (simp only [cmpP]; omega) | (simp only [cmpP]; simp [NFL] <;> omega))))
          | (refine opv_cmp_f rfl rfl rfl ?_; (next => (first | exact rfl | (simp only [cmpP]; omega) | (simp only [cmpP]; simp [NFL] <;> omega))))
          | exact opv_bin rfl rfl rfl
          | (refine opv_sne_t rfl rfl rfl ?_; (next => (first | rfl | assumption)))
          | (refine opv_sne_f rfl rfl rfl ?_; (next => (first | rfl | assumption)))
          | exact opv_str rfl rfl rfl
          | fail)
         | (apply opk ⟨_, .binOp .gtr _ _ _ _, _, _, _, _⟩; first
          | (refine opv_cmp_t rfl rfl rfl ?_; (next => (first | exact rfl | (simp only [cmpP]; omega) | (simp only [cmpP]; simp [NFL] <;> omega))))
          | (refine opv_cmp_f rfl rfl rfl ?_; (next => (first | exact rfl | (simp only [cmpP]; omega) | (simp only [cmpP]; simp [NFL] <;> omega))))
          | exact opv_bin rfl rfl rfl
          | exact opv_str rfl rfl rfl
          | fail)
         | (apply opk ⟨_, .unOp _ _ _, _, _, _, _⟩; first | exact opv_not_t rfl rfl | exact opv_not_f rfl rfl | exact opv_neg rfl rfl | fail)
         | (apply opk ⟨_, .call { callee := .builtin .len, args := _, argTypes := _ }, _, _, _, _⟩; first
          | exact opv_len_str (T := TT) rfl rfl rfl
          | exact opv_len_sl (T := TT) rfl rfl rfl
          | exact opv_len_nil (T := TT) rfl rfl rfl
          | fail)
         | (apply opk ⟨_, .slice _ _ _ _ _, _, _, _, _⟩; first
          | (refine opv_slice_str (T := TT) (k1 := .i64) (k2 := .u64) rfl rfl rfl rfl ?_ ?_ ?_; (next => (first | omega | (simp [NFL] <;> omega))); (next => (first | omega | (simp [NFL] <;> omega))); (next => (first | omega | (simp [NFL] <;> omega))))
          | (refine opv_slice_str (T := TT) (k1 := .u64) (k2 := .i64) rfl rfl rfl rfl ?_ ?_ ?_; (next => (first | omega | (simp [NFL] <;> omega))); (next => (first | omega | (simp [NFL] <;> omega))); (next => (first | omega | (simp [NFL] <;> omega))))
          | (refine opv_slice_str (T := TT) (k1 := .u64) (k2 := .u64) rfl rfl rfl rfl ?_ ?_ ?_; (next => (first | omega | (simp [NFL] <;> omega))); (next => (first | omega | (simp [NFL] <;> omega))); (next => (first | omega | (simp [NFL] <;> omega))))
          | fail)
         | (apply opk ⟨_, .pick _ _ _, _, _, _, _⟩; first
          | (refine opv_pickt rfl ?_ rfl; (next => (first | rfl | assumption)))
          | (refine opv_pickf rfl ?_ rfl; (next => (first | rfl | assumption)))
          | fail)
         | fail)))
        | (refine arO _ ?_; first
         | (refine arO ⟨_, .move _, _, _, _, _⟩ ?_; first | refine ar_move_sl rfl rfl rfl rfl ?_ | fail)
         | (refine arO ⟨_, .assign _, _, _, _, _⟩ ?_; first
          | refine ar_assign_sl rfl rfl rfl rfl ?_
          | refine ar_op rfl rfl rfl rfl (opv_const (cst_plain _) (.inr rfl)) ?_
          | fail)
         | (refine arO ⟨_, .call { callee := .value _, args := _, argTypes := _ }, _, _, _, _⟩ ?_; first
          | (apply ar_callM0 rfl (noughts_a g.length (by omega)) rfl rfl; (next => (repeat (first
           | exact PArgs.nil
           | (apply PArgs.cons; (next => (first
            | exact PArg.own rfl rfl
            | exact PArg.rd rfl (Le1.refl _) rfl
            | exact PArg.rd rfl (Le1.rd _ _ _) rfl
            | exact PArg.nil rfl
            | exact PArg.rd rfl (Le1.nil _ _) rfl
            | (refine PArg.rd rfl (Le1.of_eq ?_) rfl; congr 2 <;> (first | omega | (simp; omega) | (simp [NFL]; done))))))))); (next => rfl); (next => rfl); rintro _ _ ⟨rfl, rfl⟩; refine ⟨_, rfl, ?_⟩)
          | (apply ar_callM0 rfl (cutTo_i r (128 - ((g.length + (zerosB (padN g.length)).length : Nat) : Int) % 128 - 7) (121 - (g.length + padN g.length) % 128) (by omega) (by omega) (by omega)) rfl rfl; (next => (repeat (first
           | exact PArgs.nil
           | (apply PArgs.cons; (next => (first
            | exact PArg.own rfl rfl
            | exact PArg.rd rfl (Le1.refl _) rfl
            | exact PArg.rd rfl (Le1.rd _ _ _) rfl
            | exact PArg.nil rfl
            | exact PArg.rd rfl (Le1.nil _ _) rfl
            | (refine PArg.rd rfl (Le1.of_eq ?_) rfl; congr 2 <;> (first | omega | (simp; omega) | (simp [NFL]; done))))))))); (next => rfl); (next => rfl); rintro _ _ ⟨rfl, rfl⟩; refine ⟨_, rfl, ?_⟩)
          | (apply ar_callM0 rfl (partOf_a 3 (r.take (121 - (g.length + padN g.length) % 128)) (by omega) (by omega)) rfl rfl; (next => (repeat (first
           | exact PArgs.nil
           | (apply PArgs.cons; (next => (first
            | exact PArg.own rfl rfl
            | exact PArg.rd rfl (Le1.refl _) rfl
            | exact PArg.rd rfl (Le1.rd _ _ _) rfl
            | exact PArg.nil rfl
            | exact PArg.rd rfl (Le1.nil _ _) rfl
            | (refine PArg.rd rfl (Le1.of_eq ?_) rfl; congr 2 <;> (first | omega | (simp; omega) | (simp [NFL]; done))))))))); (next => rfl); (next => rfl); rintro _ _ ⟨rfl, rfl⟩; refine ⟨_, rfl, ?_⟩)
          | fail)
         | fail)
        | refine ar_unwanted' rfl rfl rfl rfl ?_
        | refine ar_seq ?_
        | (refine arE ?_; refine ar_endM [0, 1, 4, 5, 6, 7, 8, 9, 12, 18, 36, 43, 46, 56] rfl ?_)
        | refine ar_region ?_
        | refine ar_block ?_
        | refine ar_skip ?_
        | refine ar_blk ?_
        | refine ar_dedup rfl ?_
        | (refine arC (.cond _ _ _) ?_; first
         | (refine ar_cond_true rfl ?_ ?_; (next => (first | rfl | (simp only [decide_eq_true_eq, beq_iff_eq, bne_iff_ne, ge_iff_le, gt_iff_lt, ne_eq, Bool.not_eq_true', decide_eq_false_iff_not]; omega))))
         | (refine ar_cond_false rfl ?_ ?_; (next => (first
          | rfl
          | (simp only [decide_eq_false_iff_not, beq_eq_false_iff_ne, bne_eq_false_iff_eq, ge_iff_le, gt_iff_lt, ne_eq, Bool.not_eq_false', decide_eq_true_eq]; omega))))
         | fail)
        | refine ar_exit ?_
        | refine stk_b_hit ?_
        | refine stk_b_miss rfl ?_
        | refine stk_c_exit ?_
        | refine stk_l_exit ?_
        | (refine arC .ret ?_; refine ar_retM [4, 5] ?_)
        | refine stk_c_ret ?_
        | refine stk_b_ret ?_
        | refine stk_l_ret ?_
        | refine stk_nil ?_
        | fail)
      have hk := hrl 3 (by rw [hkn]; simp [hlast2, kindB])
      refine ar_back ⟨(rndL g r (!true), r.drop (rndN g r), true), ⟨rfl, ?_, ?_, rfl⟩, ⟨hnx, by simp; omega⟩, ?_⟩
      · (repeat' (first
        | exact trivial
        | exact LeL.refl _
        | exact .refl _
        | refine ⟨⟨_, rfl, ?_⟩, ?_⟩
        | refine ⟨⟨_, look_hd, ?_⟩, ?_⟩
        | refine ⟨⟨_, look_tl (by first | assumption | (intro e; exact absurd e.symm (by assumption))) look_hd, ?_⟩, ?_⟩
        | refine ⟨⟨_, look_tl (by first | assumption | (intro e; exact absurd e.symm (by assumption))) (look_tl (by first | assumption | (intro e; exact absurd e.symm (by assumption))) look_hd), ?_⟩, ?_⟩
        | refine ⟨⟨_, look_tl (by first | assumption | (intro e; exact absurd e.symm (by assumption))) (look_tl (by first | assumption | (intro e; exact absurd e.symm (by assumption))) (look_tl (by first | assumption | (intro e; exact absurd e.symm (by assumption))) look_hd)), ?_⟩, ?_⟩
        | refine ⟨⟨_, look_tl (by first | assumption | (intro e; exact absurd e.symm (by assumption))) (look_tl (by first | assumption | (intro e; exact absurd e.symm (by assumption))) (look_tl (by first | assumption | (intro e; exact absurd e.symm (by assumption))) (look_tl (by first | assumption | (intro e; exact absurd e.symm (by assumption))) look_hd))), ?_⟩, ?_⟩
        | exact .nil _ _
        | exact .rd _ _ _
        | refine LeL.cons ?_ ?_
        | exact LeL.nil
        | refine Le1.of_eq ?_))
        all_goals (first | rfl | exact congrArg (fun q => AV.v (.string (mkB q))) hk | rw [hdl])
      · (repeat' (first
        | exact trivial
        | exact LeL.refl _
        | exact .refl _
        | refine ⟨⟨_, rfl, ?_⟩, ?_⟩
        | refine ⟨⟨_, look_hd, ?_⟩, ?_⟩
        | refine ⟨⟨_, look_tl (by first | assumption | (intro e; exact absurd e.symm (by assumption))) look_hd, ?_⟩, ?_⟩
        | refine ⟨⟨_, look_tl (by first | assumption | (intro e; exact absurd e.symm (by assumption))) (look_tl (by first | assumption | (intro e; exact absurd e.symm (by assumption))) look_hd), ?_⟩, ?_⟩
        | refine ⟨⟨_, look_tl (by first | assumption | (intro e; exact absurd e.symm (by assumption))) (look_tl (by first | assumption | (intro e; exact absurd e.symm (by assumption))) (look_tl (by first | assumption | (intro e; exact absurd e.symm (by assumption))) look_hd)), ?_⟩, ?_⟩
        | refine ⟨⟨_, look_tl (by first | assumption | (intro e; exact absurd e.symm (by assumption))) (look_tl (by first | assumption | (intro e; exact absurd e.symm (by assumption))) (look_tl (by first | assumption | (intro e; exact absurd e.symm (by assumption))) (look_tl (by first | assumption | (intro e; exact absurd e.symm (by assumption))) look_hd))), ?_⟩, ?_⟩
        | exact .nil _ _
        | exact .rd _ _ _
        | refine LeL.cons ?_ ?_
        | exact LeL.nil
        | refine Le1.of_eq ?_))
      · exact hmeas
end Go.Proofs.Ytgidmcfnnmheoaa
