/- The walk of the law LogGoes. -/
import Derived.Test.YtgidmcfnnmheoaaLL
namespace Go.Proofs.Ytgidmcfnnmheoaa
open Go.RowKit P
set_option linter.unusedSimpArgs false
set_option linter.unusedVariables false
attribute [local irreducible] AS.nf OpV ARun Stk QSem QSemA ACalls EffOp AppOk SrcOk Awp Aops
set_option maxHeartbeats 16000000

set_option maxRecDepth 100000 in
theorem logGoes_a (s r : List UInt8) (hs : s.length ≤ 1000000000) (hr : r.length ≤ 1000000000) : ACalls Try.prog 7 [.v (.string (mkB s)), .v (.string (mkB r))] [] (fun out H => out = .ret (.v (.bool true)) ∧ H = []) := by
  obtain ⟨hl1, hl2⟩ := rdB_len s
  obtain ⟨g1, g2, g3⟩ := rdB_goes s r
  have hrd : ∃ o n, (rdB s).out = o ∧ lastN (rdB s).ends = n ∧ ((o = [] ∧ n = 0) ∨ o ≠ []) := by
    refine ⟨_, _, rfl, rfl, ?_⟩
    by_cases ho : (rdB s).out = []
    · left; refine ⟨ho, ?_⟩
      have : (rdB s).ends = [] := List.length_eq_zero_iff.1 (by rw [hl1, ho]; rfl)
      rw [this]; rfl
    · right; exact ho
  obtain ⟨o, n, ho, hn, hon⟩ := hrd
  rw [hn] at g1 g2 g3
  rw [ho] at g2 hl2
  have hlen := lgApp_len (s.take n) r
  have htl : (s.take n).length = n := by rw [List.length_take]; omega
  have hap := append_a (s.take n) r (by omega)

  have hbig : (appendB (s.take n) r).2 ≠ 0 → 20000 < r.length ∨ 900000 < n + r.length := by
    intro h
    by_cases h1 : 20000 < r.length
    · exact .inl h1
    · right
      unfold appendB at h
      rw [if_neg h1] at h
      by_cases h2 : 1000000 < (lgApp (s.take n) r).length
      · rw [htl] at hlen; omega
      · rw [if_neg h2] at h; exact absurd rfl h
  by_cases he : (appendB (s.take n) r).2 = 0
  · obtain ⟨k1, k2, k3⟩ := appendB_ok he
    rw [k1] at hap
    dsimp only at hap
    have hne : (rdB (lgApp (s.take n) r)).out ≠ [] := by rw [g2]; simp
    have hr2 := read_some (lgApp (s.take n) r) (by omega) _ _ g2 (by simp) g3
    have hst := sameTexts_a (o ++ [r]) (o ++ [r]) (by simp; omega) (by simp; omega)
    rw [decide_eq_true rfl] at hst
    have key : ∀ M, M = List.map txRow (o ++ [r]) → ACalls Try.prog 16 [.sl false 1 (List.map txRow (o ++ [r])), .sl false 1 M] [] (fun out H => out = .ret (.v (.bool true)) ∧ H = []) := by
      rintro M rfl
      exact hst
    have hro : ∀ q ∈ o.map txRow, ∀ u ∈ q, u.one = true := by
      intro q hq u hu
      obtain ⟨x, hx, rfl⟩ := List.mem_map.1 hq
      simp only [txRow, List.mem_singleton] at hu
      subst hu; rfl
    have hmo : (o.map txRow).length = o.length := List.length_map ..
    rcases hon with ⟨rfl, rfl⟩ | hon
    · have hr1 := read_none s (by omega) ho
      have hst := key [[AV.v (.string (mkB r))]] (by simp [txRow])
      clear key
      generalize lgApp (s.take 0) r = g at hap hr2 k2
      refine acalls_enter _ 65 [.tmp 4] Try.func7 (by kernel_rfl) rfl rfl rfl rfl ?_
      dsimp only [slotsOf]
      repeat (first
        | ((first | apply ar_un | apply stk_un); (next => (first | (simp only [go_sem, Nat.reduceBEq, Nat.reduceEqDiff, reduceIte, reduceCtorEq, String.reduceEq, Nat.reduceAdd, Int.reduceToNat]; exact rfl) | exact rfl)))
        | (first
         | refine ar_unwantedN rfl rfl rfl rfl ?_
         | refine ar_unwantedU rfl rfl rfl rfl ?_
         | (apply ar_opN rfl rfl rfl rfl; (next => (first
          | exact opv_pickt_cb rfl rfl
          | exact opv_pickf_cb rfl rfl
          | exact opv_pickt rfl rfl rfl
          | exact opv_pickf rfl rfl rfl
          | exact opv_len_str (T := TT) rfl rfl rfl
          | exact opv_len_sl (T := TT) rfl rfl rfl
          | fail)))
         | fail)
        | (refine arC .ret ?_; refine ar_retM0 [4] ?_)
        | (apply ar_op' rfl rfl rfl rfl; (next => (first
         | (refine evalE_ok (T := TT) rfl ?_; (first | exact trivial | omega | (simp [NFL] <;> omega)))
         | (apply opk ⟨_, .move _, _, _, _, _⟩; first | exact opv_const (cst_plain _) (.inl rfl) | fail)
         | (apply opk ⟨_, .binOp .add _ _ _ _, _, _, _, _⟩; first | exact opv_bin rfl rfl rfl | fail)
         | (apply opk ⟨_, .binOp .eql _ _ _ _, _, _, _, _⟩; first
          | (refine opv_cmp_t rfl rfl rfl ?_; (next => (first | exact rfl | (simp only [cmpP]; omega) | (simp only [cmpP]; simp [NFL] <;> omega))))
          | (refine opv_cmp_f rfl rfl rfl ?_; (next => (first | exact rfl | (simp only [cmpP]; omega) | (simp only [cmpP]; simp [NFL] <;> omega))))
          | exact opv_bin rfl rfl rfl
          | (refine opv_seq_t rfl rfl rfl ?_; (next => (first | rfl | assumption)))
          | (refine opv_seq_f rfl rfl rfl ?_; (next => (first | rfl | assumption)))
          | exact opv_str rfl rfl rfl
          | fail)
         | (apply opk ⟨_, .binOp .neq _ _ _ _, _, _, _, _⟩; first
          | (refine opv_cmp_t rfl rfl rfl ?_; (next => (first | exact rfl | (simp only [cmpP]; omega) | (simp only [cmpP]; simp [NFL] <;> omega))))
          | (refine opv_cmp_f rfl rfl rfl ?_; (next => (first | exact rfl | (simp only [cmpP]; omega) | (simp only [cmpP]; simp [NFL] <;> omega))))
          | exact opv_bin rfl rfl rfl
          | (refine opv_sne_t rfl rfl rfl ?_; (next => (first | rfl | assumption)))
          | (refine opv_sne_f rfl rfl rfl ?_; (next => (first | rfl | assumption)))
          | exact opv_str rfl rfl rfl
          | fail)
         | (apply opk ⟨_, .binOp .lss _ _ _ _, _, _, _, _⟩; first
          | (refine opv_cmp_t rfl rfl rfl ?_; (next => (first | exact rfl | (simp only [cmpP]; omega) | (simp only [cmpP]; simp [NFL] <;> omega))))
          | (refine opv_cmp_f rfl rfl rfl ?_; (next => (first | exact rfl | (simp only [cmpP]; omega) | (simp only [cmpP]; simp [NFL] <;> omega))))
          | exact opv_bin rfl rfl rfl
          | exact opv_str rfl rfl rfl
          | fail)
         | (apply opk ⟨_, .binOp .gtr _ _ _ _, _, _, _, _⟩; first
          | (refine opv_cmp_t rfl rfl rfl ?_; (next => (first | exact rfl | (simp only [cmpP]; omega) | (simp only [cmpP]; simp [NFL] <;> omega))))
          | (refine opv_cmp_f rfl rfl rfl ?_; (next => (first | exact rfl | (simp only [cmpP]; omega) | (simp only [cmpP]; simp [NFL] <;> omega))))
          | exact opv_bin rfl rfl rfl
          | exact opv_str rfl rfl rfl
          | fail)
         | (apply opk ⟨_, .unOp _ _ _, _, _, _, _⟩; first | exact opv_not_t rfl rfl | exact opv_not_f rfl rfl | exact opv_neg rfl rfl | fail)
         | (apply opk ⟨_, .call { callee := .builtin .len, args := _, argTypes := _ }, _, _, _, _⟩; first
          | exact opv_len_str (T := TT) rfl rfl rfl
          | exact opv_len_sl (T := TT) rfl rfl rfl
          | exact opv_len_nil (T := TT) rfl rfl rfl
          | fail)
         | (apply opk ⟨_, .buildSlice _ _ _, _, _, _, _⟩; first | exact opv_build_slice (T := TT) rfl rfl rfl rfl rfl rfl rfl | fail)
         | (apply opk ⟨_, .slice _ _ _ _ _, _, _, _, _⟩; first
          | (refine opv_slice_str (T := TT) (k1 := .i64) (k2 := .u64) rfl rfl rfl rfl ?_ ?_ ?_; (next => (first | omega | (simp [NFL] <;> omega))); (next => (first | omega | (simp [NFL] <;> omega))); (next => (first | omega | (simp [NFL] <;> omega))))
          | (refine opv_slice_str (T := TT) (k1 := .u64) (k2 := .i64) rfl rfl rfl rfl ?_ ?_ ?_; (next => (first | omega | (simp [NFL] <;> omega))); (next => (first | omega | (simp [NFL] <;> omega))); (next => (first | omega | (simp [NFL] <;> omega))))
          | (refine opv_slice_str (T := TT) (k1 := .u64) (k2 := .u64) rfl rfl rfl rfl ?_ ?_ ?_; (next => (first | omega | (simp [NFL] <;> omega))); (next => (first | omega | (simp [NFL] <;> omega))); (next => (first | omega | (simp [NFL] <;> omega))))
          | fail)
         | (apply opk ⟨_, .pick _ _ _, _, _, _, _⟩; first
          | (refine opv_pickt rfl ?_ rfl; (next => (first | rfl | assumption)))
          | (refine opv_pickf rfl ?_ rfl; (next => (first | rfl | assumption)))
          | fail)
         | fail)))
        | (refine arO _ ?_; first
         | (refine arO ⟨_, .move _, _, _, _, _⟩ ?_; first | refine ar_move_sl rfl rfl rfl rfl ?_ | fail)
         | (refine arO ⟨_, .assign _, _, _, _, _⟩ ?_; first
          | refine ar_assign_sl rfl rfl rfl rfl ?_
          | refine ar_op rfl rfl rfl rfl (opv_const (cst_plain _) (.inr rfl)) ?_
          | fail)
         | (refine arO ⟨_, .call { callee := .builtin .append, args := _, argTypes := _ }, _, _, _, _⟩ ?_; first
          | (apply ar_effM rfl rfl; (next => (first
           | (apply effTo_append (T := TT) rfl rfl rfl rfl rfl rfl rfl rfl rfl rfl; (next => (first | exact trivial | exact rowsOne_byteA _ | assumption | (simp [RowsOne, AV.one, AV.rd, AV.cells, cst, Value.oneCell'] <;> omega))); (next => (first | omega | (simp [NFL] <;> omega))))
           | (apply effTo_append (T := TT) rfl (own_c look_hd rfl) rfl rfl rfl rfl rfl rfl rfl rfl; (next => (first | exact trivial | exact rowsOne_byteA _ | assumption | (simp [RowsOne, AV.one, AV.rd, AV.cells, cst, Value.oneCell'] <;> omega))); (next => (first | omega | (simp [NFL] <;> omega))))
           | (apply effTo_append (T := TT) rfl (own_c (look_tl (by first | assumption | (intro e; exact absurd e.symm (by assumption))) look_hd) rfl) rfl rfl rfl rfl rfl rfl rfl rfl; (next => (first | exact trivial | exact rowsOne_byteA _ | assumption | (simp [RowsOne, AV.one, AV.rd, AV.cells, cst, Value.oneCell'] <;> omega))); (next => (first | omega | (simp [NFL] <;> omega))))
           | (apply effTo_append_nil (T := TT) rfl rfl rfl rfl rfl rfl rfl rfl rfl; (next => (first | exact trivial | exact rowsOne_byteA _ | assumption | (simp [RowsOne, AV.one, AV.rd, AV.cells, cst, Value.oneCell'] <;> omega))); (next => (first | omega | (simp [NFL] <;> omega))))
           | fail)))
          | fail)
         | (refine arO ⟨_, .call { callee := .value _, args := _, argTypes := _ }, _, _, _, _⟩ ?_; first
          | (apply ar_callM0 rfl (logBegun_a) rfl rfl; (next => (repeat (first
           | exact PArgs.nil
           | (apply PArgs.cons; (next => (first
            | exact PArg.own rfl rfl
            | exact PArg.rd rfl (Le1.refl _) rfl
            | exact PArg.rd rfl (Le1.rd _ _ _) rfl
            | exact PArg.nil rfl
            | exact PArg.rd rfl (Le1.nil _ _) rfl
            | (refine PArg.rd rfl (Le1.of_eq ?_) rfl; congr 2 <;> (first | omega | (simp; omega) | (simp [NFL]; done))))))))); (next => rfl); (next => rfl); rintro _ _ ⟨rfl, rfl⟩; refine ⟨_, rfl, ?_⟩)
          | (apply ar_callM0 rfl (hr1) rfl rfl; (next => (repeat (first
           | exact PArgs.nil
           | (apply PArgs.cons; (next => (first
            | exact PArg.own rfl rfl
            | exact PArg.rd rfl (Le1.refl _) rfl
            | exact PArg.rd rfl (Le1.rd _ _ _) rfl
            | exact PArg.nil rfl
            | exact PArg.rd rfl (Le1.nil _ _) rfl
            | (refine PArg.rd rfl (Le1.of_eq ?_) rfl; congr 2 <;> (first | omega | (simp; omega) | (simp [NFL]; done))))))))); (next => rfl); (next => rfl); rintro _ _ ⟨rfl, rfl⟩; refine ⟨_, rfl, ?_⟩)
          | (apply ar_callM0 rfl (hr2) rfl rfl; (next => (repeat (first
           | exact PArgs.nil
           | (apply PArgs.cons; (next => (first
            | exact PArg.own rfl rfl
            | exact PArg.rd rfl (Le1.refl _) rfl
            | exact PArg.rd rfl (Le1.rd _ _ _) rfl
            | exact PArg.nil rfl
            | exact PArg.rd rfl (Le1.nil _ _) rfl
            | (refine PArg.rd rfl (Le1.of_eq ?_) rfl; congr 2 <;> (first | omega | (simp; omega) | (simp [NFL]; done))))))))); (next => rfl); (next => rfl); rintro _ _ ⟨rfl, rfl⟩; refine ⟨_, rfl, ?_⟩)
          | (apply ar_callM0 rfl (hap) rfl rfl; (next => (repeat (first
           | exact PArgs.nil
           | (apply PArgs.cons; (next => (first
            | exact PArg.own rfl rfl
            | exact PArg.rd rfl (Le1.refl _) rfl
            | exact PArg.rd rfl (Le1.rd _ _ _) rfl
            | exact PArg.nil rfl
            | exact PArg.rd rfl (Le1.nil _ _) rfl
            | (refine PArg.rd rfl (Le1.of_eq ?_) rfl; congr 2 <;> (first | omega | (simp; omega) | (simp [NFL]; done))))))))); (next => rfl); (next => rfl); rintro _ _ ⟨rfl, rfl⟩; refine ⟨_, rfl, ?_⟩)
          | (apply ar_callM0 rfl (hst) rfl rfl; (next => (repeat (first
           | exact PArgs.nil
           | (apply PArgs.cons; (next => (first
            | exact PArg.own rfl rfl
            | exact PArg.rd rfl (Le1.refl _) rfl
            | exact PArg.rd rfl (Le1.rd _ _ _) rfl
            | exact PArg.nil rfl
            | exact PArg.rd rfl (Le1.nil _ _) rfl
            | (refine PArg.rd rfl (Le1.of_eq ?_) rfl; congr 2 <;> (first | omega | (simp; omega) | (simp [NFL]; done))))))))); (next => rfl); (next => rfl); rintro _ _ ⟨rfl, rfl⟩; refine ⟨_, rfl, ?_⟩)
          | fail)
         | fail)
        | refine ar_unwanted' rfl rfl rfl rfl ?_
        | refine ar_seq ?_
        | (refine arE ?_; refine ar_endM [0, 1, 4, 5, 6, 7, 8, 9, 10, 12, 25, 35] rfl ?_)
        | refine ar_region ?_
        | refine ar_block ?_
        | refine ar_skip ?_
        | refine ar_blk ?_
        | refine ar_dedup rfl ?_
        | (refine arC (.cond _ _ _) ?_; first
         | (refine ar_cond_true rfl ?_ ?_; (next => (first | rfl | (simp only [decide_eq_true_eq, beq_iff_eq, bne_iff_ne, ge_iff_le, gt_iff_lt, ne_eq, Bool.not_eq_true', decide_eq_false_iff_not]; omega))))
         | (refine ar_cond_false rfl ?_ ?_; (next => (first
          | rfl
          | (simp only [decide_eq_false_iff_not, beq_eq_false_iff_ne, bne_eq_false_iff_eq, ge_iff_le, gt_iff_lt, ne_eq, Bool.not_eq_false', decide_eq_true_eq]; omega))))
         | fail)
        | refine ar_exit ?_
        | refine stk_b_hit ?_
        | refine stk_b_miss rfl ?_
        | refine stk_c_exit ?_
        | refine stk_l_exit ?_
        | (refine arC .ret ?_; refine ar_retM [4] ?_)
        | refine stk_c_ret ?_
        | refine stk_b_ret ?_
        | refine stk_l_ret ?_
        | refine stk_nil ?_
        | fail)
      first | exact qret_mk rfl (⟨rfl, rfl⟩) | (trace_state; exact qret_mk rfl (⟨rfl, rfl⟩))
    · have hr1 := read_some s (by omega) o n ho hon hn
      have hst := key (List.map txRow o ++ [[AV.v (.string (mkB r))]]) (by simp [txRow])
      clear key
      generalize lgApp (s.take n) r = g at hap hr2 k2
      refine acalls_enter _ 65 [.tmp 4] Try.func7 (by kernel_rfl) rfl rfl rfl rfl ?_
      dsimp only [slotsOf]
      repeat (first
        | ((first | apply ar_un | apply stk_un); (next => (first | (simp only [go_sem, Nat.reduceBEq, Nat.reduceEqDiff, reduceIte, reduceCtorEq, String.reduceEq, Nat.reduceAdd, Int.reduceToNat]; exact rfl) | exact rfl)))
        | (first
         | refine ar_unwantedN rfl rfl rfl rfl ?_
         | refine ar_unwantedU rfl rfl rfl rfl ?_
         | (apply ar_opN rfl rfl rfl rfl; (next => (first
          | exact opv_pickt_cb rfl rfl
          | exact opv_pickf_cb rfl rfl
          | exact opv_pickt rfl rfl rfl
          | exact opv_pickf rfl rfl rfl
          | exact opv_len_str (T := TT) rfl rfl rfl
          | exact opv_len_sl (T := TT) rfl rfl rfl
          | fail)))
         | fail)
        | (refine arC .ret ?_; refine ar_retM0 [4] ?_)
        | (apply ar_op' rfl rfl rfl rfl; (next => (first
         | (refine evalE_ok (T := TT) rfl ?_; (first | exact trivial | omega | (simp [NFL] <;> omega)))
         | (apply opk ⟨_, .move _, _, _, _, _⟩; first | exact opv_const (cst_plain _) (.inl rfl) | fail)
         | (apply opk ⟨_, .binOp .add _ _ _ _, _, _, _, _⟩; first | exact opv_bin rfl rfl rfl | fail)
         | (apply opk ⟨_, .binOp .eql _ _ _ _, _, _, _, _⟩; first
          | (refine opv_cmp_t rfl rfl rfl ?_; (next => (first | exact rfl | (simp only [cmpP]; omega) | (simp only [cmpP]; simp [NFL] <;> omega))))
          | (refine opv_cmp_f rfl rfl rfl ?_; (next => (first | exact rfl | (simp only [cmpP]; omega) | (simp only [cmpP]; simp [NFL] <;> omega))))
          | exact opv_bin rfl rfl rfl
          | (refine opv_seq_t rfl rfl rfl ?_; (next => (first | rfl | assumption)))
          | (refine opv_seq_f rfl rfl rfl ?_; (next => (first | rfl | assumption)))
          | exact opv_str rfl rfl rfl
          | fail)
         | (apply opk ⟨_, .binOp .neq _ _ _ _, _, _, _, _⟩; first
          | (refine opv_cmp_t rfl rfl rfl ?_; (next => (first | exact rfl | (simp only [cmpP]; omega) | (simp only [cmpP]; simp [NFL] <;> omega))))
          | (refine opv_cmp_f rfl rfl rfl ?_; (next => (first | exact rfl | (simp only [cmpP]; omega) | (simp only [cmpP]; simp [NFL] <;> omega))))
          | exact opv_bin rfl rfl rfl
          | (refine opv_sne_t rfl rfl rfl ?_; (next => (first | rfl | assumption)))
          | (refine opv_sne_f rfl rfl rfl ?_; (next => (first | rfl | assumption)))
          | exact opv_str rfl rfl rfl
          | fail)
         | (apply opk ⟨_, .binOp .lss _ _ _ _, _, _, _, _⟩; first
          | (refine opv_cmp_t rfl rfl rfl ?_; (next => (first | exact rfl | (simp only [cmpP]; omega) | (simp only [cmpP]; simp [NFL] <;> omega))))
          | (refine opv_cmp_f rfl rfl rfl ?_; (next => (first | exact rfl | (simp only [cmpP]; omega) | (simp only [cmpP]; simp [NFL] <;> omega))))
          | exact opv_bin rfl rfl rfl
          | exact opv_str rfl rfl rfl
          | fail)
         | (apply opk ⟨_, .binOp .gtr _ _ _ _, _, _, _, _⟩; first
          | (refine opv_cmp_t rfl rfl rfl ?_; (next => (first | exact rfl | (simp only [cmpP]; omega) | (simp only [cmpP]; simp [NFL] <;> omega))))
          | (refine opv_cmp_f rfl rfl rfl ?_; (next => (first | exact rfl | (simp only [cmpP]; omega) | (simp only [cmpP]; simp [NFL] <;> omega))))
          | exact opv_bin rfl rfl rfl
          | exact opv_str rfl rfl rfl
          | fail)
         | (apply opk ⟨_, .unOp _ _ _, _, _, _, _⟩; first | exact opv_not_t rfl rfl | exact opv_not_f rfl rfl | exact opv_neg rfl rfl | fail)
         | (apply opk ⟨_, .call { callee := .builtin .len, args := _, argTypes := _ }, _, _, _, _⟩; first
          | exact opv_len_str (T := TT) rfl rfl rfl
          | exact opv_len_sl (T := TT) rfl rfl rfl
          | exact opv_len_nil (T := TT) rfl rfl rfl
          | fail)
         | (apply opk ⟨_, .buildSlice _ _ _, _, _, _, _⟩; first | exact opv_build_slice (T := TT) rfl rfl rfl rfl rfl rfl rfl | fail)
         | (apply opk ⟨_, .slice _ _ _ _ _, _, _, _, _⟩; first
          | (refine opv_slice_str (T := TT) (k1 := .i64) (k2 := .u64) rfl rfl rfl rfl ?_ ?_ ?_; (next => (first | omega | (simp [NFL] <;> omega))); (next => (first | omega | (simp [NFL] <;> omega))); (next => (first | omega | (simp [NFL] <;> omega))))
          | (refine opv_slice_str (T := TT) (k1 := .u64) (k2 := .i64) rfl rfl rfl rfl ?_ ?_ ?_; (next => (first | omega | (simp [NFL] <;> omega))); (next => (first | omega | (simp [NFL] <;> omega))); (next => (first | omega | (simp [NFL] <;> omega))))
          | (refine opv_slice_str (T := TT) (k1 := .u64) (k2 := .u64) rfl rfl rfl rfl ?_ ?_ ?_; (next => (first | omega | (simp [NFL] <;> omega))); (next => (first | omega | (simp [NFL] <;> omega))); (next => (first | omega | (simp [NFL] <;> omega))))
          | fail)
         | (apply opk ⟨_, .pick _ _ _, _, _, _, _⟩; first
          | (refine opv_pickt rfl ?_ rfl; (next => (first | rfl | assumption)))
          | (refine opv_pickf rfl ?_ rfl; (next => (first | rfl | assumption)))
          | fail)
         | fail)))
        | (refine arO _ ?_; first
         | (refine arO ⟨_, .move _, _, _, _, _⟩ ?_; first | refine ar_move_sl rfl rfl rfl rfl ?_ | fail)
         | (refine arO ⟨_, .assign _, _, _, _, _⟩ ?_; first
          | refine ar_assign_sl rfl rfl rfl rfl ?_
          | refine ar_op rfl rfl rfl rfl (opv_const (cst_plain _) (.inr rfl)) ?_
          | fail)
         | (refine arO ⟨_, .call { callee := .builtin .append, args := _, argTypes := _ }, _, _, _, _⟩ ?_; first
          | (apply ar_effM rfl rfl; (next => (first
           | (apply effTo_append (T := TT) rfl rfl rfl rfl rfl rfl rfl rfl rfl rfl; (next => (first | exact trivial | exact rowsOne_byteA _ | assumption | (simp [RowsOne, AV.one, AV.rd, AV.cells, cst, Value.oneCell'] <;> omega))); (next => (first | omega | (simp [NFL] <;> omega))))
           | (apply effTo_append (T := TT) rfl (own_c look_hd rfl) rfl rfl rfl rfl rfl rfl rfl rfl; (next => (first | exact trivial | exact rowsOne_byteA _ | assumption | (simp [RowsOne, AV.one, AV.rd, AV.cells, cst, Value.oneCell'] <;> omega))); (next => (first | omega | (simp [NFL] <;> omega))))
           | (apply effTo_append (T := TT) rfl (own_c (look_tl (by first | assumption | (intro e; exact absurd e.symm (by assumption))) look_hd) rfl) rfl rfl rfl rfl rfl rfl rfl rfl; (next => (first | exact trivial | exact rowsOne_byteA _ | assumption | (simp [RowsOne, AV.one, AV.rd, AV.cells, cst, Value.oneCell'] <;> omega))); (next => (first | omega | (simp [NFL] <;> omega))))
           | (apply effTo_append_nil (T := TT) rfl rfl rfl rfl rfl rfl rfl rfl rfl; (next => (first | exact trivial | exact rowsOne_byteA _ | assumption | (simp [RowsOne, AV.one, AV.rd, AV.cells, cst, Value.oneCell'] <;> omega))); (next => (first | omega | (simp [NFL] <;> omega))))
           | fail)))
          | fail)
         | (refine arO ⟨_, .call { callee := .value _, args := _, argTypes := _ }, _, _, _, _⟩ ?_; first
          | (apply ar_callM0 rfl (logBegun_a) rfl rfl; (next => (repeat (first
           | exact PArgs.nil
           | (apply PArgs.cons; (next => (first
            | exact PArg.own rfl rfl
            | exact PArg.rd rfl (Le1.refl _) rfl
            | exact PArg.rd rfl (Le1.rd _ _ _) rfl
            | exact PArg.nil rfl
            | exact PArg.rd rfl (Le1.nil _ _) rfl
            | (refine PArg.rd rfl (Le1.of_eq ?_) rfl; congr 2 <;> (first | omega | (simp; omega) | (simp [NFL]; done))))))))); (next => rfl); (next => rfl); rintro _ _ ⟨rfl, rfl⟩; refine ⟨_, rfl, ?_⟩)
          | (apply ar_callM0 rfl (hr1) rfl rfl; (next => (repeat (first
           | exact PArgs.nil
           | (apply PArgs.cons; (next => (first
            | exact PArg.own rfl rfl
            | exact PArg.rd rfl (Le1.refl _) rfl
            | exact PArg.rd rfl (Le1.rd _ _ _) rfl
            | exact PArg.nil rfl
            | exact PArg.rd rfl (Le1.nil _ _) rfl
            | (refine PArg.rd rfl (Le1.of_eq ?_) rfl; congr 2 <;> (first | omega | (simp; omega) | (simp [NFL]; done))))))))); (next => rfl); (next => rfl); rintro _ _ ⟨rfl, rfl⟩; refine ⟨_, rfl, ?_⟩)
          | (apply ar_callM0 rfl (hr2) rfl rfl; (next => (repeat (first
           | exact PArgs.nil
           | (apply PArgs.cons; (next => (first
            | exact PArg.own rfl rfl
            | exact PArg.rd rfl (Le1.refl _) rfl
            | exact PArg.rd rfl (Le1.rd _ _ _) rfl
            | exact PArg.nil rfl
            | exact PArg.rd rfl (Le1.nil _ _) rfl
            | (refine PArg.rd rfl (Le1.of_eq ?_) rfl; congr 2 <;> (first | omega | (simp; omega) | (simp [NFL]; done))))))))); (next => rfl); (next => rfl); rintro _ _ ⟨rfl, rfl⟩; refine ⟨_, rfl, ?_⟩)
          | (apply ar_callM0 rfl (hap) rfl rfl; (next => (repeat (first
           | exact PArgs.nil
           | (apply PArgs.cons; (next => (first
            | exact PArg.own rfl rfl
            | exact PArg.rd rfl (Le1.refl _) rfl
            | exact PArg.rd rfl (Le1.rd _ _ _) rfl
            | exact PArg.nil rfl
            | exact PArg.rd rfl (Le1.nil _ _) rfl
            | (refine PArg.rd rfl (Le1.of_eq ?_) rfl; congr 2 <;> (first | omega | (simp; omega) | (simp [NFL]; done))))))))); (next => rfl); (next => rfl); rintro _ _ ⟨rfl, rfl⟩; refine ⟨_, rfl, ?_⟩)
          | (apply ar_callM0 rfl (hst) rfl rfl; (next => (repeat (first
           | exact PArgs.nil
           | (apply PArgs.cons; (next => (first
            | exact PArg.own rfl rfl
            | exact PArg.rd rfl (Le1.refl _) rfl
            | exact PArg.rd rfl (Le1.rd _ _ _) rfl
            | exact PArg.nil rfl
            | exact PArg.rd rfl (Le1.nil _ _) rfl
            | (refine PArg.rd rfl (Le1.of_eq ?_) rfl; congr 2 <;> (first | omega | (simp; omega) | (simp [NFL]; done))))))))); (next => rfl); (next => rfl); rintro _ _ ⟨rfl, rfl⟩; refine ⟨_, rfl, ?_⟩)
          | fail)
         | fail)
        | refine ar_unwanted' rfl rfl rfl rfl ?_
        | refine ar_seq ?_
        | (refine arE ?_; refine ar_endM [0, 1, 4, 5, 6, 7, 8, 9, 10, 12, 25, 35] rfl ?_)
        | refine ar_region ?_
        | refine ar_block ?_
        | refine ar_skip ?_
        | refine ar_blk ?_
        | refine ar_dedup rfl ?_
        | (refine arC (.cond _ _ _) ?_; first
         | (refine ar_cond_true rfl ?_ ?_; (next => (first | rfl | (simp only [decide_eq_true_eq, beq_iff_eq, bne_iff_ne, ge_iff_le, gt_iff_lt, ne_eq, Bool.not_eq_true', decide_eq_false_iff_not]; omega))))
         | (refine ar_cond_false rfl ?_ ?_; (next => (first
          | rfl
          | (simp only [decide_eq_false_iff_not, beq_eq_false_iff_ne, bne_eq_false_iff_eq, ge_iff_le, gt_iff_lt, ne_eq, Bool.not_eq_false', decide_eq_true_eq]; omega))))
         | fail)
        | refine ar_exit ?_
        | refine stk_b_hit ?_
        | refine stk_b_miss rfl ?_
        | refine stk_c_exit ?_
        | refine stk_l_exit ?_
        | (refine arC .ret ?_; refine ar_retM [4] ?_)
        | refine stk_c_ret ?_
        | refine stk_b_ret ?_
        | refine stk_l_ret ?_
        | refine stk_nil ?_
        | fail)
      first | exact qret_mk rfl (⟨rfl, rfl⟩) | (trace_state; exact qret_mk rfl (⟨rfl, rfl⟩))
  · have hb := hbig he
    rw [appendB_bad he] at hap
    rcases hon with ⟨rfl, rfl⟩ | hon
    · have hr1 := read_none s (by omega) ho
      have h5 : 20000 < r.length := by omega
      refine acalls_enter _ 65 [.tmp 4] Try.func7 (by kernel_rfl) rfl rfl rfl rfl ?_
      dsimp only [slotsOf]
      repeat (first
        | ((first | apply ar_un | apply stk_un); (next => (first | (simp only [go_sem, Nat.reduceBEq, Nat.reduceEqDiff, reduceIte, reduceCtorEq, String.reduceEq, Nat.reduceAdd, Int.reduceToNat]; exact rfl) | exact rfl)))
        | (first
         | refine ar_unwantedN rfl rfl rfl rfl ?_
         | refine ar_unwantedU rfl rfl rfl rfl ?_
         | (apply ar_opN rfl rfl rfl rfl; (next => (first
          | exact opv_pickt_cb rfl rfl
          | exact opv_pickf_cb rfl rfl
          | exact opv_pickt rfl rfl rfl
          | exact opv_pickf rfl rfl rfl
          | exact opv_len_str (T := TT) rfl rfl rfl
          | exact opv_len_sl (T := TT) rfl rfl rfl
          | fail)))
         | fail)
        | (refine arC .ret ?_; refine ar_retM0 [4] ?_)
        | (apply ar_op' rfl rfl rfl rfl; (next => (first
         | (refine evalE_ok (T := TT) rfl ?_; (first | exact trivial | omega | (simp [NFL] <;> omega)))
         | (apply opk ⟨_, .move _, _, _, _, _⟩; first | exact opv_const (cst_plain _) (.inl rfl) | fail)
         | (apply opk ⟨_, .binOp .add _ _ _ _, _, _, _, _⟩; first | exact opv_bin rfl rfl rfl | fail)
         | (apply opk ⟨_, .binOp .eql _ _ _ _, _, _, _, _⟩; first
          | (refine opv_cmp_t rfl rfl rfl ?_; (next => (first | exact rfl | (simp only [cmpP]; omega) | (simp only [cmpP]; simp [NFL] <;> omega))))
          | (refine opv_cmp_f rfl rfl rfl ?_; (next => (first | exact rfl | (simp only [cmpP]; omega) | (simp only [cmpP]; simp [NFL] <;> omega))))
          | exact opv_bin rfl rfl rfl
          | (refine opv_seq_t rfl rfl rfl ?_; (next => (first | rfl | assumption)))
          | (refine opv_seq_f rfl rfl rfl ?_; (next => (first | rfl | assumption)))
          | exact opv_str rfl rfl rfl
          | fail)
         | (apply opk ⟨_, .binOp .neq _ _ _ _, _, _, _, _⟩; first
          | (refine opv_cmp_t rfl rfl rfl ?_; (next => (first | exact rfl | (simp only [cmpP]; omega) | (simp only [cmpP]; simp [NFL] <;> omega))))
          | (refine opv_cmp_f rfl rfl rfl ?_; (next => (first | exact rfl | (simp only [cmpP]; omega) | (simp only [cmpP]; simp [NFL] <;> omega))))
          | exact opv_bin rfl rfl rfl
          | (refine opv_sne_t rfl rfl rfl ?_; (next => (first | rfl | assumption)))
          | (refine opv_sne_f rfl rfl rfl ?_; (next => (first | rfl | assumption)))
          | exact opv_str rfl rfl rfl
          | fail)
         | (apply opk ⟨_, .binOp .lss _ _ _ _, _, _, _, _⟩; first
          | (refine opv_cmp_t rfl rfl rfl ?_; (next => (first | exact rfl | (simp only [cmpP]; omega) | (simp only [cmpP]; simp [NFL] <;> omega))))
          | (refine opv_cmp_f rfl rfl rfl ?_; (next => (first | exact rfl | (simp only [cmpP]; omega) | (simp only [cmpP]; simp [NFL] <;> omega))))
          | exact opv_bin rfl rfl rfl
          | exact opv_str rfl rfl rfl
          | fail)
         | (apply opk ⟨_, .binOp .gtr _ _ _ _, _, _, _, _⟩; first
          | (refine opv_cmp_t rfl rfl rfl ?_; (next => (first | exact rfl | (simp only [cmpP]; omega) | (simp only [cmpP]; simp [NFL] <;> omega))))
          | (refine opv_cmp_f rfl rfl rfl ?_; (next => (first | exact rfl | (simp only [cmpP]; omega) | (simp only [cmpP]; simp [NFL] <;> omega))))
          | exact opv_bin rfl rfl rfl
          | exact opv_str rfl rfl rfl
          | fail)
         | (apply opk ⟨_, .unOp _ _ _, _, _, _, _⟩; first | exact opv_not_t rfl rfl | exact opv_not_f rfl rfl | exact opv_neg rfl rfl | fail)
         | (apply opk ⟨_, .call { callee := .builtin .len, args := _, argTypes := _ }, _, _, _, _⟩; first
          | exact opv_len_str (T := TT) rfl rfl rfl
          | exact opv_len_sl (T := TT) rfl rfl rfl
          | exact opv_len_nil (T := TT) rfl rfl rfl
          | fail)
         | (apply opk ⟨_, .buildSlice _ _ _, _, _, _, _⟩; first | exact opv_build_slice (T := TT) rfl rfl rfl rfl rfl rfl rfl | fail)
         | (apply opk ⟨_, .slice _ _ _ _ _, _, _, _, _⟩; first
          | (refine opv_slice_str (T := TT) (k1 := .i64) (k2 := .u64) rfl rfl rfl rfl ?_ ?_ ?_; (next => (first | omega | (simp [NFL] <;> omega))); (next => (first | omega | (simp [NFL] <;> omega))); (next => (first | omega | (simp [NFL] <;> omega))))
          | (refine opv_slice_str (T := TT) (k1 := .u64) (k2 := .i64) rfl rfl rfl rfl ?_ ?_ ?_; (next => (first | omega | (simp [NFL] <;> omega))); (next => (first | omega | (simp [NFL] <;> omega))); (next => (first | omega | (simp [NFL] <;> omega))))
          | (refine opv_slice_str (T := TT) (k1 := .u64) (k2 := .u64) rfl rfl rfl rfl ?_ ?_ ?_; (next => (first | omega | (simp [NFL] <;> omega))); (next => (first | omega | (simp [NFL] <;> omega))); (next => (first | omega | (simp [NFL] <;> omega))))
          | fail)
         | (apply opk ⟨_, .pick _ _ _, _, _, _, _⟩; first
          | (refine opv_pickt rfl ?_ rfl; (next => (first | rfl | assumption)))
          | (refine opv_pickf rfl ?_ rfl; (next => (first | rfl | assumption)))
          | fail)
         | fail)))
        | (refine arO _ ?_; first
         | (refine arO ⟨_, .move _, _, _, _, _⟩ ?_; first | refine ar_move_sl rfl rfl rfl rfl ?_ | fail)
         | (refine arO ⟨_, .assign _, _, _, _, _⟩ ?_; first
          | refine ar_assign_sl rfl rfl rfl rfl ?_
          | refine ar_op rfl rfl rfl rfl (opv_const (cst_plain _) (.inr rfl)) ?_
          | fail)
         | (refine arO ⟨_, .call { callee := .builtin .append, args := _, argTypes := _ }, _, _, _, _⟩ ?_; first
          | (apply ar_effM rfl rfl; (next => (first
           | (apply effTo_append (T := TT) rfl rfl rfl rfl rfl rfl rfl rfl rfl rfl; (next => (first | exact trivial | exact rowsOne_byteA _ | assumption | (simp [RowsOne, AV.one, AV.rd, AV.cells, cst, Value.oneCell'] <;> omega))); (next => (first | omega | (simp [NFL] <;> omega))))
           | (apply effTo_append (T := TT) rfl (own_c look_hd rfl) rfl rfl rfl rfl rfl rfl rfl rfl; (next => (first | exact trivial | exact rowsOne_byteA _ | assumption | (simp [RowsOne, AV.one, AV.rd, AV.cells, cst, Value.oneCell'] <;> omega))); (next => (first | omega | (simp [NFL] <;> omega))))
           | (apply effTo_append (T := TT) rfl (own_c (look_tl (by first | assumption | (intro e; exact absurd e.symm (by assumption))) look_hd) rfl) rfl rfl rfl rfl rfl rfl rfl rfl; (next => (first | exact trivial | exact rowsOne_byteA _ | assumption | (simp [RowsOne, AV.one, AV.rd, AV.cells, cst, Value.oneCell'] <;> omega))); (next => (first | omega | (simp [NFL] <;> omega))))
           | (apply effTo_append_nil (T := TT) rfl rfl rfl rfl rfl rfl rfl rfl rfl; (next => (first | exact trivial | exact rowsOne_byteA _ | assumption | (simp [RowsOne, AV.one, AV.rd, AV.cells, cst, Value.oneCell'] <;> omega))); (next => (first | omega | (simp [NFL] <;> omega))))
           | fail)))
          | fail)
         | (refine arO ⟨_, .call { callee := .value _, args := _, argTypes := _ }, _, _, _, _⟩ ?_; first
          | (apply ar_callM0 rfl (logBegun_a) rfl rfl; (next => (repeat (first
           | exact PArgs.nil
           | (apply PArgs.cons; (next => (first
            | exact PArg.own rfl rfl
            | exact PArg.rd rfl (Le1.refl _) rfl
            | exact PArg.rd rfl (Le1.rd _ _ _) rfl
            | exact PArg.nil rfl
            | exact PArg.rd rfl (Le1.nil _ _) rfl
            | (refine PArg.rd rfl (Le1.of_eq ?_) rfl; congr 2 <;> (first | omega | (simp; omega) | (simp [NFL]; done))))))))); (next => rfl); (next => rfl); rintro _ _ ⟨rfl, rfl⟩; refine ⟨_, rfl, ?_⟩)
          | (apply ar_callM0 rfl (hr1) rfl rfl; (next => (repeat (first
           | exact PArgs.nil
           | (apply PArgs.cons; (next => (first
            | exact PArg.own rfl rfl
            | exact PArg.rd rfl (Le1.refl _) rfl
            | exact PArg.rd rfl (Le1.rd _ _ _) rfl
            | exact PArg.nil rfl
            | exact PArg.rd rfl (Le1.nil _ _) rfl
            | (refine PArg.rd rfl (Le1.of_eq ?_) rfl; congr 2 <;> (first | omega | (simp; omega) | (simp [NFL]; done))))))))); (next => rfl); (next => rfl); rintro _ _ ⟨rfl, rfl⟩; refine ⟨_, rfl, ?_⟩)
          | (apply ar_callM0 rfl (hap) rfl rfl; (next => (repeat (first
           | exact PArgs.nil
           | (apply PArgs.cons; (next => (first
            | exact PArg.own rfl rfl
            | exact PArg.rd rfl (Le1.refl _) rfl
            | exact PArg.rd rfl (Le1.rd _ _ _) rfl
            | exact PArg.nil rfl
            | exact PArg.rd rfl (Le1.nil _ _) rfl
            | (refine PArg.rd rfl (Le1.of_eq ?_) rfl; congr 2 <;> (first | omega | (simp; omega) | (simp [NFL]; done))))))))); (next => rfl); (next => rfl); rintro _ _ ⟨rfl, rfl⟩; refine ⟨_, rfl, ?_⟩)
          | fail)
         | fail)
        | refine ar_unwanted' rfl rfl rfl rfl ?_
        | refine ar_seq ?_
        | (refine arE ?_; refine ar_endM [0, 1, 4, 5, 6, 7, 8, 9, 10, 12, 25, 35] rfl ?_)
        | refine ar_region ?_
        | refine ar_block ?_
        | refine ar_skip ?_
        | refine ar_blk ?_
        | refine ar_dedup rfl ?_
        | (refine arC (.cond _ _ _) ?_; first
         | (refine ar_cond_true rfl ?_ ?_; (next => (first | rfl | (simp only [decide_eq_true_eq, beq_iff_eq, bne_iff_ne, ge_iff_le, gt_iff_lt, ne_eq, Bool.not_eq_true', decide_eq_false_iff_not]; omega))))
         | (refine ar_cond_false rfl ?_ ?_; (next => (first
          | rfl
          | (simp only [decide_eq_false_iff_not, beq_eq_false_iff_ne, bne_eq_false_iff_eq, ge_iff_le, gt_iff_lt, ne_eq, Bool.not_eq_false', decide_eq_true_eq]; omega))))
         | fail)
        | refine ar_exit ?_
        | refine stk_b_hit ?_
        | refine stk_b_miss rfl ?_
        | refine stk_c_exit ?_
        | refine stk_l_exit ?_
        | (refine arC .ret ?_; refine ar_retM [4] ?_)
        | refine stk_c_ret ?_
        | refine stk_b_ret ?_
        | refine stk_l_ret ?_
        | refine stk_nil ?_
        | fail)
      first | exact qret_mk rfl (⟨rfl, rfl⟩) | (trace_state; exact qret_mk rfl (⟨rfl, rfl⟩))
    · have hr1 := read_some s (by omega) o n ho hon hn
      refine acalls_enter _ 65 [.tmp 4] Try.func7 (by kernel_rfl) rfl rfl rfl rfl ?_
      dsimp only [slotsOf]
      by_cases h5 : 20000 < r.length
      all_goals (repeat (first
        | ((first | apply ar_un | apply stk_un); (next => (first | (simp only [go_sem, Nat.reduceBEq, Nat.reduceEqDiff, reduceIte, reduceCtorEq, String.reduceEq, Nat.reduceAdd, Int.reduceToNat]; exact rfl) | exact rfl)))
        | (first
         | refine ar_unwantedN rfl rfl rfl rfl ?_
         | refine ar_unwantedU rfl rfl rfl rfl ?_
         | (apply ar_opN rfl rfl rfl rfl; (next => (first
          | exact opv_pickt_cb rfl rfl
          | exact opv_pickf_cb rfl rfl
          | exact opv_pickt rfl rfl rfl
          | exact opv_pickf rfl rfl rfl
          | exact opv_len_str (T := TT) rfl rfl rfl
          | exact opv_len_sl (T := TT) rfl rfl rfl
          | fail)))
         | fail)
        | (refine arC .ret ?_; refine ar_retM0 [4] ?_)
        | (apply ar_op' rfl rfl rfl rfl; (next => (first
         | (refine evalE_ok (T := TT) rfl ?_; (first | exact trivial | omega | (simp [NFL] <;> omega)))
         | (apply opk ⟨_, .move _, _, _, _, _⟩; first | exact opv_const (cst_plain _) (.inl rfl) | fail)
         | (apply opk ⟨_, .binOp .add _ _ _ _, _, _, _, _⟩; first | exact opv_bin rfl rfl rfl | fail)
         | (apply opk ⟨_, .binOp .eql _ _ _ _, _, _, _, _⟩; first
          | (refine opv_cmp_t rfl rfl rfl ?_; (next => (first | exact rfl | (simp only [cmpP]; omega) | (simp only [cmpP]; simp [NFL] <;> omega))))
          | (refine opv_cmp_f rfl rfl rfl ?_; (next => (first | exact rfl | (simp only [cmpP]; omega) | (simp only [cmpP]; simp [NFL] <;> omega))))
          | exact opv_bin rfl rfl rfl
          | (refine opv_seq_t rfl rfl rfl ?_; (next => (first | rfl | assumption)))
          | (refine opv_seq_f rfl rfl rfl ?_; (next => (first | rfl | assumption)))
          | exact opv_str rfl rfl rfl
          | fail)
         | (apply opk ⟨_, .binOp .neq _ _ _ _, _, _, _, _⟩; first
          | (refine opv_cmp_t rfl rfl rfl ?_; (next => (first | exact rfl | (simp only [cmpP]; omega) | (simp only [cmpP]; simp [NFL] <;> omega))))
          | (refine opv_cmp_f rfl rfl rfl ?_; (next => (first | exact rfl | (simp only [cmpP]; omega) | (simp only [cmpP]; simp [NFL] <;> omega))))
          | exact opv_bin rfl rfl rfl
          | (refine opv_sne_t rfl rfl rfl ?_; (next => (first | rfl | assumption)))
          | (refine opv_sne_f rfl rfl rfl ?_; (next => (first | rfl | assumption)))
          | exact opv_str rfl rfl rfl
          | fail)
         | (apply opk ⟨_, .binOp .lss _ _ _ _, _, _, _, _⟩; first
          | (refine opv_cmp_t rfl rfl rfl ?_; (next => (first | exact rfl | (simp only [cmpP]; omega) | (simp only [cmpP]; simp [NFL] <;> omega))))
          | (refine opv_cmp_f rfl rfl rfl ?_; (next => (first | exact rfl | (simp only [cmpP]; omega) | (simp only [cmpP]; simp [NFL] <;> omega))))
          | exact opv_bin rfl rfl rfl
          | exact opv_str rfl rfl rfl
          | fail)
         | (apply opk ⟨_, .binOp .gtr _ _ _ _, _, _, _, _⟩; first
          | (refine opv_cmp_t rfl rfl rfl ?_; (next => (first | exact rfl | (simp only [cmpP]; omega) | (simp only [cmpP]; simp [NFL] <;> omega))))
          | (refine opv_cmp_f rfl rfl rfl ?_; (next => (first | exact rfl | (simp only [cmpP]; omega) | (simp only [cmpP]; simp [NFL] <;> omega))))
          | exact opv_bin rfl rfl rfl
          | exact opv_str rfl rfl rfl
          | fail)
         | (apply opk ⟨_, .unOp _ _ _, _, _, _, _⟩; first | exact opv_not_t rfl rfl | exact opv_not_f rfl rfl | exact opv_neg rfl rfl | fail)
         | (apply opk ⟨_, .call { callee := .builtin .len, args := _, argTypes := _ }, _, _, _, _⟩; first
          | exact opv_len_str (T := TT) rfl rfl rfl
          | exact opv_len_sl (T := TT) rfl rfl rfl
          | exact opv_len_nil (T := TT) rfl rfl rfl
          | fail)
         | (apply opk ⟨_, .buildSlice _ _ _, _, _, _, _⟩; first | exact opv_build_slice (T := TT) rfl rfl rfl rfl rfl rfl rfl | fail)
         | (apply opk ⟨_, .slice _ _ _ _ _, _, _, _, _⟩; first
          | (refine opv_slice_str (T := TT) (k1 := .i64) (k2 := .u64) rfl rfl rfl rfl ?_ ?_ ?_; (next => (first | omega | (simp [NFL] <;> omega))); (next => (first | omega | (simp [NFL] <;> omega))); (next => (first | omega | (simp [NFL] <;> omega))))
          | (refine opv_slice_str (T := TT) (k1 := .u64) (k2 := .i64) rfl rfl rfl rfl ?_ ?_ ?_; (next => (first | omega | (simp [NFL] <;> omega))); (next => (first | omega | (simp [NFL] <;> omega))); (next => (first | omega | (simp [NFL] <;> omega))))
          | (refine opv_slice_str (T := TT) (k1 := .u64) (k2 := .u64) rfl rfl rfl rfl ?_ ?_ ?_; (next => (first | omega | (simp [NFL] <;> omega))); (next => (first | omega | (simp [NFL] <;> omega))); (next => (first | omega | (simp [NFL] <;> omega))))
          | fail)
         | (apply opk ⟨_, .pick _ _ _, _, _, _, _⟩; first
          | (refine opv_pickt rfl ?_ rfl; (next => (first | rfl | assumption)))
          | (refine opv_pickf rfl ?_ rfl; (next => (first | rfl | assumption)))
          | fail)
         | fail)))
        | (refine arO _ ?_; first
         | (refine arO ⟨_, .move _, _, _, _, _⟩ ?_; first | refine ar_move_sl rfl rfl rfl rfl ?_ | fail)
         | (refine arO ⟨_, .assign _, _, _, _, _⟩ ?_; first
          | refine ar_assign_sl rfl rfl rfl rfl ?_
          | refine ar_op rfl rfl rfl rfl (opv_const (cst_plain _) (.inr rfl)) ?_
          | fail)
         | (refine arO ⟨_, .call { callee := .builtin .append, args := _, argTypes := _ }, _, _, _, _⟩ ?_; first
          | (apply ar_effM rfl rfl; (next => (first
           | (apply effTo_append (T := TT) rfl rfl rfl rfl rfl rfl rfl rfl rfl rfl; (next => (first | exact trivial | exact rowsOne_byteA _ | assumption | (simp [RowsOne, AV.one, AV.rd, AV.cells, cst, Value.oneCell'] <;> omega))); (next => (first | omega | (simp [NFL] <;> omega))))
           | (apply effTo_append (T := TT) rfl (own_c look_hd rfl) rfl rfl rfl rfl rfl rfl rfl rfl; (next => (first | exact trivial | exact rowsOne_byteA _ | assumption | (simp [RowsOne, AV.one, AV.rd, AV.cells, cst, Value.oneCell'] <;> omega))); (next => (first | omega | (simp [NFL] <;> omega))))
           | (apply effTo_append (T := TT) rfl (own_c (look_tl (by first | assumption | (intro e; exact absurd e.symm (by assumption))) look_hd) rfl) rfl rfl rfl rfl rfl rfl rfl rfl; (next => (first | exact trivial | exact rowsOne_byteA _ | assumption | (simp [RowsOne, AV.one, AV.rd, AV.cells, cst, Value.oneCell'] <;> omega))); (next => (first | omega | (simp [NFL] <;> omega))))
           | (apply effTo_append_nil (T := TT) rfl rfl rfl rfl rfl rfl rfl rfl rfl; (next => (first | exact trivial | exact rowsOne_byteA _ | assumption | (simp [RowsOne, AV.one, AV.rd, AV.cells, cst, Value.oneCell'] <;> omega))); (next => (first | omega | (simp [NFL] <;> omega))))
           | fail)))
          | fail)
         | (refine arO ⟨_, .call { callee := .value _, args := _, argTypes := _ }, _, _, _, _⟩ ?_; first
          | (apply ar_callM0 rfl (logBegun_a) rfl rfl; (next => (repeat (first
           | exact PArgs.nil
           | (apply PArgs.cons; (next => (first
            | exact PArg.own rfl rfl
            | exact PArg.rd rfl (Le1.refl _) rfl
            | exact PArg.rd rfl (Le1.rd _ _ _) rfl
            | exact PArg.nil rfl
            | exact PArg.rd rfl (Le1.nil _ _) rfl
            | (refine PArg.rd rfl (Le1.of_eq ?_) rfl; congr 2 <;> (first | omega | (simp; omega) | (simp [NFL]; done))))))))); (next => rfl); (next => rfl); rintro _ _ ⟨rfl, rfl⟩; refine ⟨_, rfl, ?_⟩)
          | (apply ar_callM0 rfl (hr1) rfl rfl; (next => (repeat (first
           | exact PArgs.nil
           | (apply PArgs.cons; (next => (first
            | exact PArg.own rfl rfl
            | exact PArg.rd rfl (Le1.refl _) rfl
            | exact PArg.rd rfl (Le1.rd _ _ _) rfl
            | exact PArg.nil rfl
            | exact PArg.rd rfl (Le1.nil _ _) rfl
            | (refine PArg.rd rfl (Le1.of_eq ?_) rfl; congr 2 <;> (first | omega | (simp; omega) | (simp [NFL]; done))))))))); (next => rfl); (next => rfl); rintro _ _ ⟨rfl, rfl⟩; refine ⟨_, rfl, ?_⟩)
          | (apply ar_callM0 rfl (hap) rfl rfl; (next => (repeat (first
           | exact PArgs.nil
           | (apply PArgs.cons; (next => (first
            | exact PArg.own rfl rfl
            | exact PArg.rd rfl (Le1.refl _) rfl
            | exact PArg.rd rfl (Le1.rd _ _ _) rfl
            | exact PArg.nil rfl
            | exact PArg.rd rfl (Le1.nil _ _) rfl
            | (refine PArg.rd rfl (Le1.of_eq ?_) rfl; congr 2 <;> (first | omega | (simp; omega) | (simp [NFL]; done))))))))); (next => rfl); (next => rfl); rintro _ _ ⟨rfl, rfl⟩; refine ⟨_, rfl, ?_⟩)
          | fail)
         | fail)
        | refine ar_unwanted' rfl rfl rfl rfl ?_
        | refine ar_seq ?_
        | (refine arE ?_; refine ar_endM [0, 1, 4, 5, 6, 7, 8, 9, 10, 12, 25, 35] rfl ?_)
        | refine ar_region ?_
        | refine ar_block ?_
        | refine ar_skip ?_
        | refine ar_blk ?_
        | refine ar_dedup rfl ?_
        | (refine arC (.cond _ _ _) ?_; first
         | (refine ar_cond_true rfl ?_ ?_; (next => (first | rfl | (simp only [decide_eq_true_eq, beq_iff_eq, bne_iff_ne, ge_iff_le, gt_iff_lt, ne_eq, Bool.not_eq_true', decide_eq_false_iff_not]; omega))))
         | (refine ar_cond_false rfl ?_ ?_; (next => (first
          | rfl
          | (simp only [decide_eq_false_iff_not, beq_eq_false_iff_ne, bne_eq_false_iff_eq, ge_iff_le, gt_iff_lt, ne_eq, Bool.not_eq_false', decide_eq_true_eq]; omega))))
         | fail)
        | refine ar_exit ?_
        | refine stk_b_hit ?_
        | refine stk_b_miss rfl ?_
        | refine stk_c_exit ?_
        | refine stk_l_exit ?_
        | (refine arC .ret ?_; refine ar_retM [4] ?_)
        | refine stk_c_ret ?_
        | refine stk_b_ret ?_
        | refine stk_l_ret ?_
        | refine stk_nil ?_
        | fail))
      · first | exact qret_mk rfl (⟨rfl, rfl⟩) | (trace_state; exact qret_mk rfl (⟨rfl, rfl⟩))
      · first | exact qret_mk rfl (⟨rfl, rfl⟩) | (trace_state; exact qret_mk rfl (⟨rfl, rfl⟩))
end Go.Proofs.Ytgidmcfnnmheoaa
