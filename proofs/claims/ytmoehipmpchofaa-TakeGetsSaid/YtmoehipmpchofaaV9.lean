/- press.Pack, walked over abstract values. -/
import Derived.Test.YtmoehipmpchofaaV8
import Derived.Test.YtmoehipmpchofaaVB
import Derived.Test.YtmoehipmpchofaaPK
namespace Go.Proofs.Ytmoehipmpchofaa
open Go.RowKit P
set_option linter.unusedSimpArgs false
set_option linter.unusedVariables false
attribute [local irreducible] AS.nf OpV ARun Stk QSem QSemA ACalls EffOp AppOk SrcOk Awp Aops
set_option maxHeartbeats 2000000

def amap (l : List (List UInt8 × Nat)) : List (List UInt8 × AV) := l.map fun p => (p.1, AV.v (.int .i64 p.2))
theorem lget_amap : ∀ (l : List (List UInt8 × Nat)) (k : List UInt8), lget (amap l) k = (aget l k).map fun n => AV.v (.int .i64 n)
  | [], k => rfl
  | (k', n) :: r, k => by
    simp only [amap, List.map_cons, lget, aget]
    split
    · rfl
    · exact lget_amap r k
theorem lset_amap : ∀ (l : List (List UInt8 × Nat)) (k : List UInt8) (n : Nat), lset (amap l) k (AV.v (.int .i64 n)) = amap (aset l k n)
  | [], k, n => rfl
  | (k', n') :: r, k, n => by
    simp only [amap, List.map_cons, lset, aset]
    split
    · rfl
    · have := lset_amap r k n
      simp only [amap] at this
      rw [this]; rfl

set_option maxRecDepth 100000 in
theorem pack_a (s : List UInt8) (hs : s.length ≤ 140737488355328) :
    ACalls Try.prog 21 [.v (.string (mkB s))] [] (fun out H => out = .ret (.tu [.v (.string (mkB (packB s).1)), .v (.int .i64 (packB s).2)]) ∧ H = []) := by
  refine acalls_enter _ 87 [.tmp 2, .tmp 3] Try.func21 (by kernel_rfl) rfl rfl rfl rfl ?_
  dsimp only [slotsOf]
  by_cases hbig : 20000 < s.length
  · have hu : packB s = ([], 2) := by unfold packB; rw [if_pos hbig]
    repeat (first
      | ((first | apply ar_un | apply stk_un); (next => (first | (simp only [go_sem, Nat.reduceBEq, Nat.reduceEqDiff, reduceIte, reduceCtorEq, String.reduceEq, Nat.reduceAdd, Int.reduceToNat]; exact rfl))))
      | ((first | apply ar_op' rfl rfl rfl rfl); (next => (first
       | (refine evalE_ok (T := TT) rfl ?_; (first | exact trivial))
       | (apply opk ⟨_, .binOp .gtr _ _ _ _, _, _, _, _⟩; first | (refine opv_cmp_t rfl rfl rfl ?_; (next => (first | (simp only [cmpP]; simp [NFL] <;> omega)))) | fail)
       | (apply opk ⟨_, .call { callee := .builtin .len, args := _, argTypes := _ }, _, _, _, _⟩; first | exact opv_len_str (T := TT) rfl rfl rfl | fail)
       | fail)))
      | refine ar_seq ?_
      | (refine arE ?_; refine ar_endM [0, 2, 3, 4, 5, 6, 7, 8, 9, 10, 11, 14, 25, 41, 62] rfl ?_)
      | refine ar_region ?_
      | (refine arC (.cond _ _ _) ?_; first | (refine ar_cond_true rfl ?_ ?_; (next => (first | rfl))) | fail)
      | (refine arC .ret ?_; refine ar_retM [2, 3] ?_)
      | refine stk_c_ret ?_
      | refine stk_nil ?_
      | fail)
    first | exact qret_mk rfl (⟨by rw [hu]; rfl, rfl⟩) | (trace_state; exact qret_mk rfl (⟨by rw [hu]; rfl, rfl⟩))
  have hu : packB s = (packR s [] 0 0 (num s.length), 0) := by unfold packB; rw [if_neg hbig]
  have hnl := num_len10 (n := s.length) (by omega)
  repeat (first
    | ((first | apply ar_un); (next => (first | (simp only [go_sem, Nat.reduceBEq, Nat.reduceEqDiff, reduceIte, reduceCtorEq, String.reduceEq, Nat.reduceAdd, Int.reduceToNat]; exact rfl))))
    | ((first | apply ar_op' rfl rfl rfl rfl); (next => (first
     | (refine evalE_ok (T := TT) rfl ?_; (first | exact trivial))
     | (apply opk ⟨_, .binOp .gtr _ _ _ _, _, _, _, _⟩; first | (refine opv_cmp_f rfl rfl rfl ?_; (next => (first | (simp only [cmpP]; simp [NFL] <;> omega)))) | fail)
     | (apply opk ⟨_, .convert _ _ _, _, _, _, _⟩; first
      | (refine opv_convu64 (T := TT) rfl rfl rfl ?_; (next => (first | (simp [NFL] <;> omega))))
      | exact opv_str_bytes (T := TT) rfl rfl rfl rfl
      | fail)
     | (apply opk ⟨_, .call { callee := .builtin .len, args := _, argTypes := _ }, _, _, _, _⟩; first | exact opv_len_str (T := TT) rfl rfl rfl | fail)
     | fail)))
    | (refine arO _ ?_; first
     | (refine arO ⟨_, .assign _, _, _, _, _⟩ ?_; first | refine ar_assign_sl rfl rfl rfl rfl ?_ | fail)
     | (refine arO ⟨_, .makeMap _ _, _, _, _, _⟩ ?_; first
      | (refine ar_eff rfl rfl (eff_makemap_s (T := TT) rfl rfl rfl rfl ?_); intro kb hkb; (repeat (have hkn := (freshK_ne hkb).1; replace hkb := (freshK_ne hkb).2)); (try have hkl := freshK_look hkb); clear hkb; refine ar_nf ?_)
      | fail)
     | (refine arO ⟨_, .call { callee := .value _, args := _, argTypes := _ }, _, _, _, _⟩ ?_; first
      | (apply ar_callM0 rfl (number_a s.length (by omega)) rfl rfl; (next => (repeat (first | exact PArgs.nil | (apply PArgs.cons; (next => (first | exact PArg.rd rfl (Le1.refl _) rfl)))))); (next => rfl); (next => rfl); rintro _ _ ⟨rfl, rfl⟩; refine ⟨_, rfl, ?_⟩)
      | fail)
     | fail)
    | refine ar_seq ?_
    | (refine arE ?_; refine ar_endM [0, 2, 3, 4, 5, 6, 7, 8, 9, 10, 11, 14, 25, 41, 62] rfl ?_)
    | refine ar_region ?_
    | refine ar_block ?_
    | refine ar_skip ?_
    | (refine arC (.cond _ _ _) ?_; first | (refine ar_cond_false rfl ?_ ?_; (next => (first | rfl))) | fail)
    | fail)
  refine ar_loop (fun y : List (List UInt8 × Nat) × Nat × Nat × List UInt8 => ⟨87, [(0, .v (.string (mkB s))), (4, .sl true 1 (byteA y.2.2.2)), (5, .v (.map (some kb))), (6, .v (.int .i64 y.2.1)), (7, .v (.int .i64 y.2.2.1))], [(kb, [smap (amap y.1)])], []⟩)
    (fun y => packR s y.1 y.2.1 y.2.2.1 y.2.2.2 = (packB s).1 ∧ y.2.2.2.length ≤ 10 + 3 * y.2.1 ∧ y.2.1 ≤ y.2.2.1 ∧ y.2.2.1 ≤ s.length ∧ ∀ p ∈ y.1, p.2 < y.2.2.1) (fun y => s.length - y.2.2.1) ([], 0, 0, num s.length) ⟨rfl, ?_, ?_, rfl⟩ ⟨by rw [hu], by omega, Nat.le_refl _, Nat.zero_le _, by simp⟩ ?_
  · (repeat' (first | exact trivial | exact .refl _ | refine ⟨⟨_, rfl, ?_⟩, ?_⟩))
  · (repeat' (first | exact trivial | exact LeL.refl _ | refine ⟨⟨_, look_hd, ?_⟩, ?_⟩))
  rintro ⟨l, fr, a, b⟩ ⟨hq, hbl, hfa, hal, hlt⟩
  dsimp only at hq hbl hfa hal hlt ⊢
  by_cases hend : s.length < a + 4
  · rw [packR_done hend] at hq
    repeat (first
      | ((first | apply ar_un | apply stk_un); (next => (first | (simp only [go_sem, Nat.reduceBEq, Nat.reduceEqDiff, reduceIte, reduceCtorEq, String.reduceEq, Nat.reduceAdd, Int.reduceToNat]; exact rfl))))
      | (refine arC .ret ?_; refine ar_retM0 [2, 3] ?_)
      | ((first | apply ar_op' rfl rfl rfl rfl); (next => (first
       | (refine evalE_ok (T := TT) rfl ?_; (first | exact trivial | omega | (simp [NFL] <;> omega)))
       | (apply opk ⟨_, .binOp .leq _ _ _ _, _, _, _, _⟩; first | (refine opv_cmp_f rfl rfl rfl ?_; (next => (first | (simp only [cmpP]; simp [NFL] <;> omega)))) | fail)
       | (apply opk ⟨_, .convert _ _ _, _, _, _, _⟩; first | exact opv_bytes_str (T := TT) rfl rfl rfl rfl | fail)
       | (apply opk ⟨_, .call { callee := .builtin .len, args := _, argTypes := _ }, _, _, _, _⟩; first | exact opv_len_str (T := TT) rfl rfl rfl | fail)
       | fail)))
      | (refine arO _ ?_; first
       | (refine arO ⟨_, .move _, _, _, _, _⟩ ?_; first | refine ar_move_sl rfl rfl rfl rfl ?_ | fail)
       | (refine arO ⟨_, .call { callee := .value _, args := _, argTypes := _ }, _, _, _, _⟩ ?_; first
        | (apply ar_callM0 rfl (literal_a b ((s.take s.length).drop fr) (by rw [List.length_drop, List.length_take]; omega)) rfl rfl; (next => (repeat (first | exact PArgs.nil | (apply PArgs.cons; (next => (first | exact PArg.own rfl rfl | exact PArg.rd rfl (Le1.refl _) rfl)))))); (next => rfl); (next => rfl); rintro _ _ ⟨rfl, rfl⟩; refine ⟨_, rfl, ?_⟩)
        | fail)
       | fail)
      | refine ar_seq ?_
      | (refine arE ?_; refine ar_endM [0, 2, 3, 4, 5, 6, 7, 8, 9, 10, 11, 14, 25, 41, 62] rfl ?_)
      | refine ar_region ?_
      | (refine arC (.cond _ _ _) ?_; first | (refine ar_cond_false rfl ?_ ?_; (next => (first | rfl))) | fail)
      | refine ar_exit ?_
      | refine stk_b_hit ?_
      | refine stk_c_exit ?_
      | refine stk_l_exit ?_
      | refine stk_nil ?_
      | fail)
    first | exact qret_mk rfl (⟨by rw [hu]; rw [hu] at hq; simp only at hq; rw [← hq]; rfl, rfl⟩) | (trace_state; exact qret_mk rfl (⟨by rw [hu]; rw [hu] at hq; simp only at hq; rw [← hq]; rfl, rfl⟩))
  have hkey : ((s.take ((a : Int) + 4).toNat).drop a) = key4 s a := by rw [show ((a : Int) + 4).toNat = a + 4 by omega]; rfl
  cases hg : aget l (key4 s a) with
  | none =>
    have hg2 : lget (amap l) ((s.take ((a : Int) + 4).toNat).drop a) = none := by rw [hkey, lget_amap, hg]; rfl
    repeat (first
      | ((first | apply ar_un); (next => (first | (simp only [go_sem, Nat.reduceBEq, Nat.reduceEqDiff, reduceIte, reduceCtorEq, String.reduceEq, Nat.reduceAdd, Int.reduceToNat]; exact rfl))))
      | ((first | apply ar_op' rfl rfl rfl rfl); (next => (first
       | (refine evalE_ok (T := TT) rfl ?_; (first | exact trivial | omega | (simp [NFL] <;> omega)))
       | (apply opk ⟨_, .binOp .leq _ _ _ _, _, _, _, _⟩; first | (refine opv_cmp_t rfl rfl rfl ?_; (next => (first | (simp only [cmpP]; simp [NFL] <;> omega)))) | fail)
       | (apply opk ⟨_, .call { callee := .builtin .len, args := _, argTypes := _ }, _, _, _, _⟩; first | exact opv_len_str (T := TT) rfl rfl rfl | fail)
       | (apply opk ⟨_, .lookup _ _ _ true, _, _, _, _⟩; first | (apply opv_lookup_miss (T := TT) rfl look_hd rfl rfl rfl rfl; assumption) | fail)
       | fail)))
      | (refine arO _ ?_; first
       | (refine arO ⟨_, .mapUpdate _ _ _ _, _, _, _, _⟩ ?_; first
        | (apply ar_effM rfl rfl; (next => (first | refine fun R hR => eff_mapset_s (T := TT) rfl look_hd rfl rfl rfl rfl hR | fail)))
        | fail)
       | fail)
      | refine ar_seq ?_
      | (refine arE ?_; refine ar_endM [0, 2, 3, 4, 5, 6, 7, 8, 9, 10, 11, 14, 25, 41, 62] rfl ?_)
      | refine ar_region ?_
      | refine ar_block ?_
      | refine ar_skip ?_
      | refine ar_dedup rfl ?_
      | (refine arC (.cond _ _ _) ?_; first | (refine ar_cond_true rfl ?_ ?_; (next => (first | rfl))) | fail)
      | refine ar_exit ?_
      | refine stk_b_hit ?_
      | refine stk_c_exit ?_
      | fail)
    refine ar_back ⟨(aset l (key4 s a) a, fr, a + 1, b), ⟨rfl, ?_, ?_, rfl⟩, ⟨by rw [← hq, packR_miss hend hg], hbl, by show fr ≤ a + 1; omega, by show a + 1 ≤ s.length; omega, ?_⟩, by show s.length - (a + 1) < s.length - a; omega⟩
    · (repeat' (first | exact trivial | exact .refl _ | refine ⟨⟨_, rfl, ?_⟩, ?_⟩))
    · (repeat' (first | exact trivial | exact LeL.refl _ | refine ⟨⟨_, look_hd, ?_⟩, ?_⟩ | refine LeL.cons ?_ ?_ | refine Le1.of_eq ?_))
      rw [hkey, lset_amap]
    · intro p hp
      rcases aset_mem hp with h | h
      · rw [h]; exact Nat.lt_succ_self a
      · exact Nat.lt_succ_of_lt (hlt p h)
  | some k =>
    have hg2 : lget (amap l) ((s.take ((a : Int) + 4).toNat).drop a) = some (.v (.int .i64 k)) := by rw [hkey, lget_amap, hg]; rfl
    have hka : k < a := hlt _ (aget_mem hg)
    repeat (first
      | ((first | apply ar_un); (next => (first | (simp only [go_sem, Nat.reduceBEq, Nat.reduceEqDiff, reduceIte, reduceCtorEq, String.reduceEq, Nat.reduceAdd, Int.reduceToNat]; exact rfl))))
      | ((first | apply ar_op' rfl rfl rfl rfl); (next => (first
       | (refine evalE_ok (T := TT) rfl ?_; (first | exact trivial | omega | (simp [NFL] <;> omega)))
       | (apply opk ⟨_, .binOp .leq _ _ _ _, _, _, _, _⟩; first | (refine opv_cmp_t rfl rfl rfl ?_; (next => (first | (simp only [cmpP]; simp [NFL] <;> omega)))) | fail)
       | (apply opk ⟨_, .call { callee := .builtin .len, args := _, argTypes := _ }, _, _, _, _⟩; first | exact opv_len_str (T := TT) rfl rfl rfl | fail)
       | (apply opk ⟨_, .lookup _ _ _ true, _, _, _, _⟩; first | (apply opv_lookup_hit (T := TT) rfl look_hd rfl rfl rfl rfl; assumption) | fail)
       | fail)))
      | (refine arO _ ?_; first
       | (refine arO ⟨_, .mapUpdate _ _ _ _, _, _, _, _⟩ ?_; first
        | (apply ar_effM rfl rfl; (next => (first | refine fun R hR => eff_mapset_s (T := TT) rfl look_hd rfl rfl rfl rfl hR | fail)))
        | fail)
       | fail)
      | refine ar_seq ?_
      | (refine arE ?_; refine ar_endM [0, 2, 3, 4, 5, 6, 7, 8, 9, 10, 11, 14, 25, 41, 62] rfl ?_)
      | refine ar_region ?_
      | refine ar_block ?_
      | refine ar_skip ?_
      | refine ar_dedup rfl ?_
      | (refine arC (.cond _ _ _) ?_; first | (refine ar_cond_true rfl ?_ ?_; (next => (first | rfl))) | (refine ar_cond_false rfl ?_ ?_; (next => (first | rfl))) | fail)
      | fail)
    refine ar_loop (fun n : Nat => ⟨87, [(0, .v (.string (mkB s))), (4, .sl true 1 (byteA b)), (5, .v (.map (some kb))), (6, .v (.int .i64 fr)), (7, .v (.int .i64 a)), (9, .v (.int .i64 k)), (11, .v (.int .i64 n))], [(kb, [smap (amap (aset l (key4 s a) a))])], []⟩)
      (fun n => ext s k a n = ext s k a 4 ∧ 4 ≤ n ∧ a + n ≤ s.length) (fun n => s.length - n) 4 ⟨rfl, ?_, ?_, rfl⟩ ⟨rfl, Nat.le_refl _, by omega⟩ ?_
    · (repeat' (first | exact trivial | exact .refl _ | refine ⟨⟨_, rfl, ?_⟩, ?_⟩))
    · (repeat' (first | exact trivial | exact LeL.refl _ | refine ⟨⟨_, look_hd, ?_⟩, ?_⟩ | refine LeL.cons ?_ ?_ | refine Le1.of_eq ?_))
      rw [hkey, lset_amap]
    intro n ⟨hn, hn4, hnl2⟩
    have hx1 : ((k : Int) + n).toNat = k + n := by omega
    have hx2 : ((a : Int) + n).toNat = a + n := by omega
    have hdone : ¬ (a + n < s.length ∧ s.getD (k + n) 0 = s.getD (a + n) 0) → ext s k a 4 = n := fun h => by rw [← hn, ext_done h]
    by_cases h1 : a + n < s.length
    · by_cases h2 : s.getD (k + n) 0 = s.getD (a + n) 0
      · have h3 : ((s.getD ((k : Int) + n).toNat 0).toNat : Int) = (s.getD ((a : Int) + n).toNat 0).toNat := by rw [hx1, hx2, h2]
        repeat (first
          | ((first | apply ar_un); (next => (first | (simp only [go_sem, Nat.reduceBEq, Nat.reduceEqDiff, reduceIte, reduceCtorEq, String.reduceEq, Nat.reduceAdd, Int.reduceToNat]; exact rfl))))
          | ((first | apply ar_op' rfl rfl rfl rfl | apply q_op rfl rfl rfl); (next => (first
           | (refine evalE_ok (T := TT) rfl ?_; (first | exact trivial | omega | (simp [NFL] <;> omega)))
           | (apply opk ⟨_, .binOp .eql _ _ _ _, _, _, _, _⟩; first | exact opv_bin rfl rfl rfl | fail)
           | (apply opk ⟨_, .binOp .lss _ _ _ _, _, _, _, _⟩; first | (refine opv_cmp_t rfl rfl rfl ?_; (next => (first | (simp only [cmpP]; simp [NFL] <;> omega)))) | fail)
           | (apply opk ⟨_, .call { callee := .builtin .len, args := _, argTypes := _ }, _, _, _, _⟩; first | exact opv_len_str (T := TT) rfl rfl rfl | fail)
           | (apply opk ⟨_, .pick _ _ _, _, _, _, _⟩; first | (refine opv_pickt rfl ?_ rfl; (next => (first | rfl))) | fail)
           | fail)))
          | refine ar_seq ?_
          | (refine arE ?_; refine ar_endM [0, 2, 3, 4, 5, 6, 7, 8, 9, 10, 11, 14, 25, 41, 62] rfl ?_)
          | refine ar_region ?_
          | refine ar_block ?_
          | refine ar_skip ?_
          | refine ar_blk ?_
          | (refine arC (.cond _ _ _) ?_; first
           | (refine ar_cond_true rfl ?_ ?_; (next => (first | (simp only [decide_eq_true_eq, beq_iff_eq, bne_iff_ne, ge_iff_le, gt_iff_lt, ne_eq, Bool.not_eq_true', decide_eq_false_iff_not]; omega))))
           | fail)
          | (refine arC (.region _ _ true) ?_; refine ar_nop (ar_draw mixed (by kernel_rfl) rfl ?_))
          | (refine q_nil ?_; refine ar_endM [0, 2, 3, 4, 5, 6, 7, 8, 9, 10, 11, 14, 25, 41, 62] rfl ?_)
          | fail)
        refine ar_back ⟨n + 1, ⟨rfl, ?_, ?_, rfl⟩, ⟨by rw [← hn, ext_more h1 h2], by omega, by omega⟩, by omega⟩
        · (repeat' (first | exact trivial | exact .refl _ | refine ⟨⟨_, rfl, ?_⟩, ?_⟩))
        · (repeat' (first | exact trivial | exact LeL.refl _ | refine ⟨⟨_, look_hd, ?_⟩, ?_⟩))
      · have h3 : ¬ ((s.getD ((k : Int) + n).toNat 0).toNat : Int) = (s.getD ((a : Int) + n).toNat 0).toNat := by
          rw [hx1, hx2]
          intro e
          exact h2 (UInt8.toNat_inj.1 (by omega))
        have he := hdone (fun h => h2 h.2)
        rw [packR_hit hend hg, he] at hq
        have hll := litB_len3 ((s.take a).drop fr)
        have hla := againB_len3 (a - k) n
        have hld : ((s.take a).drop fr).length = a - fr := by rw [List.length_drop, List.length_take]; omega
        repeat (first
          | ((first | apply ar_un); (next => (first | (simp only [go_sem, Nat.reduceBEq, Nat.reduceEqDiff, reduceIte, reduceCtorEq, String.reduceEq, Nat.reduceAdd, Int.reduceToNat]; exact rfl))))
          | ((first | apply ar_op' rfl rfl rfl rfl | apply q_op rfl rfl rfl); (next => (first
           | (refine evalE_ok (T := TT) rfl ?_; (first | exact trivial | omega | (simp [NFL] <;> omega)))
           | (apply opk ⟨_, .binOp .eql _ _ _ _, _, _, _, _⟩; first | exact opv_bin rfl rfl rfl | fail)
           | (apply opk ⟨_, .binOp .lss _ _ _ _, _, _, _, _⟩; first | (refine opv_cmp_t rfl rfl rfl ?_; (next => (first | (simp only [cmpP]; simp [NFL] <;> omega)))) | fail)
           | (apply opk ⟨_, .call { callee := .builtin .len, args := _, argTypes := _ }, _, _, _, _⟩; first | exact opv_len_str (T := TT) rfl rfl rfl | fail)
           | (apply opk ⟨_, .pick _ _ _, _, _, _, _⟩; first | (refine opv_pickt rfl ?_ rfl; (next => (first | rfl))) | fail)
           | fail)))
          | (refine arO _ ?_; first
           | (refine arO ⟨_, .move _, _, _, _, _⟩ ?_; first | refine ar_move_sl rfl rfl rfl rfl ?_ | fail)
           | (refine arO ⟨_, .assign _, _, _, _, _⟩ ?_; first | refine ar_assign_sl rfl rfl rfl rfl ?_ | fail)
           | (refine arO ⟨_, .call { callee := .value _, args := _, argTypes := _ }, _, _, _, _⟩ ?_; first
            | (apply ar_callM0 rfl (literal_a b ((s.take a).drop fr) (by omega)) rfl rfl; (next => (repeat (first | exact PArgs.nil | (apply PArgs.cons; (next => (first | exact PArg.own rfl rfl | exact PArg.rd rfl (Le1.refl _) rfl)))))); (next => rfl); (next => rfl); rintro _ _ ⟨rfl, rfl⟩; refine ⟨_, rfl, ?_⟩)
            | (apply ar_callM0 rfl (again_a (b ++ litB ((s.take a).drop fr)) (a - k) n (by omega) (by rw [List.length_append]; omega)) rfl rfl; (next => (repeat (first
             | exact PArgs.nil
             | (apply PArgs.cons; (next => (first | exact PArg.own rfl rfl | exact PArg.rd rfl (Le1.refl _) rfl | (refine PArg.rd rfl (Le1.of_eq ?_) rfl; congr 2 <;> (first | omega)))))))); (next => rfl); (next => rfl); rintro _ _ ⟨rfl, rfl⟩; refine ⟨_, rfl, ?_⟩)
            | fail)
           | fail)
          | refine ar_seq ?_
          | (refine arE ?_; refine ar_endM [0, 2, 3, 4, 5, 6, 7, 8, 9, 10, 11, 14, 25, 41, 62] rfl ?_)
          | refine ar_region ?_
          | refine ar_blk ?_
          | (refine arC (.cond _ _ _) ?_; first
           | (refine ar_cond_false rfl ?_ ?_; (next => (first
            | (simp only [decide_eq_false_iff_not, beq_eq_false_iff_ne, bne_eq_false_iff_eq, ge_iff_le, gt_iff_lt, ne_eq, Bool.not_eq_false', decide_eq_true_eq]; omega))))
           | fail)
          | refine ar_exit ?_
          | refine stk_b_hit ?_
          | refine stk_c_exit ?_
          | refine stk_l_exit ?_
          | (refine arC (.region _ _ true) ?_; refine ar_nop (ar_draw mixed (by kernel_rfl) rfl ?_))
          | (refine q_nil ?_; refine ar_endM [0, 2, 3, 4, 5, 6, 7, 8, 9, 10, 11, 14, 25, 41, 62] rfl ?_)
          | fail)
        refine ar_back ⟨(aset l (key4 s a) a, a + n, a + n, b ++ litB ((s.take a).drop fr) ++ againB (a - k) n), ⟨rfl, ?_, ?_, rfl⟩, ⟨hq, ?_, Nat.le_refl _, hnl2, ?_⟩, by show s.length - (a + n) < s.length - a; omega⟩
        · (repeat' (first | exact trivial | exact .refl _ | refine ⟨⟨_, rfl, ?_⟩, ?_⟩))
        · (repeat' (first | exact trivial | exact LeL.refl _ | refine ⟨⟨_, look_hd, ?_⟩, ?_⟩))
        · simp only [List.length_append]; omega
        · intro p hp
          rcases aset_mem hp with h | h
          · rw [h]; show a < a + n; omega
          · have := hlt p h; show p.2 < a + n; omega
    · have he := hdone (fun h => h1 h.1)
      rw [packR_hit hend hg, he] at hq
      have hll := litB_len3 ((s.take a).drop fr)
      have hla := againB_len3 (a - k) n
      have hld : ((s.take a).drop fr).length = a - fr := by rw [List.length_drop, List.length_take]; omega
      repeat (first
        | ((first | apply ar_un); (next => (first | (simp only [go_sem, Nat.reduceBEq, Nat.reduceEqDiff, reduceIte, reduceCtorEq, String.reduceEq, Nat.reduceAdd, Int.reduceToNat]; exact rfl))))
        | ((first | apply ar_op' rfl rfl rfl rfl | apply q_op rfl rfl rfl); (next => (first
         | (refine evalE_ok (T := TT) rfl ?_; (first | exact trivial | omega | (simp [NFL] <;> omega)))
         | (apply opk ⟨_, .binOp .lss _ _ _ _, _, _, _, _⟩; first | (refine opv_cmp_f rfl rfl rfl ?_; (next => (first | (simp only [cmpP]; simp [NFL] <;> omega)))) | fail)
         | (apply opk ⟨_, .call { callee := .builtin .len, args := _, argTypes := _ }, _, _, _, _⟩; first | exact opv_len_str (T := TT) rfl rfl rfl | fail)
         | (apply opk ⟨_, .pick _ _ _, _, _, _, _⟩; first | (refine opv_pickf rfl ?_ rfl; (next => (first | rfl))) | fail)
         | fail)))
        | (refine arO _ ?_; first
         | (refine arO ⟨_, .move _, _, _, _, _⟩ ?_; first | refine ar_move_sl rfl rfl rfl rfl ?_ | fail)
         | (refine arO ⟨_, .assign _, _, _, _, _⟩ ?_; first | refine ar_assign_sl rfl rfl rfl rfl ?_ | fail)
         | (refine arO ⟨_, .call { callee := .value _, args := _, argTypes := _ }, _, _, _, _⟩ ?_; first
          | (apply ar_callM0 rfl (literal_a b ((s.take a).drop fr) (by omega)) rfl rfl; (next => (repeat (first | exact PArgs.nil | (apply PArgs.cons; (next => (first | exact PArg.own rfl rfl | exact PArg.rd rfl (Le1.refl _) rfl)))))); (next => rfl); (next => rfl); rintro _ _ ⟨rfl, rfl⟩; refine ⟨_, rfl, ?_⟩)
          | (apply ar_callM0 rfl (again_a (b ++ litB ((s.take a).drop fr)) (a - k) n (by omega) (by rw [List.length_append]; omega)) rfl rfl; (next => (repeat (first
           | exact PArgs.nil
           | (apply PArgs.cons; (next => (first | exact PArg.own rfl rfl | exact PArg.rd rfl (Le1.refl _) rfl | (refine PArg.rd rfl (Le1.of_eq ?_) rfl; congr 2 <;> (first | omega)))))))); (next => rfl); (next => rfl); rintro _ _ ⟨rfl, rfl⟩; refine ⟨_, rfl, ?_⟩)
          | fail)
         | fail)
        | refine ar_seq ?_
        | (refine arE ?_; refine ar_endM [0, 2, 3, 4, 5, 6, 7, 8, 9, 10, 11, 14, 25, 41, 62] rfl ?_)
        | refine ar_region ?_
        | refine ar_blk ?_
        | (refine arC (.cond _ _ _) ?_; first | (refine ar_cond_false rfl ?_ ?_; (next => (first | rfl))) | fail)
        | refine ar_exit ?_
        | refine stk_b_hit ?_
        | refine stk_c_exit ?_
        | refine stk_l_exit ?_
        | (refine arC (.region _ _ true) ?_; refine ar_nop (ar_draw mixed (by kernel_rfl) rfl ?_))
        | refine q_unwanted rfl rfl rfl ?_
        | (refine q_nil ?_; refine ar_endM [0, 2, 3, 4, 5, 6, 7, 8, 9, 10, 11, 14, 25, 41, 62] rfl ?_)
        | fail)
      refine ar_back ⟨(aset l (key4 s a) a, a + n, a + n, b ++ litB ((s.take a).drop fr) ++ againB (a - k) n), ⟨rfl, ?_, ?_, rfl⟩, ⟨hq, ?_, Nat.le_refl _, hnl2, ?_⟩, by show s.length - (a + n) < s.length - a; omega⟩
      · (repeat' (first | exact trivial | exact .refl _ | refine ⟨⟨_, rfl, ?_⟩, ?_⟩))
      · (repeat' (first | exact trivial | exact LeL.refl _ | refine ⟨⟨_, look_hd, ?_⟩, ?_⟩))
      · simp only [List.length_append]; omega
      · intro p hp
        rcases aset_mem hp with h | h
        · rw [h]; show a < a + n; omega
        · have := hlt p h; show p.2 < a + n; omega
end Go.Proofs.Ytmoehipmpchofaa
