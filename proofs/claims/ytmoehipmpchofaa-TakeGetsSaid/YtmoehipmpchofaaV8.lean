/- The press's again, walked over abstract values. -/
import Derived.Test.YtmoehipmpchofaaV2
namespace Go.Proofs.Ytmoehipmpchofaa
open Go.RowKit P
set_option linter.unusedSimpArgs false
set_option linter.unusedVariables false
attribute [local irreducible] AS.nf OpV ARun Stk QSem QSemA ACalls EffOp AppOk SrcOk Awp Aops
set_option maxHeartbeats 1000000

theorem byteA_snoc3 {l : List UInt8} {x y z : Int} (b c d : UInt8) (h : x = (b.toNat : Int)) (h2 : y = (c.toNat : Int)) (h3 : z = (d.toNat : Int)) : byteA l ++ [[AV.v (.int .u8 x)], [AV.v (.int .u8 y)], [AV.v (.int .u8 z)]] = byteA (l ++ [b, c, d]) := by subst h h2 h3; simp [byteA]

set_option maxRecDepth 100000 in
theorem again_a (b : List UInt8) (back many : Nat) (hback : back ≤ 65535) (hbnd : b.length + 3 * many ≤ 100000000) : ACalls Try.prog 47 [.sl true 1 (byteA b), .v (.int .i64 back), .v (.int .i64 many)] [] (fun out H => out = .ret (.sl true 1 (byteA (b ++ againB back many))) ∧ H = []) := by
  refine acalls_enter _ 59 [.tmp 6] Try.func47 (by kernel_rfl) rfl rfl rfl rfl ?_
  dsimp only [slotsOf]
  repeat (first | ((first | apply ar_un); (next => (first | (simp only [go_sem, Nat.reduceBEq, Nat.reduceEqDiff, reduceIte, reduceCtorEq, String.reduceEq, Nat.reduceAdd, Int.reduceToNat]; exact rfl)))) | (apply ar_op' rfl rfl rfl rfl; (next => (first | (refine evalE_ok (T := TT) rfl ?_; (first | exact trivial)) | fail))) | refine ar_seq ?_ | (refine arE ?_; refine ar_endM [0, 1, 2, 6, 7, 9, 17, 27] rfl ?_) | refine ar_region ?_ | refine ar_block ?_ | fail)
  refine ar_loop (fun y : List UInt8 × Nat => ⟨59, [(0, .sl true 1 (byteA y.1)), (1, .v (.int .i64 back)), (2, .v (.int .i64 y.2))], [], []⟩) (fun y => y.1 ++ againB back y.2 = b ++ againB back many ∧ y.1.length + 3 * y.2 ≤ 100000000) (fun y => y.2) (b, many) ⟨rfl, ?_, trivial, rfl⟩ ⟨rfl, hbnd⟩ ?_
  · (repeat' (first | exact trivial | exact .refl _ | refine ⟨⟨_, rfl, ?_⟩, ?_⟩))
  rintro ⟨q, m⟩ ⟨hq, hlen⟩
  dsimp only at hq hlen ⊢
  by_cases h0 : m = 0
  · subst h0
    rw [againB_zero, List.append_nil] at hq
    repeat (first
      | ((first | apply ar_un | apply stk_un); (next => (first | (simp only [go_sem, Nat.reduceBEq, Nat.reduceEqDiff, reduceIte, reduceCtorEq, String.reduceEq, Nat.reduceAdd, Int.reduceToNat]; exact rfl))))
      | (apply ar_op' rfl rfl rfl rfl; (next => (first
       | (refine evalE_ok (T := TT) rfl ?_; (first | exact trivial))
       | (apply opk ⟨_, .binOp .gtr _ _ _ _, _, _, _, _⟩; first | (refine opv_cmp_f rfl rfl rfl ?_; (next => (first | (simp only [cmpP]; omega)))) | fail)
       | fail)))
      | (refine arO _ ?_; first
       | (refine arO ⟨_, .move _, _, _, _, _⟩ ?_; first | refine ar_move_sl rfl rfl rfl rfl ?_ | fail)
       | (refine arO ⟨_, .assign _, _, _, _, _⟩ ?_; first | refine ar_assign_sl rfl rfl rfl rfl ?_ | fail)
       | fail)
      | refine ar_seq ?_
      | (refine arE ?_; refine ar_endM [0, 1, 2, 6, 7, 9, 17, 27] rfl ?_)
      | refine ar_region ?_
      | (refine arC (.cond _ _ _) ?_; first | (refine ar_cond_false rfl ?_ ?_; (next => (first | rfl))) | fail)
      | refine ar_exit ?_
      | refine stk_b_hit ?_
      | refine stk_c_exit ?_
      | refine stk_l_exit ?_
      | (refine arC .ret ?_; refine ar_retM [6] ?_)
      | refine stk_nil ?_
      | fail)
    first | exact qret_mk rfl (⟨by rw [hq], rfl⟩) | (trace_state; exact qret_mk rfl (⟨by rw [hq], rfl⟩))
  have hst := againB_step back (many := m) (by omega)
  have hck := chunk_pos (many := m) (by omega)
  have hel := elemB_len back (chunk m)
  obtain ⟨n, hn⟩ : ∃ n, n = chunk m := ⟨_, rfl⟩
  have hcn : (m ≤ 64 ∧ n = m) ∨ (64 < m ∧ m < 68 ∧ n = 60) ∨ (68 ≤ m ∧ n = 64) := by rw [hn]; unfold chunk; split <;> omega
  rw [← hn] at hst hck hel
  have hback2 : ∀ (σ' : AS), Le σ' ⟨59, [(0, .sl true 1 (byteA (q ++ elemB back n))), (1, .v (.int .i64 back)), (2, .v (.int .i64 (m - n : Nat)))], [], []⟩ → ∃ y' : List UInt8 × Nat, Le σ' ⟨59, [(0, .sl true 1 (byteA y'.1)), (1, .v (.int .i64 back)), (2, .v (.int .i64 y'.2))], [], []⟩ ∧ (y'.1 ++ againB back y'.2 = b ++ againB back many ∧ y'.1.length + 3 * y'.2 ≤ 100000000) ∧ y'.2 < m :=
    fun σ' h => ⟨(q ++ elemB back n, m - n), h, ⟨by rw [← hq, hst, List.append_assoc], by simp only [List.length_append]; omega⟩, by show m - n < m; omega⟩
  have three : ∀ (h : ¬ (4 ≤ n ∧ n < 12 ∧ back < 2048)), elemB back n = [bt ((n - 1) * 4 + 2), bt (back % 256), bt (back / 256 % 256)] := fun h => by unfold elemB; rw [if_neg h]
  have e1 : (((bt ((n - 1) * 4 + 2)).toNat : Nat) : Int) = ((n : Int) - 1) * 4 + 2 := by rw [bt_toNat (by omega)]; omega
  have e2 : (((bt (back % 256)).toNat : Nat) : Int) = (back : Int) % 256 := by rw [bt_toNat (by omega)]; omega
  have e3 : (((bt (back / 256 % 256)).toNat : Nat) : Int) = (back : Int) / 256 % 256 := by rw [bt_toNat (by omega)]; omega
  by_cases h68 : 64 < m ∧ m < 68
  · obtain rfl : n = 60 := by omega
    repeat (first
      | ((first | apply ar_un); (next => (first | (simp only [go_sem, Nat.reduceBEq, Nat.reduceEqDiff, reduceIte, reduceCtorEq, String.reduceEq, Nat.reduceAdd, Int.reduceToNat]; exact rfl))))
      | (apply ar_op' rfl rfl rfl rfl; (next => exact opv_or_add 2 4 rfl rfl rfl (by decide) (by omega)))
      | (apply ar_op' rfl rfl rfl rfl; (next => (first
       | (refine evalE_ok (T := TT) rfl ?_; (first | exact trivial | omega))
       | (apply opk ⟨_, .binOp .lss _ _ _ _, _, _, _, _⟩; first
        | (refine opv_cmp_t rfl rfl rfl ?_; (next => (first | (simp only [cmpP]; omega))))
        | (refine opv_cmp_f rfl rfl rfl ?_; (next => (first | (simp only [cmpP]; omega))))
        | fail)
       | (apply opk ⟨_, .binOp .gtr _ _ _ _, _, _, _, _⟩; first | (refine opv_cmp_t rfl rfl rfl ?_; (next => (first | (simp only [cmpP]; omega)))) | fail)
       | (apply opk ⟨_, .binOp .geq _ _ _ _, _, _, _, _⟩; first | (refine opv_cmp_t rfl rfl rfl ?_; (next => (first | (simp only [cmpP]; omega)))) | fail)
       | (apply opk ⟨_, .convert _ _ _, _, _, _, _⟩; first | exact opv_conv8 (T := TT) rfl rfl rfl | fail)
       | (apply opk ⟨_, .call { callee := .builtin .min, args := _, argTypes := _ }, _, _, _, _⟩; first | (refine opv_min_r rfl rfl ?_; (next => (first | omega))) | fail)
       | (apply opk ⟨_, .buildSlice _ _ _, _, _, _, _⟩; first | exact opv_build_slice (T := TT) rfl rfl rfl rfl rfl rfl rfl | fail)
       | (apply opk ⟨_, .pick _ _ _, _, _, _, _⟩; first
        | (refine opv_pickt rfl ?_ rfl; (next => (first | rfl)))
        | (refine opv_pickf rfl ?_ rfl; (next => (first | rfl)))
        | fail)
       | fail)))
      | (refine arO _ ?_; first
       | (refine arO ⟨_, .move _, _, _, _, _⟩ ?_; first | refine ar_move_sl rfl rfl rfl rfl ?_ | fail)
       | (refine arO ⟨_, .assign _, _, _, _, _⟩ ?_; first | refine ar_assign_sl rfl rfl rfl rfl ?_ | fail)
       | (refine arO ⟨_, .call { callee := .builtin .append, args := _, argTypes := _ }, _, _, _, _⟩ ?_; first
        | (apply ar_effM rfl rfl; (next => (first
         | (apply effTo_append (T := TT) rfl rfl rfl rfl rfl rfl rfl rfl rfl rfl; (next => (first | (simp [RowsOne, AV.one, AV.rd, AV.cells, cst, Value.oneCell'] <;> omega))); (next => (first | (simp [NFL] <;> omega))))
         | fail)))
        | fail)
       | fail)
      | refine ar_unwanted' rfl rfl rfl rfl ?_
      | refine ar_seq ?_
      | (refine arE ?_; refine ar_endM [0, 1, 2, 6, 7, 9, 17, 27] rfl ?_)
      | refine ar_region ?_
      | refine ar_block ?_
      | refine ar_skip ?_
      | refine ar_blk ?_
      | (refine arC (.cond _ _ _) ?_; first | (refine ar_cond_true rfl ?_ ?_; (next => (first | rfl))) | (refine ar_cond_false rfl ?_ ?_; (next => (first | rfl))) | fail)
      | fail)
    refine ar_back (hback2 _ ⟨rfl, ?_, trivial, rfl⟩)
    (repeat' (first | exact trivial | exact .refl _ | refine ⟨⟨_, rfl, ?_⟩, ?_⟩ | refine Le1.of_eq ?_))
    · rw [byteA_snoc3 (bt ((60 - 1) * 4 + 2)) (bt (back % 256)) (bt (back / 256 % 256)) (by rw [e1]; omega) (by rw [e2]) (by rw [e3]), three (by omega)]
    · congr 2; omega
  by_cases h64 : 64 < m
  · obtain rfl : n = 64 := by omega
    repeat (first
      | ((first | apply ar_un); (next => (first | (simp only [go_sem, Nat.reduceBEq, Nat.reduceEqDiff, reduceIte, reduceCtorEq, String.reduceEq, Nat.reduceAdd, Int.reduceToNat]; exact rfl))))
      | (apply ar_op' rfl rfl rfl rfl; (next => exact opv_or_add 2 4 rfl rfl rfl (by decide) (by omega)))
      | (apply ar_op' rfl rfl rfl rfl; (next => (first
       | (refine evalE_ok (T := TT) rfl ?_; (first | exact trivial | omega))
       | (apply opk ⟨_, .binOp .lss _ _ _ _, _, _, _, _⟩; first | (refine opv_cmp_f rfl rfl rfl ?_; (next => (first | (simp only [cmpP]; omega)))) | fail)
       | (apply opk ⟨_, .binOp .gtr _ _ _ _, _, _, _, _⟩; first | (refine opv_cmp_t rfl rfl rfl ?_; (next => (first | (simp only [cmpP]; omega)))) | fail)
       | (apply opk ⟨_, .binOp .geq _ _ _ _, _, _, _, _⟩; first | (refine opv_cmp_t rfl rfl rfl ?_; (next => (first | (simp only [cmpP]; omega)))) | fail)
       | (apply opk ⟨_, .convert _ _ _, _, _, _, _⟩; first | exact opv_conv8 (T := TT) rfl rfl rfl | fail)
       | (apply opk ⟨_, .call { callee := .builtin .min, args := _, argTypes := _ }, _, _, _, _⟩; first | (refine opv_min_r rfl rfl ?_; (next => (first | omega))) | fail)
       | (apply opk ⟨_, .buildSlice _ _ _, _, _, _, _⟩; first | exact opv_build_slice (T := TT) rfl rfl rfl rfl rfl rfl rfl | fail)
       | (apply opk ⟨_, .pick _ _ _, _, _, _, _⟩; first
        | (refine opv_pickt rfl ?_ rfl; (next => (first | rfl)))
        | (refine opv_pickf rfl ?_ rfl; (next => (first | rfl)))
        | fail)
       | fail)))
      | (refine arO _ ?_; first
       | (refine arO ⟨_, .move _, _, _, _, _⟩ ?_; first | refine ar_move_sl rfl rfl rfl rfl ?_ | fail)
       | (refine arO ⟨_, .assign _, _, _, _, _⟩ ?_; first | refine ar_assign_sl rfl rfl rfl rfl ?_ | fail)
       | (refine arO ⟨_, .call { callee := .builtin .append, args := _, argTypes := _ }, _, _, _, _⟩ ?_; first
        | (apply ar_effM rfl rfl; (next => (first
         | (apply effTo_append (T := TT) rfl rfl rfl rfl rfl rfl rfl rfl rfl rfl; (next => (first | (simp [RowsOne, AV.one, AV.rd, AV.cells, cst, Value.oneCell'] <;> omega))); (next => (first | (simp [NFL] <;> omega))))
         | fail)))
        | fail)
       | fail)
      | refine ar_unwanted' rfl rfl rfl rfl ?_
      | refine ar_seq ?_
      | (refine arE ?_; refine ar_endM [0, 1, 2, 6, 7, 9, 17, 27] rfl ?_)
      | refine ar_region ?_
      | refine ar_block ?_
      | refine ar_skip ?_
      | refine ar_blk ?_
      | (refine arC (.cond _ _ _) ?_; first | (refine ar_cond_true rfl ?_ ?_; (next => (first | rfl))) | (refine ar_cond_false rfl ?_ ?_; (next => (first | rfl))) | fail)
      | fail)
    refine ar_back (hback2 _ ⟨rfl, ?_, trivial, rfl⟩)
    (repeat' (first | exact trivial | exact .refl _ | refine ⟨⟨_, rfl, ?_⟩, ?_⟩ | refine Le1.of_eq ?_))
    · rw [byteA_snoc3 (bt ((64 - 1) * 4 + 2)) (bt (back % 256)) (bt (back / 256 % 256)) (by rw [e1]; omega) (by rw [e2]) (by rw [e3]), three (by omega)]
    · congr 2; omega
  obtain rfl : n = m := by omega
  have fin3 : ∀ h : ¬ (4 ≤ n ∧ n < 12 ∧ back < 2048), byteA q ++ [[AV.v (.int .u8 ((((n : Int) - 1) * 4 + 2) % 256))], [AV.v (.int .u8 ((back : Int) % 256))], [AV.v (.int .u8 ((back : Int) / 256 % 256))]] = byteA (q ++ elemB back n) := fun h => by
    rw [byteA_snoc3 (bt ((n - 1) * 4 + 2)) (bt (back % 256)) (bt (back / 256 % 256)) (by rw [e1]; omega) (by rw [e2]) (by rw [e3]), three h]
  by_cases h4 : n < 4
  · repeat (first
    | ((first | apply ar_un); (next => (first | (simp only [go_sem, Nat.reduceBEq, Nat.reduceEqDiff, reduceIte, reduceCtorEq, String.reduceEq, Nat.reduceAdd, Int.reduceToNat]; exact rfl))))
    | (apply ar_op' rfl rfl rfl rfl; (next => exact opv_or_add 2 4 rfl rfl rfl (by decide) (by omega)))
    | (apply ar_op' rfl rfl rfl rfl; (next => (first
     | (refine evalE_ok (T := TT) rfl ?_; (first | exact trivial | omega))
     | (apply opk ⟨_, .binOp .gtr _ _ _ _, _, _, _, _⟩; first
      | (refine opv_cmp_t rfl rfl rfl ?_; (next => (first | (simp only [cmpP]; omega))))
      | (refine opv_cmp_f rfl rfl rfl ?_; (next => (first | (simp only [cmpP]; omega))))
      | fail)
     | (apply opk ⟨_, .binOp .geq _ _ _ _, _, _, _, _⟩; first | (refine opv_cmp_f rfl rfl rfl ?_; (next => (first | (simp only [cmpP]; omega)))) | fail)
     | (apply opk ⟨_, .convert _ _ _, _, _, _, _⟩; first | exact opv_conv8 (T := TT) rfl rfl rfl | fail)
     | (apply opk ⟨_, .call { callee := .builtin .min, args := _, argTypes := _ }, _, _, _, _⟩; first | (refine opv_min_l rfl rfl ?_; (next => (first | omega))) | fail)
     | (apply opk ⟨_, .buildSlice _ _ _, _, _, _, _⟩; first | exact opv_build_slice (T := TT) rfl rfl rfl rfl rfl rfl rfl | fail)
     | (apply opk ⟨_, .pick _ _ _, _, _, _, _⟩; first | (refine opv_pickf rfl ?_ rfl; (next => (first | rfl))) | fail)
     | fail)))
    | (refine arO _ ?_; first
     | (refine arO ⟨_, .move _, _, _, _, _⟩ ?_; first | refine ar_move_sl rfl rfl rfl rfl ?_ | fail)
     | (refine arO ⟨_, .assign _, _, _, _, _⟩ ?_; first | refine ar_assign_sl rfl rfl rfl rfl ?_ | fail)
     | (refine arO ⟨_, .call { callee := .builtin .append, args := _, argTypes := _ }, _, _, _, _⟩ ?_; first
      | (apply ar_effM rfl rfl; (next => (first
       | (apply effTo_append (T := TT) rfl rfl rfl rfl rfl rfl rfl rfl rfl rfl; (next => (first | (simp [RowsOne, AV.one, AV.rd, AV.cells, cst, Value.oneCell'] <;> omega))); (next => (first | (simp [NFL] <;> omega))))
       | fail)))
      | fail)
     | fail)
    | refine ar_unwanted' rfl rfl rfl rfl ?_
    | refine ar_seq ?_
    | (refine arE ?_; refine ar_endM [0, 1, 2, 6, 7, 9, 17, 27] rfl ?_)
    | refine ar_region ?_
    | refine ar_block ?_
    | refine ar_skip ?_
    | refine ar_blk ?_
    | (refine arC (.cond _ _ _) ?_; first | (refine ar_cond_true rfl ?_ ?_; (next => (first | rfl))) | (refine ar_cond_false rfl ?_ ?_; (next => (first | rfl))) | fail)
    | fail)
    refine ar_back (hback2 _ ⟨rfl, ?_, trivial, rfl⟩)
    (repeat' (first | exact trivial | exact .refl _ | refine ⟨⟨_, rfl, ?_⟩, ?_⟩ | refine Le1.of_eq ?_))
    · rw [fin3 (by omega)]
    · congr 2; omega
  by_cases h12 : 12 ≤ n
  · repeat (first
    | ((first | apply ar_un); (next => (first | (simp only [go_sem, Nat.reduceBEq, Nat.reduceEqDiff, reduceIte, reduceCtorEq, String.reduceEq, Nat.reduceAdd, Int.reduceToNat]; exact rfl))))
    | (apply ar_op' rfl rfl rfl rfl; (next => exact opv_or_add 2 4 rfl rfl rfl (by decide) (by omega)))
    | (apply ar_op' rfl rfl rfl rfl; (next => (first
     | (refine evalE_ok (T := TT) rfl ?_; (first | exact trivial | omega))
     | (apply opk ⟨_, .binOp .lss _ _ _ _, _, _, _, _⟩; first | (refine opv_cmp_f rfl rfl rfl ?_; (next => (first | (simp only [cmpP]; omega)))) | fail)
     | (apply opk ⟨_, .binOp .gtr _ _ _ _, _, _, _, _⟩; first
      | (refine opv_cmp_t rfl rfl rfl ?_; (next => (first | (simp only [cmpP]; omega))))
      | (refine opv_cmp_f rfl rfl rfl ?_; (next => (first | (simp only [cmpP]; omega))))
      | fail)
     | (apply opk ⟨_, .binOp .geq _ _ _ _, _, _, _, _⟩; first | (refine opv_cmp_t rfl rfl rfl ?_; (next => (first | (simp only [cmpP]; omega)))) | fail)
     | (apply opk ⟨_, .convert _ _ _, _, _, _, _⟩; first | exact opv_conv8 (T := TT) rfl rfl rfl | fail)
     | (apply opk ⟨_, .call { callee := .builtin .min, args := _, argTypes := _ }, _, _, _, _⟩; first | (refine opv_min_l rfl rfl ?_; (next => (first | omega))) | fail)
     | (apply opk ⟨_, .buildSlice _ _ _, _, _, _, _⟩; first | exact opv_build_slice (T := TT) rfl rfl rfl rfl rfl rfl rfl | fail)
     | (apply opk ⟨_, .pick _ _ _, _, _, _, _⟩; first
      | (refine opv_pickt rfl ?_ rfl; (next => (first | rfl)))
      | (refine opv_pickf rfl ?_ rfl; (next => (first | rfl)))
      | fail)
     | fail)))
    | (refine arO _ ?_; first
     | (refine arO ⟨_, .move _, _, _, _, _⟩ ?_; first | refine ar_move_sl rfl rfl rfl rfl ?_ | fail)
     | (refine arO ⟨_, .assign _, _, _, _, _⟩ ?_; first | refine ar_assign_sl rfl rfl rfl rfl ?_ | fail)
     | (refine arO ⟨_, .call { callee := .builtin .append, args := _, argTypes := _ }, _, _, _, _⟩ ?_; first
      | (apply ar_effM rfl rfl; (next => (first
       | (apply effTo_append (T := TT) rfl rfl rfl rfl rfl rfl rfl rfl rfl rfl; (next => (first | (simp [RowsOne, AV.one, AV.rd, AV.cells, cst, Value.oneCell'] <;> omega))); (next => (first | (simp [NFL] <;> omega))))
       | fail)))
      | fail)
     | fail)
    | refine ar_unwanted' rfl rfl rfl rfl ?_
    | refine ar_seq ?_
    | (refine arE ?_; refine ar_endM [0, 1, 2, 6, 7, 9, 17, 27] rfl ?_)
    | refine ar_region ?_
    | refine ar_block ?_
    | refine ar_skip ?_
    | refine ar_blk ?_
    | (refine arC (.cond _ _ _) ?_; first | (refine ar_cond_true rfl ?_ ?_; (next => (first | rfl))) | (refine ar_cond_false rfl ?_ ?_; (next => (first | rfl))) | fail)
    | fail)
    refine ar_back (hback2 _ ⟨rfl, ?_, trivial, rfl⟩)
    (repeat' (first | exact trivial | exact .refl _ | refine ⟨⟨_, rfl, ?_⟩, ?_⟩ | refine Le1.of_eq ?_))
    · rw [fin3 (by omega)]
    · congr 2; omega
  by_cases hb : 2048 ≤ back
  · repeat (first
    | ((first | apply ar_un); (next => (first | (simp only [go_sem, Nat.reduceBEq, Nat.reduceEqDiff, reduceIte, reduceCtorEq, String.reduceEq, Nat.reduceAdd, Int.reduceToNat]; exact rfl))))
    | (apply ar_op' rfl rfl rfl rfl; (next => exact opv_or_add 2 4 rfl rfl rfl (by decide) (by omega)))
    | (apply ar_op' rfl rfl rfl rfl; (next => (first
     | (refine evalE_ok (T := TT) rfl ?_; (first | exact trivial | omega))
     | (apply opk ⟨_, .binOp .lss _ _ _ _, _, _, _, _⟩; first
      | (refine opv_cmp_t rfl rfl rfl ?_; (next => (first | (simp only [cmpP]; omega))))
      | (refine opv_cmp_f rfl rfl rfl ?_; (next => (first | (simp only [cmpP]; omega))))
      | fail)
     | (apply opk ⟨_, .binOp .gtr _ _ _ _, _, _, _, _⟩; first
      | (refine opv_cmp_t rfl rfl rfl ?_; (next => (first | (simp only [cmpP]; omega))))
      | (refine opv_cmp_f rfl rfl rfl ?_; (next => (first | (simp only [cmpP]; omega))))
      | fail)
     | (apply opk ⟨_, .binOp .geq _ _ _ _, _, _, _, _⟩; first | (refine opv_cmp_t rfl rfl rfl ?_; (next => (first | (simp only [cmpP]; omega)))) | fail)
     | (apply opk ⟨_, .convert _ _ _, _, _, _, _⟩; first | exact opv_conv8 (T := TT) rfl rfl rfl | fail)
     | (apply opk ⟨_, .call { callee := .builtin .min, args := _, argTypes := _ }, _, _, _, _⟩; first | (refine opv_min_l rfl rfl ?_; (next => (first | omega))) | fail)
     | (apply opk ⟨_, .buildSlice _ _ _, _, _, _, _⟩; first | exact opv_build_slice (T := TT) rfl rfl rfl rfl rfl rfl rfl | fail)
     | (apply opk ⟨_, .pick _ _ _, _, _, _, _⟩; first
      | (refine opv_pickt rfl ?_ rfl; (next => (first | rfl)))
      | (refine opv_pickf rfl ?_ rfl; (next => (first | rfl)))
      | fail)
     | fail)))
    | (refine arO _ ?_; first
     | (refine arO ⟨_, .move _, _, _, _, _⟩ ?_; first | refine ar_move_sl rfl rfl rfl rfl ?_ | fail)
     | (refine arO ⟨_, .assign _, _, _, _, _⟩ ?_; first | refine ar_assign_sl rfl rfl rfl rfl ?_ | fail)
     | (refine arO ⟨_, .call { callee := .builtin .append, args := _, argTypes := _ }, _, _, _, _⟩ ?_; first
      | (apply ar_effM rfl rfl; (next => (first
       | (apply effTo_append (T := TT) rfl rfl rfl rfl rfl rfl rfl rfl rfl rfl; (next => (first | (simp [RowsOne, AV.one, AV.rd, AV.cells, cst, Value.oneCell'] <;> omega))); (next => (first | (simp [NFL] <;> omega))))
       | fail)))
      | fail)
     | fail)
    | refine ar_unwanted' rfl rfl rfl rfl ?_
    | refine ar_seq ?_
    | (refine arE ?_; refine ar_endM [0, 1, 2, 6, 7, 9, 17, 27] rfl ?_)
    | refine ar_region ?_
    | refine ar_block ?_
    | refine ar_skip ?_
    | refine ar_blk ?_
    | (refine arC (.cond _ _ _) ?_; first | (refine ar_cond_true rfl ?_ ?_; (next => (first | rfl))) | (refine ar_cond_false rfl ?_ ?_; (next => (first | rfl))) | fail)
    | fail)
    refine ar_back (hback2 _ ⟨rfl, ?_, trivial, rfl⟩)
    (repeat' (first | exact trivial | exact .refl _ | refine ⟨⟨_, rfl, ?_⟩, ?_⟩ | refine Le1.of_eq ?_))
    · rw [fin3 (by omega)]
    · congr 2; omega
  · repeat (first
    | ((first | apply ar_un); (next => (first | (simp only [go_sem, Nat.reduceBEq, Nat.reduceEqDiff, reduceIte, reduceCtorEq, String.reduceEq, Nat.reduceAdd, Int.reduceToNat]; exact rfl))))
    | (apply ar_op' rfl rfl rfl rfl; (next => exact opv_or_add 5 32 rfl rfl rfl (by decide) (by omega)))
    | (apply ar_op' rfl rfl rfl rfl; (next => exact opv_or_add 2 4 rfl rfl rfl (by decide) (by omega)))
    | (apply ar_op' rfl rfl rfl rfl; (next => (first
     | (refine evalE_ok (T := TT) rfl ?_; (first | exact trivial | omega))
     | (apply opk ⟨_, .binOp .lss _ _ _ _, _, _, _, _⟩; first | (refine opv_cmp_t rfl rfl rfl ?_; (next => (first | (simp only [cmpP]; omega)))) | fail)
     | (apply opk ⟨_, .binOp .gtr _ _ _ _, _, _, _, _⟩; first
      | (refine opv_cmp_t rfl rfl rfl ?_; (next => (first | (simp only [cmpP]; omega))))
      | (refine opv_cmp_f rfl rfl rfl ?_; (next => (first | (simp only [cmpP]; omega))))
      | fail)
     | (apply opk ⟨_, .binOp .geq _ _ _ _, _, _, _, _⟩; first | (refine opv_cmp_t rfl rfl rfl ?_; (next => (first | (simp only [cmpP]; omega)))) | fail)
     | (apply opk ⟨_, .convert _ _ _, _, _, _, _⟩; first | exact opv_conv8 (T := TT) rfl rfl rfl | fail)
     | (apply opk ⟨_, .call { callee := .builtin .min, args := _, argTypes := _ }, _, _, _, _⟩; first | (refine opv_min_l rfl rfl ?_; (next => (first | omega))) | fail)
     | (apply opk ⟨_, .buildSlice _ _ _, _, _, _, _⟩; first | exact opv_build_slice (T := TT) rfl rfl rfl rfl rfl rfl rfl | fail)
     | (apply opk ⟨_, .pick _ _ _, _, _, _, _⟩; first
      | (refine opv_pickt rfl ?_ rfl; (next => (first | rfl)))
      | (refine opv_pickf rfl ?_ rfl; (next => (first | rfl)))
      | fail)
     | fail)))
    | (refine arO _ ?_; first
     | (refine arO ⟨_, .move _, _, _, _, _⟩ ?_; first | refine ar_move_sl rfl rfl rfl rfl ?_ | fail)
     | (refine arO ⟨_, .assign _, _, _, _, _⟩ ?_; first | refine ar_assign_sl rfl rfl rfl rfl ?_ | fail)
     | (refine arO ⟨_, .call { callee := .builtin .append, args := _, argTypes := _ }, _, _, _, _⟩ ?_; first
      | (apply ar_effM rfl rfl; (next => (first
       | (apply effTo_append (T := TT) rfl rfl rfl rfl rfl rfl rfl rfl rfl rfl; (next => (first | (simp [RowsOne, AV.one, AV.rd, AV.cells, cst, Value.oneCell'] <;> omega))); (next => (first | (simp [NFL] <;> omega))))
       | fail)))
      | fail)
     | fail)
    | refine ar_unwanted' rfl rfl rfl rfl ?_
    | refine ar_seq ?_
    | (refine arE ?_; refine ar_endM [0, 1, 2, 6, 7, 9, 17, 27] rfl ?_)
    | refine ar_region ?_
    | refine ar_block ?_
    | refine ar_skip ?_
    | refine ar_blk ?_
    | (refine arC (.cond _ _ _) ?_; first | (refine ar_cond_true rfl ?_ ?_; (next => (first | rfl))) | (refine ar_cond_false rfl ?_ ?_; (next => (first | rfl))) | fail)
    | fail)
    refine ar_back (hback2 _ ⟨rfl, ?_, trivial, rfl⟩)
    (repeat' (first | exact trivial | exact .refl _ | refine ⟨⟨_, rfl, ?_⟩, ?_⟩ | refine Le1.of_eq ?_))
    · have f1 : (((bt (back / 256 * 32 + (n - 4) * 4 + 1)).toNat : Nat) : Int) = ((back : Int) / 256 * 32 + ((n : Int) - 4) * 4 + 1) % 256 := by rw [bt_toNat (by omega)]; omega
      rw [byteA_snoc2 (bt (back / 256 * 32 + (n - 4) * 4 + 1)) (bt (back % 256)) (by rw [f1]) (by rw [e2])]
      unfold elemB
      rw [if_pos (by omega)]
    · congr 2; omega
end Go.Proofs.Ytmoehipmpchofaa
