/- The press's take, little and back, walked over abstract values. -/
import Derived.Test.YtmoehipmpchofaaV2
import Derived.Test.YtmoehipmpchofaaPV
namespace Go.Proofs.Ytmoehipmpchofaa
open Go.RowKit P
set_option linter.unusedSimpArgs false
set_option linter.unusedVariables false
attribute [local irreducible] AS.nf OpV ARun Stk QSem QSemA ACalls EffOp AppOk SrcOk Awp Aops
set_option maxHeartbeats 1000000

set_option maxRecDepth 100000 in
theorem take_few (rb : Nat) (s o : List UInt8) (most k : Nat) (hk : k ≤ 1000000000000) (hs : s.length ≤ 140737488355328) (hlt : s.length < k) :
    ACalls Try.prog 85 [.v (.pointer (some ⟨rb, 0, none⟩)), .v (.int .i64 k)] [(rb, [AV.v (.string (mkB (s))), .sl true 1 (byteA (o)), .v (.int .i64 (most))])] (fun out H => out = .ret (.tu [.v (.string (mkB [])), .v (.bool false)]) ∧ H = [(rb, [AV.v (.string (mkB (s))), .sl true 1 (byteA (o)), .v (.int .i64 (most))])]) := by
  refine acalls_enter _ 30 [.tmp 4, .tmp 5] Try.func85 (by kernel_rfl) rfl rfl rfl rfl ?_
  dsimp only [slotsOf]
  repeat (first
    | ((first | apply ar_un | apply stk_un); (next => (first | (simp only [go_sem, Nat.reduceBEq, Nat.reduceEqDiff, reduceIte, reduceCtorEq, String.reduceEq, Nat.reduceAdd, Int.reduceToNat]; exact rfl))))
    | (apply ar_op' rfl rfl rfl rfl; (next => (first
     | (refine evalE_ok (T := TT) rfl ?_; (first | exact trivial))
     | (apply opk ⟨_, .binOp .gtr _ _ _ _, _, _, _, _⟩; first | (refine opv_cmp_t rfl rfl rfl ?_; (next => (first | (simp only [cmpP]; simp [NFL] <;> omega)))) | fail)
     | (apply opk ⟨_, .call { callee := .builtin .len, args := _, argTypes := _ }, _, _, _, _⟩; first | exact opv_len_str (T := TT) rfl rfl rfl | fail)
     | (apply opk ⟨_, .fieldAddr _ _ _, _, _, _, _⟩; first | exact opv_field_box (T := TT) rfl rfl rfl rfl rfl | fail)
     | fail)))
    | (refine arO _ ?_; first
     | (refine arO ⟨_, .load _ _, _, _, _, _⟩ ?_; first | refine ar_load_own (T := TT) rfl rfl rfl rfl look_hd rfl rfl rfl rfl ?_ | fail)
     | fail)
    | refine ar_seq ?_
    | (refine arE ?_; refine ar_endM [0, 1, 4, 5, 6, 13] rfl ?_)
    | refine ar_region ?_
    | (refine arC (.cond _ _ _) ?_; first | (refine ar_cond_true rfl ?_ ?_; (next => (first | rfl))) | fail)
    | (refine arC .ret ?_; refine ar_retM [4, 5] ?_)
    | refine stk_c_ret ?_
    | refine stk_nil ?_
    | fail)
  first | exact qret_mk rfl (⟨rfl, rfl⟩) | (trace_state; exact qret_mk rfl (⟨rfl, rfl⟩))
set_option maxRecDepth 100000 in
theorem take_some (rb : Nat) (s o : List UInt8) (most k : Nat) (hk : k ≤ 1000000000000) (hs : s.length ≤ 140737488355328) (hlt : ¬ s.length < k) :
    ACalls Try.prog 85 [.v (.pointer (some ⟨rb, 0, none⟩)), .v (.int .i64 k)] [(rb, [AV.v (.string (mkB (s))), .sl true 1 (byteA (o)), .v (.int .i64 (most))])] (fun out H => out = .ret (.tu [.v (.string (mkB (s.take k))), .v (.bool true)]) ∧ H = [(rb, [AV.v (.string (mkB (s.drop k))), .sl true 1 (byteA (o)), .v (.int .i64 (most))])]) := by
  refine acalls_enter _ 30 [.tmp 4, .tmp 5] Try.func85 (by kernel_rfl) rfl rfl rfl rfl ?_
  dsimp only [slotsOf]
  repeat (first
    | ((first | apply ar_un | apply stk_un); (next => (first | (simp only [go_sem, Nat.reduceBEq, Nat.reduceEqDiff, reduceIte, reduceCtorEq, String.reduceEq, Nat.reduceAdd, Int.reduceToNat]; exact rfl))))
    | (apply ar_op' rfl rfl rfl rfl; (next => (first
     | (refine evalE_ok (T := TT) rfl ?_; (first | exact trivial | (simp [NFL] <;> omega)))
     | (apply opk ⟨_, .binOp .gtr _ _ _ _, _, _, _, _⟩; first | (refine opv_cmp_f rfl rfl rfl ?_; (next => (first | (simp only [cmpP]; simp [NFL] <;> omega)))) | fail)
     | (apply opk ⟨_, .call { callee := .builtin .len, args := _, argTypes := _ }, _, _, _, _⟩; first | exact opv_len_str (T := TT) rfl rfl rfl | fail)
     | (apply opk ⟨_, .fieldAddr _ _ _, _, _, _, _⟩; first | exact opv_field_box (T := TT) rfl rfl rfl rfl rfl | fail)
     | fail)))
    | (refine arO _ ?_; first
     | (refine arO ⟨_, .load _ _, _, _, _, _⟩ ?_; first | refine ar_load_own (T := TT) rfl rfl rfl rfl look_hd rfl rfl rfl rfl ?_ | fail)
     | (refine arO ⟨_, .store _ _ _, _, _, _, _⟩ ?_; first
      | (apply ar_effM rfl rfl; (next => (first
       | (apply effTo_store (T := TT) rfl; (next => (first | exact look_hd | fail)); (next => rfl); (next => rfl); (next => rfl); (next => rfl); (next => rfl); (next => rfl); (next => rfl); (next => rfl))
       | fail)))
      | fail)
     | fail)
    | refine ar_seq ?_
    | (refine arE ?_; refine ar_endM [0, 1, 4, 5, 6, 13] rfl ?_)
    | refine ar_region ?_
    | refine ar_skip ?_
    | refine ar_dedup rfl ?_
    | (refine arC (.cond _ _ _) ?_; first | (refine ar_cond_false rfl ?_ ?_; (next => (first | rfl))) | fail)
    | (refine arC .ret ?_; refine ar_retM [4, 5] ?_)
    | refine stk_nil ?_
    | fail)
  first | exact qret_mk rfl (⟨rfl, rfl⟩) | (trace_state; exact qret_mk rfl (⟨rfl, rfl⟩))

theorem or_lows (i a c : Nat) (ha : a < 2 ^ i) (ha2 : a < 2 ^ 40) (hc : c * 2 ^ i < 2 ^ 40) : bits BinOp.or IntKind.i64 (a : Int) ((c * 2 ^ i : Nat) : Int) = ((a + c * 2 ^ i : Nat) : Int) := by
  rw [(bits_nat .i64 40 (by decide) (fun n h0 h1 => by rw [IntKind.wrap_i64]; omega) a (c * 2 ^ i) ha2 hc).2, Nat.or_comm, Nat.mul_comm c, ← Nat.two_pow_add_eq_or_of_lt ha c, Nat.add_comm]
theorem or8' (a c k : Nat) (hk : k < 4) (ha : a < 256 ^ k) (hc : c < 256) : bits BinOp.or IntKind.i64 (a : Int) (IntKind.i64.wrap ((c : Int) * 2 ^ (min (8 * (k : Int)).toNat IntKind.i64.bits))) = ((a + 256 ^ k * c : Nat) : Int) := by
  have h3 : c * 2 ^ (8 * k) < 2 ^ 40 ∧ a < 2 ^ (8 * k) ∧ a < 2 ^ 40 ∧ 256 ^ k * c = c * 2 ^ (8 * k) := by
    obtain rfl | rfl | rfl | rfl : k = 0 ∨ k = 1 ∨ k = 2 ∨ k = 3 := by omega
    all_goals (simp at ha ⊢; omega)
  have h2 : (c : Int) * 2 ^ (min (8 * (k : Int)).toNat IntKind.i64.bits) = ((c * 2 ^ (8 * k) : Nat) : Int) := by
    have : min (8 * (k : Int)).toNat IntKind.i64.bits = 8 * k := by simp [IntKind.bits]; omega
    rw [this]; simp
  rw [h2]
  have h4 : IntKind.i64.wrap ((c * 2 ^ (8 * k) : Nat) : Int) = ((c * 2 ^ (8 * k) : Nat) : Int) := by
    have := h3.1
    rw [IntKind.wrap_i64]; omega
  rw [h4, or_lows _ _ _ h3.2.1 h3.2.2.1 h3.1, h3.2.2.2]

set_option maxRecDepth 100000 in
theorem little_a (s : List UInt8) (hs : s.length ≤ 4) :
    ACalls Try.prog 86 [.v (.string (mkB s))] [] (fun out H => out = .ret (.v (.int .i64 (leN s))) ∧ H = []) := by
  refine acalls_enter _ 21 [.tmp 2] Try.func86 (by kernel_rfl) rfl rfl rfl rfl ?_
  dsimp only [slotsOf]
  repeat (first
    | ((first | apply ar_un); (next => (first | (simp only [go_sem, Nat.reduceBEq, Nat.reduceEqDiff, reduceIte, reduceCtorEq, String.reduceEq, Nat.reduceAdd, Int.reduceToNat]; exact rfl))))
    | (apply ar_op' rfl rfl rfl rfl; (next => (first
     | (refine evalE_ok (T := TT) rfl ?_; (first | exact trivial))
     | (apply opk ⟨_, .call { callee := .builtin .len, args := _, argTypes := _ }, _, _, _, _⟩; first | exact opv_len_str (T := TT) rfl rfl rfl | fail)
     | fail)))
    | refine ar_seq ?_
    | (refine arE ?_; refine ar_endM [0, 2, 3, 4, 6, 7, 8] rfl ?_)
    | refine ar_region ?_
    | refine ar_block ?_
    | fail)
  refine ar_loop (fun k : Nat => ⟨21, [(0, .v (.string (mkB s))), (3, .v (.int .i64 (leN (s.take k)))), (6, .v (.int .i64 s.length)), (7, .v (.int .i64 k))], [], []⟩) (fun k => k ≤ s.length) (fun k => s.length - k) 0 ⟨rfl, ?_, trivial, rfl⟩ (Nat.zero_le _) ?_
  · (repeat' (first | exact trivial | exact .refl _ | refine ⟨⟨_, rfl, ?_⟩, ?_⟩))
  · intro k hk

    repeat (first | ((first | apply ar_un); (next => (first | (simp only [go_sem, Nat.reduceBEq, Nat.reduceEqDiff, reduceIte, reduceCtorEq, String.reduceEq, Nat.reduceAdd, Int.reduceToNat]; exact rfl)))) | (apply ar_op' rfl rfl rfl rfl; (next => (first | (apply opk ⟨_, .binOp .lss _ _ _ _, _, _, _, _⟩; first | exact opv_bin rfl rfl rfl | fail) | fail))) | refine ar_seq ?_ | (refine arE ?_; refine ar_endM [0, 2, 3, 4, 6, 7, 8] rfl ?_) | refine ar_region ?_ | fail)
    by_cases hlt : k < s.length
    · refine ar_cond_true rfl (by first | rfl | (simp; omega)) ?_
      have hc := (s.getD k 0).toNat_lt
      have hl := leN_lt (s.take k)
      have hlen : (s.take k).length = k := by rw [List.length_take]; omega
      rw [hlen] at hl
      have hor := or8' (leN (s.take k)) (s.getD k 0).toNat k (by omega) hl hc
      have hst : leN (s.take k) + 256 ^ k * (s.getD k 0).toNat = leN (s.take (k + 1)) := by
        rw [List.take_succ_eq_append_getElem hlt, leN_append, hlen]
        simp [leN, hlt]
      rw [hst] at hor
      repeat (first
        | ((first | apply ar_un); (next => (first | (simp only [go_sem, Nat.reduceBEq, Nat.reduceEqDiff, reduceIte, reduceCtorEq, String.reduceEq, Nat.reduceAdd, Int.reduceToNat]; exact rfl))))
        | refine ar_op' rfl rfl rfl rfl (opv_eq (opv_bin rfl rfl rfl) (congrArg (fun q => AV.v (.int .i64 q)) hor)) ?_
        | (apply ar_op' rfl rfl rfl rfl; (next => (first
         | (refine evalE_ok (T := TT) rfl ?_; (first | exact trivial | omega | (simp [NFL] <;> omega)))
         | (apply opk ⟨_, .binOp .shl _ _ _ _, _, _, _, _⟩; first | (refine opv_shl rfl rfl rfl ?_; (next => (first | omega))) | fail)
         | (apply opk ⟨_, .convert _ _ _, _, _, _, _⟩; first | (refine opv_conv_byte (T := TT) rfl rfl rfl ?_; (next => (first | exact .inl rfl))) | fail)
         | fail)))
        | refine ar_seq ?_
        | (refine arE ?_; refine ar_endM [0, 2, 3, 4, 6, 7, 8] rfl ?_)
        | refine ar_region ?_
        | refine ar_block ?_
        | refine ar_skip ?_
        | refine ar_blk ?_
        | fail)
      refine ar_back ⟨k + 1, ⟨rfl, ?_, trivial, rfl⟩, by omega, by omega⟩
      (repeat' (first | exact trivial | exact .refl _ | refine ⟨⟨_, rfl, ?_⟩, ?_⟩))
    · refine ar_cond_false rfl (by first | rfl | (simp; omega)) ?_
      repeat (first
        | ((first | apply ar_un | apply stk_un); (next => (first | (simp only [go_sem, Nat.reduceBEq, Nat.reduceEqDiff, reduceIte, reduceCtorEq, String.reduceEq, Nat.reduceAdd, Int.reduceToNat]; exact rfl))))
        | (apply ar_op' rfl rfl rfl rfl; (next => (first | (refine evalE_ok (T := TT) rfl ?_; (first | exact trivial)) | fail)))
        | refine ar_seq ?_
        | (refine arE ?_; refine ar_endM [0, 2, 3, 4, 6, 7, 8] rfl ?_)
        | refine ar_region ?_
        | refine ar_exit ?_
        | refine stk_b_hit ?_
        | refine stk_c_exit ?_
        | refine stk_l_exit ?_
        | (refine arC .ret ?_; refine ar_retM [2] ?_)
        | refine stk_nil ?_
        | fail)
      obtain rfl : k = s.length := by omega
      exact qret_mk rfl ⟨by rw [List.take_length], rfl⟩

theorem copyB_snoc (back : Nat) : ∀ (n : Nat) (o : List UInt8), copyB back (n + 1) o = copyB back n o ++ [(copyB back n o).getD ((copyB back n o).length - back) 0]
  | 0, o => rfl
  | n + 1, o => by
    have h := copyB_snoc back n (o ++ [o.getD (o.length - back) 0])
    simp only [copyB] at h ⊢
    exact h
set_option maxRecDepth 100000 in
theorem back_none (rb : Nat) (s o : List UInt8) (most n back : Nat) (hm : most ≤ 20000) (ho : o.length ≤ most) (hn : n ≤ 65536) (hback : back ≤ 4294967295) (hc : back < 1 ∨ o.length < back ∨ most < o.length + n) :
    ACalls Try.prog 87 [.v (.pointer (some ⟨rb, 0, none⟩)), .v (.int .i64 n), .v (.int .i64 back)] [(rb, [AV.v (.string (mkB (s))), .sl true 1 (byteA (o)), .v (.int .i64 (most))])] (fun out H => out = .ret (.v (.bool false)) ∧ H = [(rb, [AV.v (.string (mkB (s))), .sl true 1 (byteA (o)), .v (.int .i64 (most))])]) := by
  refine acalls_enter _ 58 [.tmp 6] Try.func87 (by kernel_rfl) rfl rfl rfl rfl ?_
  dsimp only [slotsOf]
  by_cases h1 : back < 1
  · repeat (first
    | ((first | apply ar_un | apply stk_un); (next => (first | (simp only [go_sem, Nat.reduceBEq, Nat.reduceEqDiff, reduceIte, reduceCtorEq, String.reduceEq, Nat.reduceAdd, Int.reduceToNat]; exact rfl))))
    | ((first | apply ar_op' rfl rfl rfl rfl | apply q_op rfl rfl rfl); (next => (first
     | (refine evalE_ok (T := TT) rfl ?_; (first | exact trivial))
     | (apply opk ⟨_, .binOp .lss _ _ _ _, _, _, _, _⟩; first | (refine opv_cmp_t rfl rfl rfl ?_; (next => (first | (simp only [cmpP]; omega)))) | fail)
     | (apply opk ⟨_, .pick _ _ _, _, _, _, _⟩; first | (refine opv_pickt rfl ?_ rfl; (next => (first | rfl))) | fail)
     | fail)))
    | refine ar_seq ?_
    | (refine arE ?_; refine ar_endM [0, 1, 2, 6, 31, 32, 33, 34] rfl ?_)
    | refine ar_region ?_
    | (refine arC (.cond _ _ _) ?_; first | (refine ar_cond_true rfl ?_ ?_; (next => (first | rfl))) | fail)
    | (refine arC .ret ?_; refine ar_retM [6] ?_)
    | refine stk_c_ret ?_
    | refine stk_nil ?_
    | (refine arC (.region _ _ true) ?_; refine ar_nop (ar_draw mixed (by kernel_rfl) rfl ?_))
    | refine q_unwanted rfl rfl rfl ?_
    | (refine q_nil ?_; refine ar_endM [0, 1, 2, 6, 31, 32, 33, 34] rfl ?_)
    | fail)
    first | exact qret_mk rfl (⟨rfl, rfl⟩) | (trace_state; exact qret_mk rfl (⟨rfl, rfl⟩))
  · by_cases h2 : o.length < back
    · repeat (first
      | ((first | apply ar_un | apply stk_un); (next => (first | (simp only [go_sem, Nat.reduceBEq, Nat.reduceEqDiff, reduceIte, reduceCtorEq, String.reduceEq, Nat.reduceAdd, Int.reduceToNat]; exact rfl))))
      | ((first | apply ar_op' rfl rfl rfl rfl | apply q_op rfl rfl rfl); (next => (first
       | (refine evalE_ok (T := TT) rfl ?_; (first | exact trivial))
       | (apply opk ⟨_, .binOp .lss _ _ _ _, _, _, _, _⟩; first | (refine opv_cmp_f rfl rfl rfl ?_; (next => (first | (simp only [cmpP]; omega)))) | fail)
       | (apply opk ⟨_, .binOp .gtr _ _ _ _, _, _, _, _⟩; first | (refine opv_cmp_t rfl rfl rfl ?_; (next => (first | (simp only [cmpP]; simp [NFL] <;> omega)))) | fail)
       | (apply opk ⟨_, .call { callee := .builtin .len, args := _, argTypes := _ }, _, _, _, _⟩; first | exact opv_len_sl (T := TT) rfl rfl rfl | fail)
       | (apply opk ⟨_, .fieldAddr _ _ _, _, _, _, _⟩; first | exact opv_field_box (T := TT) rfl rfl rfl rfl rfl | fail)
       | (apply opk ⟨_, .pick _ _ _, _, _, _, _⟩; first
        | (refine opv_pickt rfl ?_ rfl; (next => (first | rfl)))
        | (refine opv_pickf rfl ?_ rfl; (next => (first | rfl)))
        | fail)
       | fail)))
      | (apply q_op rfl rfl rfl; (next => (first | (apply opv_load_box (T := TT) rfl; (next => (first | exact look_hd | fail)); (next => rfl); (next => rfl); (next => rfl); (next => rfl)) | fail)))
      | refine ar_seq ?_
      | (refine arE ?_; refine ar_endM [0, 1, 2, 6, 31, 32, 33, 34] rfl ?_)
      | refine ar_region ?_
      | (refine arC (.cond _ _ _) ?_; first | (refine ar_cond_true rfl ?_ ?_; (next => (first | rfl))) | fail)
      | (refine arC .ret ?_; refine ar_retM [6] ?_)
      | refine stk_c_ret ?_
      | refine stk_nil ?_
      | (refine arC (.region _ _ true) ?_; refine ar_nop (ar_draw mixed (by kernel_rfl) rfl ?_))
      | refine q_unwanted rfl rfl rfl ?_
      | (refine q_nil ?_; refine ar_endM [0, 1, 2, 6, 31, 32, 33, 34] rfl ?_)
      | fail)
      first | exact qret_mk rfl (⟨rfl, rfl⟩) | (trace_state; exact qret_mk rfl (⟨rfl, rfl⟩))
    · have h3 : most < o.length + n := by omega
      repeat (first
        | ((first | apply ar_un | apply stk_un); (next => (first | (simp only [go_sem, Nat.reduceBEq, Nat.reduceEqDiff, reduceIte, reduceCtorEq, String.reduceEq, Nat.reduceAdd, Int.reduceToNat]; exact rfl))))
        | ((first | apply ar_op' rfl rfl rfl rfl | apply q_op rfl rfl rfl); (next => (first
         | (refine evalE_ok (T := TT) rfl ?_; (first | exact trivial | (simp [NFL] <;> omega)))
         | (apply opk ⟨_, .binOp .lss _ _ _ _, _, _, _, _⟩; first | (refine opv_cmp_f rfl rfl rfl ?_; (next => (first | (simp only [cmpP]; omega)))) | fail)
         | (apply opk ⟨_, .binOp .gtr _ _ _ _, _, _, _, _⟩; first
          | (refine opv_cmp_t rfl rfl rfl ?_; (next => (first | (simp only [cmpP]; simp [NFL] <;> omega))))
          | (refine opv_cmp_f rfl rfl rfl ?_; (next => (first | (simp only [cmpP]; simp [NFL] <;> omega))))
          | fail)
         | (apply opk ⟨_, .call { callee := .builtin .len, args := _, argTypes := _ }, _, _, _, _⟩; first | exact opv_len_sl (T := TT) rfl rfl rfl | fail)
         | (apply opk ⟨_, .fieldAddr _ _ _, _, _, _, _⟩; first | exact opv_field_box (T := TT) rfl rfl rfl rfl rfl | fail)
         | (apply opk ⟨_, .pick _ _ _, _, _, _, _⟩; first | (refine opv_pickf rfl ?_ rfl; (next => (first | rfl))) | fail)
         | fail)))
        | (apply q_op rfl rfl rfl; (next => (first | (apply opv_load_box (T := TT) rfl; (next => (first | exact look_hd | fail)); (next => rfl); (next => rfl); (next => rfl); (next => rfl)) | fail)))
        | refine ar_seq ?_
        | (refine arE ?_; refine ar_endM [0, 1, 2, 6, 31, 32, 33, 34] rfl ?_)
        | refine ar_region ?_
        | (refine arC (.cond _ _ _) ?_; first | (refine ar_cond_true rfl ?_ ?_; (next => (first | rfl))) | fail)
        | (refine arC .ret ?_; refine ar_retM [6] ?_)
        | refine stk_c_ret ?_
        | refine stk_nil ?_
        | (refine arC (.region _ _ true) ?_; refine ar_nop (ar_draw mixed (by kernel_rfl) rfl ?_))
        | (refine q_nil ?_; refine ar_endM [0, 1, 2, 6, 31, 32, 33, 34] rfl ?_)
        | fail)
      first | exact qret_mk rfl (⟨rfl, rfl⟩) | (trace_state; exact qret_mk rfl (⟨rfl, rfl⟩))
set_option maxRecDepth 100000 in
theorem back_some (rb : Nat) (s o : List UInt8) (most n back : Nat) (hm : most ≤ 20000) (ho : o.length ≤ most) (hn : n ≤ 65536) (hback : back ≤ 4294967295) (h1 : ¬ back < 1) (h2 : ¬ o.length < back) (h3 : ¬ most < o.length + n) :
    ACalls Try.prog 87 [.v (.pointer (some ⟨rb, 0, none⟩)), .v (.int .i64 n), .v (.int .i64 back)] [(rb, [AV.v (.string (mkB (s))), .sl true 1 (byteA (o)), .v (.int .i64 (most))])] (fun out H => out = .ret (.v (.bool true)) ∧ H = [(rb, [AV.v (.string (mkB (s))), .sl true 1 (byteA (copyB back n o)), .v (.int .i64 (most))])]) := by
  refine acalls_enter _ 58 [.tmp 6] Try.func87 (by kernel_rfl) rfl rfl rfl rfl ?_
  dsimp only [slotsOf]
  repeat (first
    | ((first | apply ar_un); (next => (first | (simp only [go_sem, Nat.reduceBEq, Nat.reduceEqDiff, reduceIte, reduceCtorEq, String.reduceEq, Nat.reduceAdd, Int.reduceToNat]; exact rfl))))
    | ((first | apply ar_op' rfl rfl rfl rfl | apply q_op rfl rfl rfl); (next => (first
     | (refine evalE_ok (T := TT) rfl ?_; (first | exact trivial | (simp [NFL] <;> omega)))
     | (apply opk ⟨_, .binOp .lss _ _ _ _, _, _, _, _⟩; first | (refine opv_cmp_f rfl rfl rfl ?_; (next => (first | (simp only [cmpP]; omega)))) | fail)
     | (apply opk ⟨_, .binOp .gtr _ _ _ _, _, _, _, _⟩; first | (refine opv_cmp_f rfl rfl rfl ?_; (next => (first | (simp only [cmpP]; simp [NFL] <;> omega)))) | fail)
     | (apply opk ⟨_, .call { callee := .builtin .len, args := _, argTypes := _ }, _, _, _, _⟩; first | exact opv_len_sl (T := TT) rfl rfl rfl | fail)
     | (apply opk ⟨_, .fieldAddr _ _ _, _, _, _, _⟩; first | exact opv_field_box (T := TT) rfl rfl rfl rfl rfl | fail)
     | (apply opk ⟨_, .pick _ _ _, _, _, _, _⟩; first | (refine opv_pickf rfl ?_ rfl; (next => (first | rfl))) | fail)
     | fail)))
    | (apply q_op rfl rfl rfl; (next => (first | (apply opv_load_box (T := TT) rfl; (next => (first | exact look_hd | fail)); (next => rfl); (next => rfl); (next => rfl); (next => rfl)) | fail)))
    | refine ar_seq ?_
    | (refine arE ?_; refine ar_endM [0, 1, 2, 6, 31, 32, 33, 34] rfl ?_)
    | refine ar_region ?_
    | refine ar_block ?_
    | refine ar_skip ?_
    | (refine arC (.cond _ _ _) ?_; first | (refine ar_cond_false rfl ?_ ?_; (next => (first | rfl))) | fail)
    | (refine arC (.region _ _ true) ?_; refine ar_nop (ar_draw mixed (by kernel_rfl) rfl ?_))
    | (refine q_nil ?_; refine ar_endM [0, 1, 2, 6, 31, 32, 33, 34] rfl ?_)
    | fail)
  refine ar_loop (fun k : Nat => ⟨58, [(0, .v (.pointer (some ⟨rb, 0, none⟩))), (2, .v (.int .i64 back)), (32, .v (.int .i64 n)), (33, .v (.int .i64 k))], [(rb, [AV.v (.string (mkB (s))), .sl true 1 (byteA (copyB back k o)), .v (.int .i64 (most))])], []⟩) (fun k => k ≤ n) (fun k => n - k) 0 ⟨rfl, ?_, ?_, rfl⟩ (Nat.zero_le _) ?_
  · (repeat' (first | exact trivial | exact .refl _ | refine ⟨⟨_, rfl, ?_⟩, ?_⟩))
  · (repeat' (first | exact trivial | exact LeL.refl _ | refine ⟨⟨_, look_hd, ?_⟩, ?_⟩))
  · intro k hk
    have hcl := copyB_len back k o
    by_cases hlt : k < n
    · repeat (first
      | ((first | apply ar_un); (next => (first | (simp only [go_sem, Nat.reduceBEq, Nat.reduceEqDiff, reduceIte, reduceCtorEq, String.reduceEq, Nat.reduceAdd, Int.reduceToNat]; exact rfl))))
      | (apply ar_op' rfl rfl rfl rfl; (next => (first | (apply opk ⟨_, .binOp .lss _ _ _ _, _, _, _, _⟩; first | (refine opv_cmp_t rfl rfl rfl ?_; (next => (first | (simp only [cmpP]; omega)))) | fail) | fail)))
      | refine ar_seq ?_
      | (refine arE ?_; refine ar_endM [0, 1, 2, 6, 31, 32, 33, 34] rfl ?_)
      | refine ar_region ?_
      | refine ar_block ?_
      | refine ar_skip ?_
      | (refine arC (.cond _ _ _) ?_; first | (refine ar_cond_true rfl ?_ ?_; (next => (first | rfl))) | fail)
      | fail)
      refine ar_nop (ar_drawA (⟨19, 4, 39, 54, rb, 1, 1, byteA (copyB back k o), [[.v (.int .u8 (((copyB back k o).getD (((byteA (copyB back k o)).length : Int) - (back : Int)).toNat 0).toNat))]]⟩) mixed (body := List.dropLast _) (ow := List.getLast _ (by simp)) (List.dropLast_concat_getLast _).symm (by kernel_rfl) rfl (by first | exact own_c look_hd rfl) ?_)
      repeat (first
        | (apply qa_op rfl rfl rfl rfl rfl; (next => (first
         | (refine evalE_ok (T := TT) rfl ?_; (first | exact trivial | (simp [NFL] <;> omega)))
         | (apply opk ⟨_, .call { callee := .builtin .len, args := _, argTypes := _ }, _, _, _, _⟩; first | exact opv_len_sl (T := TT) rfl rfl rfl | fail)
         | (apply opk ⟨_, .indexAddr _ _ _, _, _, _, _⟩; first
          | (refine opv_indexaddr_byte (T := TT) rfl rfl rfl rfl ?_ ?_; (next => (first | (simp [NFL] <;> omega))); (next => (first | (simp [NFL] <;> omega))))
          | fail)
         | (apply opk ⟨_, .fieldAddr _ _ _, _, _, _, _⟩; first | exact opv_field_box (T := TT) rfl rfl rfl rfl rfl | fail)
         | (apply opk ⟨_, .load _ _, _, _, _, _⟩; first
          | exact opv_load_el (T := TT) rfl rfl rfl
          | (apply opv_load_box (T := TT) rfl; (next => (first | exact look_hd | fail)); (next => rfl); (next => rfl); (next => rfl); (next => rfl))
          | fail)
         | (apply opk ⟨_, .buildSlice _ _ _, _, _, _, _⟩; first | exact opv_build_slice (T := TT) rfl rfl rfl rfl rfl rfl rfl | fail)
         | fail)))
        | refine qa_src rfl rfl rfl rfl (opv_load_box (T := TT) rfl look_hd rfl rfl rfl rfl) (src_load (T := TT) rfl rfl look_hd rfl rfl rfl rfl) ?_
        | (refine qa_app rfl rfl rfl (app_ok (T := TT) rfl rfl rfl ?_ rfl rfl (adds_rel ?_) rfl ?_) ?_; (next => (first | exact .inr ⟨_, rfl⟩)); (next => (first | (simp [RowsOne, AV.one, AV.rd, AV.cells, cst, Value.oneCell'] <;> omega))); (next => (first | (simp [NFL] <;> omega))))
        | fail)
      refine qa_nil ⟨rfl, ?_⟩
      simp only [List.getLast_cons_cons, List.getLast_singleton]
      refine eff_nf ?_
      (apply eff_un; (next => ((first | (simp only [go_sem, Nat.reduceBEq, Nat.reduceEqDiff, reduceIte, reduceCtorEq, String.reduceEq, Nat.reduceAdd, Int.reduceToNat]; exact rfl) | exact rfl))))
      (apply effM; (next => (first | (apply effTo_store_own (T := TT) rfl rfl rfl; (next => (first | exact look_hd | fail)); (next => rfl); (next => rfl); (next => rfl)) | fail)))
      refine ar_endM [0, 1, 2, 6, 31, 32, 33, 34] rfl ?_
      repeat (first | ((first | apply ar_un); (next => (first | (simp only [go_sem, Nat.reduceBEq, Nat.reduceEqDiff, reduceIte, reduceCtorEq, String.reduceEq, Nat.reduceAdd, Int.reduceToNat]; exact rfl)))) | ((first | apply ar_op' rfl rfl rfl rfl); (next => (first | (refine evalE_ok (T := TT) rfl ?_; (first | exact trivial | omega)) | fail))) | (refine arE ?_; refine ar_endM [0, 1, 2, 6, 31, 32, 33, 34] rfl ?_) | refine ar_region ?_ | refine ar_blk ?_ | fail)
      refine ar_back ⟨k + 1, ⟨rfl, ?_, ?_, rfl⟩, by omega, by omega⟩
      · (repeat' (first | exact trivial | exact .refl _ | refine ⟨⟨_, rfl, ?_⟩, ?_⟩))
      · (repeat' (first | exact trivial | exact LeL.refl _ | exact .refl _ | refine ⟨⟨_, look_hd, ?_⟩, ?_⟩ | refine LeL.cons ?_ ?_ | refine Le1.of_eq ?_))
        rw [copyB_snoc, byteA_append, show (((copyB back k o).length : Int) - back).toNat = (copyB back k o).length - back by omega]
        rfl
    · repeat (first
      | ((first | apply ar_un | apply stk_un); (next => (first | (simp only [go_sem, Nat.reduceBEq, Nat.reduceEqDiff, reduceIte, reduceCtorEq, String.reduceEq, Nat.reduceAdd, Int.reduceToNat]; exact rfl))))
      | ((first | apply ar_op' rfl rfl rfl rfl); (next => (first
       | (refine evalE_ok (T := TT) rfl ?_; (first | exact trivial))
       | (apply opk ⟨_, .binOp .lss _ _ _ _, _, _, _, _⟩; first | (refine opv_cmp_f rfl rfl rfl ?_; (next => (first | (simp only [cmpP]; omega)))) | fail)
       | fail)))
      | refine ar_seq ?_
      | (refine arE ?_; refine ar_endM [0, 1, 2, 6, 31, 32, 33, 34] rfl ?_)
      | refine ar_region ?_
      | (refine arC (.cond _ _ _) ?_; first | (refine ar_cond_false rfl ?_ ?_; (next => (first | rfl))) | fail)
      | refine ar_exit ?_
      | refine stk_b_hit ?_
      | refine stk_c_exit ?_
      | refine stk_l_exit ?_
      | (refine arC .ret ?_; refine ar_retM [6] ?_)
      | refine stk_nil ?_
      | fail)
      obtain rfl : k = n := by omega
      first | exact qret_mk rfl (⟨rfl, rfl⟩) | (trace_state; exact qret_mk rfl (⟨rfl, rfl⟩))
end Go.Proofs.Ytmoehipmpchofaa
