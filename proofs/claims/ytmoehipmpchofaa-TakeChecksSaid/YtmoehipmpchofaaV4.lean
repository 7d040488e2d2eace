/- The press's element, walked over abstract values. Written by gen/v4.py. -/
import Derived.Test.YtmoehipmpchofaaV3
namespace Go.Proofs.Ytmoehipmpchofaa
open Go.RowKit P
set_option linter.unusedSimpArgs false
set_option linter.unusedVariables false
attribute [local irreducible] AS.nf OpV ARun Stk QSem QSemA ACalls EffOp AppOk SrcOk Awp Aops
set_option maxHeartbeats 1000000

/-- What an element does. -/
def ElemP (rb most : Nat) (x : Option (List UInt8 × List UInt8)) (out : AOut) (H : List (Nat × List AV)) : Prop :=
  (x = none ∧ out = .ret (.v (.bool false))) ∨ ∃ r o, x = some (r, o) ∧ out = .ret (.v (.bool true)) ∧ H = [(rb, [AV.v (.string (mkB (r))), .sl true 1 (byteA (o)), .v (.int .i64 (most))])]
set_option maxRecDepth 100000 in
theorem elem_short (rb : Nat) (c : UInt8) (r o : List UInt8) (most : Nat) (hm : most ≤ 20000) (ho : o.length ≤ most) (hr : r.length ≤ 140737488355328) (t0 : c.toNat % 4 = 0) (h60 : c.toNat / 4 < 60) :
    ACalls Try.prog 70 [.v (.pointer (some ⟨rb, 0, none⟩))] [(rb, [AV.v (.string (mkB (c :: r))), .sl true 1 (byteA (o)), .v (.int .i64 (most))])] (ElemP rb most (elemE c.toNat r o most)) := by
  have he : elemE c.toNat r o most = litE (c.toNat / 4) most r o := by unfold elemE; rw [if_pos t0, if_pos h60]
  refine acalls_enter _ 132 [.tmp 2] Try.func70 (by kernel_rfl) rfl rfl rfl rfl ?_
  dsimp only [slotsOf]
  have hc := c.toNat_lt
  repeat (first
    | ((first | apply ar_un); (next => (first | (simp only [go_sem, Nat.reduceBEq, Nat.reduceEqDiff, reduceIte, reduceCtorEq, String.reduceEq, Nat.reduceAdd, Int.reduceToNat]; exact rfl))))
    | ((first | apply ar_op' rfl rfl rfl rfl); (next => (first
     | (refine evalE_ok (T := TT) rfl ?_; (first | exact trivial | omega | (simp [NFL] <;> omega)))
     | (apply opk ⟨_, .binOp .and _ _ _ _, _, _, _, _⟩; first
      | (refine opv_and_mod 2 4 rfl rfl rfl ?_ ?_ ?_ ?_ ?_; (next => (first | exact .inl rfl)); (next => (decide)); (next => (decide)); (next => (decide)); (next => (first | omega)))
      | fail)
     | (apply opk ⟨_, .binOp .eql _ _ _ _, _, _, _, _⟩; first | (refine opv_cmp_t rfl rfl rfl ?_; (next => (first | (simp only [cmpP]; omega)))) | fail)
     | (apply opk ⟨_, .binOp .geq _ _ _ _, _, _, _, _⟩; first | (refine opv_cmp_f rfl rfl rfl ?_; (next => (first | (simp only [cmpP]; omega)))) | fail)
     | (apply opk ⟨_, .convert _ _ _, _, _, _, _⟩; first | (refine opv_conv_byte (T := TT) rfl rfl rfl ?_; (next => (first | exact .inl rfl))) | fail)
     | (apply opk ⟨_, .fieldAddr _ _ _, _, _, _, _⟩; first | exact opv_field_box (T := TT) rfl rfl rfl rfl rfl | fail)
     | fail)))
    | (refine arO _ ?_; first
     | (refine arO ⟨_, .load _ _, _, _, _, _⟩ ?_; first | refine ar_load_own (T := TT) rfl rfl rfl rfl look_hd rfl rfl rfl rfl ?_ | fail)
     | (refine arO ⟨_, .store _ _ _, _, _, _, _⟩ ?_; first
      | (apply ar_effM rfl rfl; (next => (first
       | (apply effTo_store (T := TT) rfl; (next => (first | exact look_hd | fail)); (next => rfl); (next => rfl); (next => rfl); (next => rfl); (next => rfl); (next => rfl); (next => rfl); (next => rfl))
       | fail)))
      | fail)
     | fail)
    | refine ar_seq ?_
    | (refine arE ?_; refine ar_endM [0, 2, 3, 4, 5, 6, 7, 8, 9, 10, 11, 12, 13, 14, 32, 33, 36, 45, 71, 81, 102] rfl ?_)
    | refine ar_region ?_
    | refine ar_block ?_
    | refine ar_skip ?_
    | refine ar_dedup rfl ?_
    | (refine arC (.cond _ _ _) ?_; first | (refine ar_cond_true rfl ?_ ?_; (next => (first | rfl))) | (refine ar_cond_false rfl ?_ ?_; (next => (first | rfl))) | fail)
    | fail)
  by_cases hs : (r).length < c.toNat / 4 + 1
  · have hx : litE (c.toNat / 4) most (r) o = none := by unfold litE; rw [if_pos (.inl hs)]
    repeat (first
      | ((first | apply ar_un | apply stk_un); (next => (first | (simp only [go_sem, Nat.reduceBEq, Nat.reduceEqDiff, reduceIte, reduceCtorEq, String.reduceEq, Nat.reduceAdd, Int.reduceToNat]; exact rfl))))
      | ((first | apply ar_op' rfl rfl rfl rfl | apply q_op rfl rfl rfl); (next => (first
       | (refine evalE_ok (T := TT) rfl ?_; (first | exact trivial))
       | (apply opk ⟨_, .pick _ _ _, _, _, _, _⟩; first | (refine opv_pickt rfl ?_ rfl; (next => (first | rfl))) | fail)
       | fail)))
      | (refine arO _ ?_; first
       | (refine arO ⟨_, .call { callee := .value _, args := _, argTypes := _ }, _, _, _, _⟩ ?_; first
        | (apply ar_callMH rfl (take_few rb (r) o most (c.toNat / 4 + 1) (by omega) (by first | omega) hs) rfl rfl; (next => (repeat (first | exact PArgs.nil | (apply PArgs.cons; (next => (first | exact PArg.rd rfl (Le1.refl _) rfl)))))); (next => rfl); (next => rfl); (next => rfl); rintro _ _ ⟨rfl, rfl⟩; refine ⟨_, rfl, ?_⟩)
        | fail)
       | fail)
      | refine ar_seq ?_
      | (refine arE ?_; refine ar_endM [0, 2, 3, 4, 5, 6, 7, 8, 9, 10, 11, 12, 13, 14, 32, 33, 36, 45, 71, 81, 102] rfl ?_)
      | refine ar_region ?_
      | (refine arC (.cond _ _ _) ?_; first | (refine ar_cond_true rfl ?_ ?_; (next => (first | rfl))) | fail)
      | (refine arC .ret ?_; refine ar_retM [2] ?_)
      | refine stk_c_ret ?_
      | refine stk_b_ret ?_
      | refine stk_nil ?_
      | (refine arC (.region _ _ true) ?_; refine ar_nop (ar_draw mixed (by kernel_rfl) rfl ?_))
      | refine q_unwanted rfl rfl rfl ?_
      | (refine q_nil ?_; refine ar_endM [0, 2, 3, 4, 5, 6, 7, 8, 9, 10, 11, 12, 13, 14, 32, 33, 36, 45, 71, 81, 102] rfl ?_)
      | fail)
    first | exact qret_mk rfl (.inl ⟨he.trans hx, rfl⟩) | (trace_state; exact qret_mk rfl (.inl ⟨he.trans hx, rfl⟩))
  · by_cases hw : most < o.length + (c.toNat / 4 + 1)
    · have hx : litE (c.toNat / 4) most (r) o = none := by unfold litE; rw [if_pos (.inr hw)]
      repeat (first
        | ((first | apply ar_un | apply stk_un); (next => (first | (simp only [go_sem, Nat.reduceBEq, Nat.reduceEqDiff, reduceIte, reduceCtorEq, String.reduceEq, Nat.reduceAdd, Int.reduceToNat]; exact rfl))))
        | ((first | apply ar_op' rfl rfl rfl rfl | apply q_op rfl rfl rfl); (next => (first
         | (refine evalE_ok (T := TT) rfl ?_; (first | exact trivial | omega | (simp [NFL] <;> omega)))
         | (apply opk ⟨_, .binOp .gtr _ _ _ _, _, _, _, _⟩; first | (refine opv_cmp_t rfl rfl rfl ?_; (next => (first | (simp only [cmpP]; simp [NFL] <;> omega)))) | fail)
         | (apply opk ⟨_, .call { callee := .builtin .len, args := _, argTypes := _ }, _, _, _, _⟩; first | exact opv_len_sl (T := TT) rfl rfl rfl | fail)
         | (apply opk ⟨_, .fieldAddr _ _ _, _, _, _, _⟩; first | exact opv_field_box (T := TT) rfl rfl rfl rfl rfl | fail)
         | (apply opk ⟨_, .pick _ _ _, _, _, _, _⟩; first | (refine opv_pickf rfl ?_ rfl; (next => (first | rfl))) | fail)
         | fail)))
        | (refine arO _ ?_; first
         | (refine arO ⟨_, .call { callee := .value _, args := _, argTypes := _ }, _, _, _, _⟩ ?_; first
          | (apply ar_callMH rfl (take_some rb (r) o most (c.toNat / 4 + 1) (by omega) (by first | omega) hs) rfl rfl; (next => (repeat (first | exact PArgs.nil | (apply PArgs.cons; (next => (first | exact PArg.rd rfl (Le1.refl _) rfl)))))); (next => rfl); (next => rfl); (next => rfl); rintro _ _ ⟨rfl, rfl⟩; refine ⟨_, rfl, ?_⟩)
          | fail)
         | fail)
        | (apply q_op rfl rfl rfl; (next => (first | (apply opv_load_box (T := TT) rfl; (next => (first | exact look_hd | fail)); (next => rfl); (next => rfl); (next => rfl); (next => rfl)) | fail)))
        | refine ar_seq ?_
        | (refine arE ?_; refine ar_endM [0, 2, 3, 4, 5, 6, 7, 8, 9, 10, 11, 12, 13, 14, 32, 33, 36, 45, 71, 81, 102] rfl ?_)
        | refine ar_region ?_
        | (refine arC (.cond _ _ _) ?_; first | (refine ar_cond_true rfl ?_ ?_; (next => (first | rfl))) | fail)
        | (refine arC .ret ?_; refine ar_retM [2] ?_)
        | refine stk_c_ret ?_
        | refine stk_b_ret ?_
        | refine stk_nil ?_
        | (refine arC (.region _ _ true) ?_; refine ar_nop (ar_draw mixed (by kernel_rfl) rfl ?_))
        | (refine q_nil ?_; refine ar_endM [0, 2, 3, 4, 5, 6, 7, 8, 9, 10, 11, 12, 13, 14, 32, 33, 36, 45, 71, 81, 102] rfl ?_)
        | fail)
      first | exact qret_mk rfl (.inl ⟨he.trans hx, rfl⟩) | (trace_state; exact qret_mk rfl (.inl ⟨he.trans hx, rfl⟩))
    · have hx : litE (c.toNat / 4) most (r) o = some ((r).drop (c.toNat / 4 + 1), o ++ (r).take (c.toNat / 4 + 1)) := by unfold litE; rw [if_neg (by omega)]
      repeat (first
        | ((first | apply ar_un | apply stk_un); (next => (first | (simp only [go_sem, Nat.reduceBEq, Nat.reduceEqDiff, reduceIte, reduceCtorEq, String.reduceEq, Nat.reduceAdd, Int.reduceToNat]; exact rfl))))
        | ((first | apply ar_op' rfl rfl rfl rfl | apply q_op rfl rfl rfl); (next => (first
         | (refine evalE_ok (T := TT) rfl ?_; (first | exact trivial | omega | (simp [NFL] <;> omega)))
         | (apply opk ⟨_, .binOp .gtr _ _ _ _, _, _, _, _⟩; first | (refine opv_cmp_f rfl rfl rfl ?_; (next => (first | (simp only [cmpP]; simp [NFL] <;> omega)))) | fail)
         | (apply opk ⟨_, .call { callee := .builtin .len, args := _, argTypes := _ }, _, _, _, _⟩; first | exact opv_len_sl (T := TT) rfl rfl rfl | fail)
         | (apply opk ⟨_, .fieldAddr _ _ _, _, _, _, _⟩; first | exact opv_field_box (T := TT) rfl rfl rfl rfl rfl | fail)
         | (apply opk ⟨_, .pick _ _ _, _, _, _, _⟩; first | (refine opv_pickf rfl ?_ rfl; (next => (first | rfl))) | fail)
         | fail)))
        | (refine arO _ ?_; first
         | (refine arO ⟨_, .load _ _, _, _, _, _⟩ ?_; first | refine ar_load_own (T := TT) rfl rfl rfl rfl look_hd rfl rfl rfl rfl ?_ | fail)
         | (refine arO ⟨_, .call { callee := .builtin .append, args := _, argTypes := _ }, _, _, _, _⟩ ?_; first
          | (apply ar_effM rfl rfl; (next => (first
           | (apply effTo_append (T := TT) rfl (own_c look_hd rfl) rfl rfl rfl rfl rfl rfl rfl rfl; (next => (first | exact trivial)); (next => (first | (simp [NFL] <;> omega))))
           | fail)))
          | fail)
         | (refine arO ⟨_, .store _ _ _, _, _, _, _⟩ ?_; first
          | (apply ar_effM rfl rfl; (next => (first | (apply effTo_store_own (T := TT) rfl rfl rfl; (next => (first | exact look_hd | fail)); (next => rfl); (next => rfl); (next => rfl)) | fail)))
          | fail)
         | (refine arO ⟨_, .call { callee := .value _, args := _, argTypes := _ }, _, _, _, _⟩ ?_; first
          | (apply ar_callMH rfl (take_some rb (r) o most (c.toNat / 4 + 1) (by omega) (by first | omega) hs) rfl rfl; (next => (repeat (first | exact PArgs.nil | (apply PArgs.cons; (next => (first | exact PArg.rd rfl (Le1.refl _) rfl)))))); (next => rfl); (next => rfl); (next => rfl); rintro _ _ ⟨rfl, rfl⟩; refine ⟨_, rfl, ?_⟩)
          | fail)
         | fail)
        | (apply q_op rfl rfl rfl; (next => (first | (apply opv_load_box (T := TT) rfl; (next => (first | exact look_hd | fail)); (next => rfl); (next => rfl); (next => rfl); (next => rfl)) | fail)))
        | refine ar_seq ?_
        | (refine arE ?_; refine ar_endM [0, 2, 3, 4, 5, 6, 7, 8, 9, 10, 11, 12, 13, 14, 32, 33, 36, 45, 71, 81, 102] rfl ?_)
        | refine ar_region ?_
        | refine ar_skip ?_
        | refine ar_dedup rfl ?_
        | (refine arC (.cond _ _ _) ?_; first | (refine ar_cond_false rfl ?_ ?_; (next => (first | rfl))) | fail)
        | (refine arC .ret ?_; refine ar_retM [2] ?_)
        | refine stk_c_ret ?_
        | refine stk_b_ret ?_
        | refine stk_nil ?_
        | (refine arC (.region _ _ true) ?_; refine ar_nop (ar_draw mixed (by kernel_rfl) rfl ?_))
        | (refine q_nil ?_; refine ar_endM [0, 2, 3, 4, 5, 6, 7, 8, 9, 10, 11, 12, 13, 14, 32, 33, 36, 45, 71, 81, 102] rfl ?_)
        | fail)
      first | exact qret_mk rfl (.inr ⟨_, _, he.trans hx, rfl, by rw [byteA_append]⟩) | (trace_state; exact qret_mk rfl (.inr ⟨_, _, he.trans hx, rfl, by rw [byteA_append]⟩))
set_option maxRecDepth 100000 in
theorem elem_long (rb : Nat) (c : UInt8) (r o : List UInt8) (most : Nat) (hm : most ≤ 20000) (ho : o.length ≤ most) (hr : r.length ≤ 140737488355328) (t0 : c.toNat % 4 = 0) (h60 : ¬ c.toNat / 4 < 60) :
    ACalls Try.prog 70 [.v (.pointer (some ⟨rb, 0, none⟩))] [(rb, [AV.v (.string (mkB (c :: r))), .sl true 1 (byteA (o)), .v (.int .i64 (most))])] (ElemP rb most (elemE c.toNat r o most)) := by
  have hc := c.toNat_lt
  obtain ⟨k, hk, hk4⟩ : ∃ k, c.toNat / 4 = k + 59 ∧ 1 ≤ k ∧ k ≤ 4 := ⟨c.toNat / 4 - 59, by omega, by omega⟩
  have hkk : c.toNat / 4 - 59 = k := by omega
  refine acalls_enter _ 132 [.tmp 2] Try.func70 (by kernel_rfl) rfl rfl rfl rfl ?_
  dsimp only [slotsOf]
  repeat (first
    | ((first | apply ar_un); (next => (first | (simp only [go_sem, Nat.reduceBEq, Nat.reduceEqDiff, reduceIte, reduceCtorEq, String.reduceEq, Nat.reduceAdd, Int.reduceToNat]; exact rfl))))
    | ((first | apply ar_op' rfl rfl rfl rfl); (next => (first
     | (refine evalE_ok (T := TT) rfl ?_; (first | exact trivial | omega | (simp [NFL] <;> omega)))
     | (apply opk ⟨_, .binOp .and _ _ _ _, _, _, _, _⟩; first
      | (refine opv_and_mod 2 4 rfl rfl rfl ?_ ?_ ?_ ?_ ?_; (next => (first | exact .inl rfl)); (next => (decide)); (next => (decide)); (next => (decide)); (next => (first | omega)))
      | fail)
     | (apply opk ⟨_, .binOp .eql _ _ _ _, _, _, _, _⟩; first | (refine opv_cmp_t rfl rfl rfl ?_; (next => (first | (simp only [cmpP]; omega)))) | fail)
     | (apply opk ⟨_, .binOp .geq _ _ _ _, _, _, _, _⟩; first | (refine opv_cmp_t rfl rfl rfl ?_; (next => (first | (simp only [cmpP]; omega)))) | fail)
     | (apply opk ⟨_, .convert _ _ _, _, _, _, _⟩; first | (refine opv_conv_byte (T := TT) rfl rfl rfl ?_; (next => (first | exact .inl rfl))) | fail)
     | (apply opk ⟨_, .fieldAddr _ _ _, _, _, _, _⟩; first | exact opv_field_box (T := TT) rfl rfl rfl rfl rfl | fail)
     | fail)))
    | (refine arO _ ?_; first
     | (refine arO ⟨_, .load _ _, _, _, _, _⟩ ?_; first | refine ar_load_own (T := TT) rfl rfl rfl rfl look_hd rfl rfl rfl rfl ?_ | fail)
     | (refine arO ⟨_, .store _ _ _, _, _, _, _⟩ ?_; first
      | (apply ar_effM rfl rfl; (next => (first
       | (apply effTo_store (T := TT) rfl; (next => (first | exact look_hd | fail)); (next => rfl); (next => rfl); (next => rfl); (next => rfl); (next => rfl); (next => rfl); (next => rfl); (next => rfl))
       | fail)))
      | fail)
     | fail)
    | refine ar_seq ?_
    | (refine arE ?_; refine ar_endM [0, 2, 3, 4, 5, 6, 7, 8, 9, 10, 11, 12, 13, 14, 32, 33, 36, 45, 71, 81, 102] rfl ?_)
    | refine ar_region ?_
    | refine ar_block ?_
    | refine ar_dedup rfl ?_
    | (refine arC (.cond _ _ _) ?_; first | (refine ar_cond_true rfl ?_ ?_; (next => (first | rfl))) | fail)
    | fail)
  by_cases hs0 : r.length < k
  · have he : elemE c.toNat r o most = none := by unfold elemE; rw [if_pos t0, if_neg h60, hkk, if_pos hs0]
    repeat (first
      | ((first | apply ar_un | apply stk_un); (next => (first | (simp only [go_sem, Nat.reduceBEq, Nat.reduceEqDiff, reduceIte, reduceCtorEq, String.reduceEq, Nat.reduceAdd, Int.reduceToNat]; exact rfl))))
      | ((first | apply ar_op' rfl rfl rfl rfl); (next => (first | (refine evalE_ok (T := TT) rfl ?_; (first | exact trivial)) | fail)))
      | (refine arO _ ?_; first
       | (refine arO ⟨_, .call { callee := .value _, args := _, argTypes := _ }, _, _, _, _⟩ ?_; first
        | (apply ar_callMH rfl (take_few rb r o most k (by omega) (by omega) hs0) rfl rfl; (next => (repeat (first
         | exact PArgs.nil
         | (apply PArgs.cons; (next => (first | exact PArg.rd rfl (Le1.refl _) rfl | (refine PArg.rd rfl (Le1.of_eq ?_) rfl; congr 2 <;> (first | omega)))))))); (next => rfl); (next => rfl); (next => rfl); rintro _ _ ⟨rfl, rfl⟩; refine ⟨_, rfl, ?_⟩)
        | fail)
       | fail)
      | refine ar_seq ?_
      | (refine arE ?_; refine ar_endM [0, 2, 3, 4, 5, 6, 7, 8, 9, 10, 11, 12, 13, 14, 32, 33, 36, 45, 71, 81, 102] rfl ?_)
      | refine ar_region ?_
      | (refine arC (.cond _ _ _) ?_; first | (refine ar_cond_true rfl ?_ ?_; (next => (first | rfl))) | fail)
      | (refine arC .ret ?_; refine ar_retM [2] ?_)
      | refine stk_c_ret ?_
      | refine stk_b_ret ?_
      | refine stk_nil ?_
      | fail)
    first | exact qret_mk rfl (.inl ⟨he, rfl⟩) | (trace_state; exact qret_mk rfl (.inl ⟨he, rfl⟩))
  · have he : elemE c.toNat r o most = litE (leN (r.take k)) most (r.drop k) o := by unfold elemE; rw [if_pos t0, if_neg h60, hkk, if_neg hs0]
    have htl : (r.take k).length = k := by rw [List.length_take]; omega
    have hln := leN_lt (r.take k)
    have hpw : 256 ^ (r.take k).length ≤ 4294967296 := by rw [htl]; exact Nat.le_trans (Nat.pow_le_pow_right (by decide) hk4.2) (by decide)
    repeat (first
      | ((first | apply ar_un); (next => (first | (simp only [go_sem, Nat.reduceBEq, Nat.reduceEqDiff, reduceIte, reduceCtorEq, String.reduceEq, Nat.reduceAdd, Int.reduceToNat]; exact rfl))))
      | ((first | apply ar_op' rfl rfl rfl rfl); (next => (first | (refine evalE_ok (T := TT) rfl ?_; (first | exact trivial)) | fail)))
      | (refine arO _ ?_; first
       | (refine arO ⟨_, .call { callee := .value _, args := _, argTypes := _ }, _, _, _, _⟩ ?_; first
        | (apply ar_callMH rfl (take_some rb r o most k (by omega) (by omega) hs0) rfl rfl; (next => (repeat (first
         | exact PArgs.nil
         | (apply PArgs.cons; (next => (first | exact PArg.rd rfl (Le1.refl _) rfl | (refine PArg.rd rfl (Le1.of_eq ?_) rfl; congr 2 <;> (first | omega)))))))); (next => rfl); (next => rfl); (next => rfl); rintro _ _ ⟨rfl, rfl⟩; refine ⟨_, rfl, ?_⟩)
        | fail)
       | fail)
      | refine ar_seq ?_
      | (refine arE ?_; refine ar_endM [0, 2, 3, 4, 5, 6, 7, 8, 9, 10, 11, 12, 13, 14, 32, 33, 36, 45, 71, 81, 102] rfl ?_)
      | refine ar_region ?_
      | refine ar_skip ?_
      | (refine arC (.cond _ _ _) ?_; first | (refine ar_cond_false rfl ?_ ?_; (next => (first | rfl))) | fail)
      | fail)
    obtain ⟨m, hm0⟩ : ∃ m, m = leN (r.take k) := ⟨_, rfl⟩
    have hml : m ≤ 4294967296 := by omega
    rw [← hm0] at he
    clear hln hpw
    repeat (first
      | ((first | apply ar_un); (next => (first | (simp only [go_sem, Nat.reduceBEq, Nat.reduceEqDiff, reduceIte, reduceCtorEq, String.reduceEq, Nat.reduceAdd, Int.reduceToNat]; exact rfl))))
      | ((first | apply ar_op' rfl rfl rfl rfl); (next => (first | (refine evalE_ok (T := TT) rfl ?_; (first | exact trivial | omega)) | fail)))
      | (refine arO _ ?_; first
       | (refine arO ⟨_, .call { callee := .value _, args := _, argTypes := _ }, _, _, _, _⟩ ?_; first
        | (apply ar_callM0 rfl (ACalls.mono (little_a (r.take k) (by omega)) (post' := fun out H => out = .ret (.v (.int .i64 m)) ∧ H = []) (fun _ _ h => ⟨hm0 ▸ h.1, h.2⟩)) rfl rfl; (next => (repeat (first | exact PArgs.nil | (apply PArgs.cons; (next => (first | exact PArg.rd rfl (Le1.refl _) rfl)))))); (next => rfl); (next => rfl); rintro _ _ ⟨rfl, rfl⟩; refine ⟨_, rfl, ?_⟩)
        | fail)
       | fail)
      | refine ar_seq ?_
      | (refine arE ?_; refine ar_endM [0, 2, 3, 4, 5, 6, 7, 8, 9, 10, 11, 12, 13, 14, 32, 33, 36, 45, 71, 81, 102] rfl ?_)
      | refine ar_region ?_
      | fail)
    by_cases hs : (r.drop k).length < m + 1
    · have hx : litE (m) most (r.drop k) o = none := by unfold litE; rw [if_pos (.inl hs)]
      repeat (first
        | ((first | apply ar_un | apply stk_un); (next => (first | (simp only [go_sem, Nat.reduceBEq, Nat.reduceEqDiff, reduceIte, reduceCtorEq, String.reduceEq, Nat.reduceAdd, Int.reduceToNat]; exact rfl))))
        | ((first | apply ar_op' rfl rfl rfl rfl | apply q_op rfl rfl rfl); (next => (first
         | (refine evalE_ok (T := TT) rfl ?_; (first | exact trivial))
         | (apply opk ⟨_, .pick _ _ _, _, _, _, _⟩; first | (refine opv_pickt rfl ?_ rfl; (next => (first | rfl))) | fail)
         | fail)))
        | (refine arO _ ?_; first
         | (refine arO ⟨_, .call { callee := .value _, args := _, argTypes := _ }, _, _, _, _⟩ ?_; first
          | (apply ar_callMH rfl (take_few rb (r.drop k) o most (m + 1) (by omega) (by first | omega) hs) rfl rfl; (next => (repeat (first | exact PArgs.nil | (apply PArgs.cons; (next => (first | exact PArg.rd rfl (Le1.refl _) rfl)))))); (next => rfl); (next => rfl); (next => rfl); rintro _ _ ⟨rfl, rfl⟩; refine ⟨_, rfl, ?_⟩)
          | fail)
         | fail)
        | refine ar_seq ?_
        | (refine arE ?_; refine ar_endM [0, 2, 3, 4, 5, 6, 7, 8, 9, 10, 11, 12, 13, 14, 32, 33, 36, 45, 71, 81, 102] rfl ?_)
        | refine ar_region ?_
        | (refine arC (.cond _ _ _) ?_; first | (refine ar_cond_true rfl ?_ ?_; (next => (first | rfl))) | fail)
        | (refine arC .ret ?_; refine ar_retM [2] ?_)
        | refine stk_c_ret ?_
        | refine stk_b_ret ?_
        | refine stk_nil ?_
        | (refine arC (.region _ _ true) ?_; refine ar_nop (ar_draw mixed (by kernel_rfl) rfl ?_))
        | refine q_unwanted rfl rfl rfl ?_
        | (refine q_nil ?_; refine ar_endM [0, 2, 3, 4, 5, 6, 7, 8, 9, 10, 11, 12, 13, 14, 32, 33, 36, 45, 71, 81, 102] rfl ?_)
        | fail)
      first | exact qret_mk rfl (.inl ⟨he.trans hx, rfl⟩) | (trace_state; exact qret_mk rfl (.inl ⟨he.trans hx, rfl⟩))
    · by_cases hw : most < o.length + (m + 1)
      · have hx : litE (m) most (r.drop k) o = none := by unfold litE; rw [if_pos (.inr hw)]
        repeat (first
          | ((first | apply ar_un | apply stk_un); (next => (first | (simp only [go_sem, Nat.reduceBEq, Nat.reduceEqDiff, reduceIte, reduceCtorEq, String.reduceEq, Nat.reduceAdd, Int.reduceToNat]; exact rfl))))
          | ((first | apply ar_op' rfl rfl rfl rfl | apply q_op rfl rfl rfl); (next => (first
           | (refine evalE_ok (T := TT) rfl ?_; (first | exact trivial | omega | (simp [NFL] <;> omega)))
           | (apply opk ⟨_, .binOp .gtr _ _ _ _, _, _, _, _⟩; first | (refine opv_cmp_t rfl rfl rfl ?_; (next => (first | (simp only [cmpP]; simp [NFL] <;> omega)))) | fail)
           | (apply opk ⟨_, .call { callee := .builtin .len, args := _, argTypes := _ }, _, _, _, _⟩; first | exact opv_len_sl (T := TT) rfl rfl rfl | fail)
           | (apply opk ⟨_, .fieldAddr _ _ _, _, _, _, _⟩; first | exact opv_field_box (T := TT) rfl rfl rfl rfl rfl | fail)
           | (apply opk ⟨_, .pick _ _ _, _, _, _, _⟩; first | (refine opv_pickf rfl ?_ rfl; (next => (first | rfl))) | fail)
           | fail)))
          | (refine arO _ ?_; first
           | (refine arO ⟨_, .call { callee := .value _, args := _, argTypes := _ }, _, _, _, _⟩ ?_; first
            | (apply ar_callMH rfl (take_some rb (r.drop k) o most (m + 1) (by omega) (by first | (rw [List.length_drop]; omega)) hs) rfl rfl; (next => (repeat (first | exact PArgs.nil | (apply PArgs.cons; (next => (first | exact PArg.rd rfl (Le1.refl _) rfl)))))); (next => rfl); (next => rfl); (next => rfl); rintro _ _ ⟨rfl, rfl⟩; refine ⟨_, rfl, ?_⟩)
            | fail)
           | fail)
          | (apply q_op rfl rfl rfl; (next => (first | (apply opv_load_box (T := TT) rfl; (next => (first | exact look_hd | fail)); (next => rfl); (next => rfl); (next => rfl); (next => rfl)) | fail)))
          | refine ar_seq ?_
          | (refine arE ?_; refine ar_endM [0, 2, 3, 4, 5, 6, 7, 8, 9, 10, 11, 12, 13, 14, 32, 33, 36, 45, 71, 81, 102] rfl ?_)
          | refine ar_region ?_
          | (refine arC (.cond _ _ _) ?_; first | (refine ar_cond_true rfl ?_ ?_; (next => (first | rfl))) | fail)
          | (refine arC .ret ?_; refine ar_retM [2] ?_)
          | refine stk_c_ret ?_
          | refine stk_b_ret ?_
          | refine stk_nil ?_
          | (refine arC (.region _ _ true) ?_; refine ar_nop (ar_draw mixed (by kernel_rfl) rfl ?_))
          | (refine q_nil ?_; refine ar_endM [0, 2, 3, 4, 5, 6, 7, 8, 9, 10, 11, 12, 13, 14, 32, 33, 36, 45, 71, 81, 102] rfl ?_)
          | fail)
        first | exact qret_mk rfl (.inl ⟨he.trans hx, rfl⟩) | (trace_state; exact qret_mk rfl (.inl ⟨he.trans hx, rfl⟩))
      · have hx : litE (m) most (r.drop k) o = some ((r.drop k).drop (m + 1), o ++ (r.drop k).take (m + 1)) := by unfold litE; rw [if_neg (by omega)]
        repeat (first
          | ((first | apply ar_un | apply stk_un); (next => (first | (simp only [go_sem, Nat.reduceBEq, Nat.reduceEqDiff, reduceIte, reduceCtorEq, String.reduceEq, Nat.reduceAdd, Int.reduceToNat]; exact rfl))))
          | ((first | apply ar_op' rfl rfl rfl rfl | apply q_op rfl rfl rfl); (next => (first
           | (refine evalE_ok (T := TT) rfl ?_; (first | exact trivial | omega | (simp [NFL] <;> omega)))
           | (apply opk ⟨_, .binOp .gtr _ _ _ _, _, _, _, _⟩; first | (refine opv_cmp_f rfl rfl rfl ?_; (next => (first | (simp only [cmpP]; simp [NFL] <;> omega)))) | fail)
           | (apply opk ⟨_, .call { callee := .builtin .len, args := _, argTypes := _ }, _, _, _, _⟩; first | exact opv_len_sl (T := TT) rfl rfl rfl | fail)
           | (apply opk ⟨_, .fieldAddr _ _ _, _, _, _, _⟩; first | exact opv_field_box (T := TT) rfl rfl rfl rfl rfl | fail)
           | (apply opk ⟨_, .pick _ _ _, _, _, _, _⟩; first | (refine opv_pickf rfl ?_ rfl; (next => (first | rfl))) | fail)
           | fail)))
          | (refine arO _ ?_; first
           | (refine arO ⟨_, .load _ _, _, _, _, _⟩ ?_; first | refine ar_load_own (T := TT) rfl rfl rfl rfl look_hd rfl rfl rfl rfl ?_ | fail)
           | (refine arO ⟨_, .call { callee := .builtin .append, args := _, argTypes := _ }, _, _, _, _⟩ ?_; first
            | (apply ar_effM rfl rfl; (next => (first
             | (apply effTo_append (T := TT) rfl (own_c look_hd rfl) rfl rfl rfl rfl rfl rfl rfl rfl; (next => (first | exact trivial)); (next => (first | (simp [NFL] <;> omega))))
             | fail)))
            | fail)
           | (refine arO ⟨_, .store _ _ _, _, _, _, _⟩ ?_; first
            | (apply ar_effM rfl rfl; (next => (first | (apply effTo_store_own (T := TT) rfl rfl rfl; (next => (first | exact look_hd | fail)); (next => rfl); (next => rfl); (next => rfl)) | fail)))
            | fail)
           | (refine arO ⟨_, .call { callee := .value _, args := _, argTypes := _ }, _, _, _, _⟩ ?_; first
            | (apply ar_callMH rfl (take_some rb (r.drop k) o most (m + 1) (by omega) (by first | (rw [List.length_drop]; omega)) hs) rfl rfl; (next => (repeat (first | exact PArgs.nil | (apply PArgs.cons; (next => (first | exact PArg.rd rfl (Le1.refl _) rfl)))))); (next => rfl); (next => rfl); (next => rfl); rintro _ _ ⟨rfl, rfl⟩; refine ⟨_, rfl, ?_⟩)
            | fail)
           | fail)
          | (apply q_op rfl rfl rfl; (next => (first | (apply opv_load_box (T := TT) rfl; (next => (first | exact look_hd | fail)); (next => rfl); (next => rfl); (next => rfl); (next => rfl)) | fail)))
          | refine ar_seq ?_
          | (refine arE ?_; refine ar_endM [0, 2, 3, 4, 5, 6, 7, 8, 9, 10, 11, 12, 13, 14, 32, 33, 36, 45, 71, 81, 102] rfl ?_)
          | refine ar_region ?_
          | refine ar_skip ?_
          | refine ar_dedup rfl ?_
          | (refine arC (.cond _ _ _) ?_; first | (refine ar_cond_false rfl ?_ ?_; (next => (first | rfl))) | fail)
          | (refine arC .ret ?_; refine ar_retM [2] ?_)
          | refine stk_c_ret ?_
          | refine stk_b_ret ?_
          | refine stk_nil ?_
          | (refine arC (.region _ _ true) ?_; refine ar_nop (ar_draw mixed (by kernel_rfl) rfl ?_))
          | (refine q_nil ?_; refine ar_endM [0, 2, 3, 4, 5, 6, 7, 8, 9, 10, 11, 12, 13, 14, 32, 33, 36, 45, 71, 81, 102] rfl ?_)
          | fail)
        first | exact qret_mk rfl (.inr ⟨_, _, he.trans hx, rfl, by rw [byteA_append]⟩) | (trace_state; exact qret_mk rfl (.inr ⟨_, _, he.trans hx, rfl, by rw [byteA_append]⟩))
set_option maxRecDepth 100000 in
theorem elem_copy1 (rb : Nat) (c : UInt8) (r o : List UInt8) (most : Nat) (hm : most ≤ 20000) (ho : o.length ≤ most) (hr : r.length ≤ 140737488355328) (t1 : c.toNat % 4 = 1) :
    ACalls Try.prog 70 [.v (.pointer (some ⟨rb, 0, none⟩))] [(rb, [AV.v (.string (mkB (c :: r))), .sl true 1 (byteA (o)), .v (.int .i64 (most))])] (ElemP rb most (elemE c.toNat r o most)) := by
  have hc := c.toNat_lt
  refine acalls_enter _ 132 [.tmp 2] Try.func70 (by kernel_rfl) rfl rfl rfl rfl ?_
  dsimp only [slotsOf]
  repeat (first
    | ((first | apply ar_un); (next => (first | (simp only [go_sem, Nat.reduceBEq, Nat.reduceEqDiff, reduceIte, reduceCtorEq, String.reduceEq, Nat.reduceAdd, Int.reduceToNat]; exact rfl))))
    | ((first | apply ar_op' rfl rfl rfl rfl); (next => (first
     | (refine evalE_ok (T := TT) rfl ?_; (first | exact trivial | (simp [NFL] <;> omega)))
     | (apply opk ⟨_, .binOp .and _ _ _ _, _, _, _, _⟩; first
      | (refine opv_and_mod 2 4 rfl rfl rfl ?_ ?_ ?_ ?_ ?_; (next => (first | exact .inl rfl)); (next => (decide)); (next => (decide)); (next => (decide)); (next => (first | omega)))
      | fail)
     | (apply opk ⟨_, .binOp .eql _ _ _ _, _, _, _, _⟩; first
      | (refine opv_cmp_t rfl rfl rfl ?_; (next => (first | (simp only [cmpP]; omega))))
      | (refine opv_cmp_f rfl rfl rfl ?_; (next => (first | (simp only [cmpP]; omega))))
      | fail)
     | (apply opk ⟨_, .convert _ _ _, _, _, _, _⟩; first | (refine opv_conv_byte (T := TT) rfl rfl rfl ?_; (next => (first | exact .inl rfl))) | fail)
     | (apply opk ⟨_, .fieldAddr _ _ _, _, _, _, _⟩; first | exact opv_field_box (T := TT) rfl rfl rfl rfl rfl | fail)
     | fail)))
    | (refine arO _ ?_; first
     | (refine arO ⟨_, .load _ _, _, _, _, _⟩ ?_; first | refine ar_load_own (T := TT) rfl rfl rfl rfl look_hd rfl rfl rfl rfl ?_ | fail)
     | (refine arO ⟨_, .store _ _ _, _, _, _, _⟩ ?_; first
      | (apply ar_effM rfl rfl; (next => (first
       | (apply effTo_store (T := TT) rfl; (next => (first | exact look_hd | fail)); (next => rfl); (next => rfl); (next => rfl); (next => rfl); (next => rfl); (next => rfl); (next => rfl); (next => rfl))
       | fail)))
      | fail)
     | fail)
    | refine ar_seq ?_
    | (refine arE ?_; refine ar_endM [0, 2, 3, 4, 5, 6, 7, 8, 9, 10, 11, 12, 13, 14, 32, 33, 36, 45, 71, 81, 102] rfl ?_)
    | refine ar_region ?_
    | refine ar_block ?_
    | refine ar_dedup rfl ?_
    | (refine arC (.cond _ _ _) ?_; first | (refine ar_cond_true rfl ?_ ?_; (next => (first | rfl))) | (refine ar_cond_false rfl ?_ ?_; (next => (first | rfl))) | fail)
    | fail)
  by_cases hs0 : r.length < 1
  · have he : elemE c.toNat r o most = none := by unfold elemE; simp [t1, hs0]
    repeat (first
      | ((first | apply ar_un | apply stk_un); (next => (first | (simp only [go_sem, Nat.reduceBEq, Nat.reduceEqDiff, reduceIte, reduceCtorEq, String.reduceEq, Nat.reduceAdd, Int.reduceToNat]; exact rfl))))
      | ((first | apply ar_op' rfl rfl rfl rfl); (next => (first
       | (refine evalE_ok (T := TT) rfl ?_; (first | exact trivial))
       | (apply opk ⟨_, .pick _ _ _, _, _, _, _⟩; first | (refine opv_pickf rfl ?_ rfl; (next => (first | rfl))) | fail)
       | fail)))
      | (refine arO _ ?_; first
       | (refine arO ⟨_, .call { callee := .value _, args := _, argTypes := _ }, _, _, _, _⟩ ?_; first
        | (apply ar_callMH rfl (take_few rb r o most 1 (by omega) (by omega) hs0) rfl rfl; (next => (repeat (first | exact PArgs.nil | (apply PArgs.cons; (next => (first | exact PArg.rd rfl (Le1.refl _) rfl)))))); (next => rfl); (next => rfl); (next => rfl); rintro _ _ ⟨rfl, rfl⟩; refine ⟨_, rfl, ?_⟩)
        | fail)
       | fail)
      | refine ar_unwanted' rfl rfl rfl rfl ?_
      | refine ar_seq ?_
      | (refine arE ?_; refine ar_endM [0, 2, 3, 4, 5, 6, 7, 8, 9, 10, 11, 12, 13, 14, 32, 33, 36, 45, 71, 81, 102] rfl ?_)
      | refine ar_region ?_
      | (refine arC .ret ?_; refine ar_retM [2] ?_)
      | refine stk_c_ret ?_
      | refine stk_b_ret ?_
      | refine stk_nil ?_
      | fail)
    first | exact qret_mk rfl (.inl ⟨he, rfl⟩) | (trace_state; exact qret_mk rfl (.inl ⟨he, rfl⟩))
  · have he : elemE c.toNat r o most = copyE (c.toNat / 4 % 8 + 4) (c.toNat / 4 / 8 * 256 + leN (r.take 1)) most (r.drop 1) o := by unfold elemE; simp [t1, hs0]
    have htl : (r.take 1).length = 1 := by rw [List.length_take]; omega
    have hln := leN_lt (r.take 1)
    rw [htl] at hln
    have hdl : (r.drop 1).length ≤ 140737488355328 := by rw [List.length_drop]; omega
    obtain ⟨m, hm0⟩ : ∃ m, m = leN (r.take 1) := ⟨_, rfl⟩
    rw [← hm0] at he hln
    by_cases hb : (c.toNat / 4 / 8 * 256 + m) < 1 ∨ o.length < (c.toNat / 4 / 8 * 256 + m) ∨ most < o.length + (c.toNat / 4 % 8 + 4)
    · have hx : copyE (c.toNat / 4 % 8 + 4) (c.toNat / 4 / 8 * 256 + m) most (r.drop 1) o = none := by unfold copyE; rw [if_pos hb]
      repeat (first
        | ((first | apply ar_un | apply stk_un); (next => (first | (simp only [go_sem, Nat.reduceBEq, Nat.reduceEqDiff, reduceIte, reduceCtorEq, String.reduceEq, Nat.reduceAdd, Int.reduceToNat]; exact rfl))))
        | apply ar_op' rfl rfl rfl rfl; (next => exact opv_or_add 8 256 rfl rfl rfl (by decide) (by omega))
        | ((first | apply ar_op' rfl rfl rfl rfl); (next => (first
         | (refine evalE_ok (T := TT) rfl ?_; (first | exact trivial | omega))
         | (apply opk ⟨_, .binOp .and _ _ _ _, _, _, _, _⟩; first
          | (refine opv_and_mod 3 8 rfl rfl rfl ?_ ?_ ?_ ?_ ?_; (next => (first | exact .inl rfl)); (next => (decide)); (next => (decide)); (next => (decide)); (next => (first | omega)))
          | fail)
         | (apply opk ⟨_, .pick _ _ _, _, _, _, _⟩; first | (refine opv_pickt rfl ?_ rfl; (next => (first | rfl))) | fail)
         | fail)))
        | (refine arO _ ?_; first
         | (refine arO ⟨_, .call { callee := .value _, args := _, argTypes := _ }, _, _, _, _⟩ ?_; first
          | (apply ar_callMH rfl (take_some rb r o most 1 (by omega) (by omega) hs0) rfl rfl; (next => (repeat (first | exact PArgs.nil | (apply PArgs.cons; (next => (first | exact PArg.rd rfl (Le1.refl _) rfl)))))); (next => rfl); (next => rfl); (next => rfl); rintro _ _ ⟨rfl, rfl⟩; refine ⟨_, rfl, ?_⟩)
          | (apply ar_callM0 rfl (ACalls.mono (little_a (r.take 1) (by omega)) (post' := fun out H => out = .ret (.v (.int .i64 m)) ∧ H = []) (fun _ _ h => ⟨hm0 ▸ h.1, h.2⟩)) rfl rfl; (next => (repeat (first | exact PArgs.nil | (apply PArgs.cons; (next => (first | exact PArg.rd rfl (Le1.refl _) rfl)))))); (next => rfl); (next => rfl); rintro _ _ ⟨rfl, rfl⟩; refine ⟨_, rfl, ?_⟩)
          | (apply ar_callMH rfl (back_none rb (r.drop 1) o most (c.toNat / 4 % 8 + 4) (c.toNat / 4 / 8 * 256 + m) hm ho (by omega) (by omega) hb) rfl rfl; (next => (repeat (first | exact PArgs.nil | (apply PArgs.cons; (next => (first | exact PArg.rd rfl (Le1.refl _) rfl)))))); (next => rfl); (next => rfl); (next => rfl); rintro _ _ ⟨rfl, rfl⟩; refine ⟨_, rfl, ?_⟩)
          | fail)
         | fail)
        | refine ar_seq ?_
        | (refine arE ?_; refine ar_endM [0, 2, 3, 4, 5, 6, 7, 8, 9, 10, 11, 12, 13, 14, 32, 33, 36, 45, 71, 81, 102] rfl ?_)
        | refine ar_region ?_
        | (refine arC .ret ?_; refine ar_retM [2] ?_)
        | refine stk_c_ret ?_
        | refine stk_b_ret ?_
        | refine stk_nil ?_
        | fail)
      first | exact qret_mk rfl (.inl ⟨he.trans hx, rfl⟩) | (trace_state; exact qret_mk rfl (.inl ⟨he.trans hx, rfl⟩))
    · have hx : copyE (c.toNat / 4 % 8 + 4) (c.toNat / 4 / 8 * 256 + m) most (r.drop 1) o = some (r.drop 1, copyB (c.toNat / 4 / 8 * 256 + m) (c.toNat / 4 % 8 + 4) o) := by unfold copyE; rw [if_neg hb]
      repeat (first
        | ((first | apply ar_un | apply stk_un); (next => (first | (simp only [go_sem, Nat.reduceBEq, Nat.reduceEqDiff, reduceIte, reduceCtorEq, String.reduceEq, Nat.reduceAdd, Int.reduceToNat]; exact rfl))))
        | apply ar_op' rfl rfl rfl rfl; (next => exact opv_or_add 8 256 rfl rfl rfl (by decide) (by omega))
        | ((first | apply ar_op' rfl rfl rfl rfl); (next => (first
         | (refine evalE_ok (T := TT) rfl ?_; (first | exact trivial | omega))
         | (apply opk ⟨_, .binOp .and _ _ _ _, _, _, _, _⟩; first
          | (refine opv_and_mod 3 8 rfl rfl rfl ?_ ?_ ?_ ?_ ?_; (next => (first | exact .inl rfl)); (next => (decide)); (next => (decide)); (next => (decide)); (next => (first | omega)))
          | fail)
         | (apply opk ⟨_, .pick _ _ _, _, _, _, _⟩; first | (refine opv_pickt rfl ?_ rfl; (next => (first | rfl))) | fail)
         | fail)))
        | (refine arO _ ?_; first
         | (refine arO ⟨_, .call { callee := .value _, args := _, argTypes := _ }, _, _, _, _⟩ ?_; first
          | (apply ar_callMH rfl (take_some rb r o most 1 (by omega) (by omega) hs0) rfl rfl; (next => (repeat (first | exact PArgs.nil | (apply PArgs.cons; (next => (first | exact PArg.rd rfl (Le1.refl _) rfl)))))); (next => rfl); (next => rfl); (next => rfl); rintro _ _ ⟨rfl, rfl⟩; refine ⟨_, rfl, ?_⟩)
          | (apply ar_callM0 rfl (ACalls.mono (little_a (r.take 1) (by omega)) (post' := fun out H => out = .ret (.v (.int .i64 m)) ∧ H = []) (fun _ _ h => ⟨hm0 ▸ h.1, h.2⟩)) rfl rfl; (next => (repeat (first | exact PArgs.nil | (apply PArgs.cons; (next => (first | exact PArg.rd rfl (Le1.refl _) rfl)))))); (next => rfl); (next => rfl); rintro _ _ ⟨rfl, rfl⟩; refine ⟨_, rfl, ?_⟩)
          | (apply ar_callMH rfl (back_some rb (r.drop 1) o most (c.toNat / 4 % 8 + 4) (c.toNat / 4 / 8 * 256 + m) hm ho (by omega) (by omega) (by omega) (by omega) (by omega)) rfl rfl; (next => (repeat (first | exact PArgs.nil | (apply PArgs.cons; (next => (first | exact PArg.rd rfl (Le1.refl _) rfl)))))); (next => rfl); (next => rfl); (next => rfl); rintro _ _ ⟨rfl, rfl⟩; refine ⟨_, rfl, ?_⟩)
          | fail)
         | fail)
        | refine ar_seq ?_
        | (refine arE ?_; refine ar_endM [0, 2, 3, 4, 5, 6, 7, 8, 9, 10, 11, 12, 13, 14, 32, 33, 36, 45, 71, 81, 102] rfl ?_)
        | refine ar_region ?_
        | (refine arC .ret ?_; refine ar_retM [2] ?_)
        | refine stk_c_ret ?_
        | refine stk_b_ret ?_
        | refine stk_nil ?_
        | fail)
      first | exact qret_mk rfl (.inr ⟨_, _, he.trans hx, rfl, rfl⟩) | (trace_state; exact qret_mk rfl (.inr ⟨_, _, he.trans hx, rfl, rfl⟩))
set_option maxRecDepth 100000 in
theorem elem_copy2 (rb : Nat) (c : UInt8) (r o : List UInt8) (most : Nat) (hm : most ≤ 20000) (ho : o.length ≤ most) (hr : r.length ≤ 140737488355328) (t1 : c.toNat % 4 = 2) :
    ACalls Try.prog 70 [.v (.pointer (some ⟨rb, 0, none⟩))] [(rb, [AV.v (.string (mkB (c :: r))), .sl true 1 (byteA (o)), .v (.int .i64 (most))])] (ElemP rb most (elemE c.toNat r o most)) := by
  have hc := c.toNat_lt
  refine acalls_enter _ 132 [.tmp 2] Try.func70 (by kernel_rfl) rfl rfl rfl rfl ?_
  dsimp only [slotsOf]
  repeat (first
    | ((first | apply ar_un); (next => (first | (simp only [go_sem, Nat.reduceBEq, Nat.reduceEqDiff, reduceIte, reduceCtorEq, String.reduceEq, Nat.reduceAdd, Int.reduceToNat]; exact rfl))))
    | ((first | apply ar_op' rfl rfl rfl rfl); (next => (first
     | (refine evalE_ok (T := TT) rfl ?_; (first | exact trivial | (simp [NFL] <;> omega)))
     | (apply opk ⟨_, .binOp .and _ _ _ _, _, _, _, _⟩; first
      | (refine opv_and_mod 2 4 rfl rfl rfl ?_ ?_ ?_ ?_ ?_; (next => (first | exact .inl rfl)); (next => (decide)); (next => (decide)); (next => (decide)); (next => (first | omega)))
      | fail)
     | (apply opk ⟨_, .binOp .eql _ _ _ _, _, _, _, _⟩; first
      | (refine opv_cmp_t rfl rfl rfl ?_; (next => (first | (simp only [cmpP]; omega))))
      | (refine opv_cmp_f rfl rfl rfl ?_; (next => (first | (simp only [cmpP]; omega))))
      | fail)
     | (apply opk ⟨_, .convert _ _ _, _, _, _, _⟩; first | (refine opv_conv_byte (T := TT) rfl rfl rfl ?_; (next => (first | exact .inl rfl))) | fail)
     | (apply opk ⟨_, .fieldAddr _ _ _, _, _, _, _⟩; first | exact opv_field_box (T := TT) rfl rfl rfl rfl rfl | fail)
     | fail)))
    | (refine arO _ ?_; first
     | (refine arO ⟨_, .load _ _, _, _, _, _⟩ ?_; first | refine ar_load_own (T := TT) rfl rfl rfl rfl look_hd rfl rfl rfl rfl ?_ | fail)
     | (refine arO ⟨_, .store _ _ _, _, _, _, _⟩ ?_; first
      | (apply ar_effM rfl rfl; (next => (first
       | (apply effTo_store (T := TT) rfl; (next => (first | exact look_hd | fail)); (next => rfl); (next => rfl); (next => rfl); (next => rfl); (next => rfl); (next => rfl); (next => rfl); (next => rfl))
       | fail)))
      | fail)
     | fail)
    | refine ar_seq ?_
    | (refine arE ?_; refine ar_endM [0, 2, 3, 4, 5, 6, 7, 8, 9, 10, 11, 12, 13, 14, 32, 33, 36, 45, 71, 81, 102] rfl ?_)
    | refine ar_region ?_
    | refine ar_block ?_
    | refine ar_dedup rfl ?_
    | (refine arC (.cond _ _ _) ?_; first | (refine ar_cond_true rfl ?_ ?_; (next => (first | rfl))) | (refine ar_cond_false rfl ?_ ?_; (next => (first | rfl))) | fail)
    | fail)
  by_cases hs0 : r.length < 2
  · have he : elemE c.toNat r o most = none := by unfold elemE; simp [t1, hs0]
    repeat (first
      | ((first | apply ar_un | apply stk_un); (next => (first | (simp only [go_sem, Nat.reduceBEq, Nat.reduceEqDiff, reduceIte, reduceCtorEq, String.reduceEq, Nat.reduceAdd, Int.reduceToNat]; exact rfl))))
      | ((first | apply ar_op' rfl rfl rfl rfl); (next => (first
       | (refine evalE_ok (T := TT) rfl ?_; (first | exact trivial))
       | (apply opk ⟨_, .pick _ _ _, _, _, _, _⟩; first | (refine opv_pickf rfl ?_ rfl; (next => (first | rfl))) | fail)
       | fail)))
      | (refine arO _ ?_; first
       | (refine arO ⟨_, .call { callee := .value _, args := _, argTypes := _ }, _, _, _, _⟩ ?_; first
        | (apply ar_callMH rfl (take_few rb r o most 2 (by omega) (by omega) hs0) rfl rfl; (next => (repeat (first | exact PArgs.nil | (apply PArgs.cons; (next => (first | exact PArg.rd rfl (Le1.refl _) rfl)))))); (next => rfl); (next => rfl); (next => rfl); rintro _ _ ⟨rfl, rfl⟩; refine ⟨_, rfl, ?_⟩)
        | fail)
       | fail)
      | refine ar_unwanted' rfl rfl rfl rfl ?_
      | refine ar_seq ?_
      | (refine arE ?_; refine ar_endM [0, 2, 3, 4, 5, 6, 7, 8, 9, 10, 11, 12, 13, 14, 32, 33, 36, 45, 71, 81, 102] rfl ?_)
      | refine ar_region ?_
      | (refine arC .ret ?_; refine ar_retM [2] ?_)
      | refine stk_c_ret ?_
      | refine stk_b_ret ?_
      | refine stk_nil ?_
      | fail)
    first | exact qret_mk rfl (.inl ⟨he, rfl⟩) | (trace_state; exact qret_mk rfl (.inl ⟨he, rfl⟩))
  · have he : elemE c.toNat r o most = copyE (c.toNat / 4 + 1) (leN (r.take 2)) most (r.drop 2) o := by unfold elemE; simp [t1, hs0]
    have htl : (r.take 2).length = 2 := by rw [List.length_take]; omega
    have hln := leN_lt (r.take 2)
    rw [htl] at hln
    have hdl : (r.drop 2).length ≤ 140737488355328 := by rw [List.length_drop]; omega
    obtain ⟨m, hm0⟩ : ∃ m, m = leN (r.take 2) := ⟨_, rfl⟩
    rw [← hm0] at he hln
    by_cases hb : (m) < 1 ∨ o.length < (m) ∨ most < o.length + (c.toNat / 4 + 1)
    · have hx : copyE (c.toNat / 4 + 1) (m) most (r.drop 2) o = none := by unfold copyE; rw [if_pos hb]
      repeat (first
        | ((first | apply ar_un | apply stk_un); (next => (first | (simp only [go_sem, Nat.reduceBEq, Nat.reduceEqDiff, reduceIte, reduceCtorEq, String.reduceEq, Nat.reduceAdd, Int.reduceToNat]; exact rfl))))
        | ((first | apply ar_op' rfl rfl rfl rfl); (next => (first
         | (refine evalE_ok (T := TT) rfl ?_; (first | exact trivial | omega))
         | (apply opk ⟨_, .pick _ _ _, _, _, _, _⟩; first | (refine opv_pickt rfl ?_ rfl; (next => (first | rfl))) | fail)
         | fail)))
        | (refine arO _ ?_; first
         | (refine arO ⟨_, .call { callee := .value _, args := _, argTypes := _ }, _, _, _, _⟩ ?_; first
          | (apply ar_callMH rfl (take_some rb r o most 2 (by omega) (by omega) hs0) rfl rfl; (next => (repeat (first | exact PArgs.nil | (apply PArgs.cons; (next => (first | exact PArg.rd rfl (Le1.refl _) rfl)))))); (next => rfl); (next => rfl); (next => rfl); rintro _ _ ⟨rfl, rfl⟩; refine ⟨_, rfl, ?_⟩)
          | (apply ar_callM0 rfl (ACalls.mono (little_a (r.take 2) (by omega)) (post' := fun out H => out = .ret (.v (.int .i64 m)) ∧ H = []) (fun _ _ h => ⟨hm0 ▸ h.1, h.2⟩)) rfl rfl; (next => (repeat (first | exact PArgs.nil | (apply PArgs.cons; (next => (first | exact PArg.rd rfl (Le1.refl _) rfl)))))); (next => rfl); (next => rfl); rintro _ _ ⟨rfl, rfl⟩; refine ⟨_, rfl, ?_⟩)
          | (apply ar_callMH rfl (back_none rb (r.drop 2) o most (c.toNat / 4 + 1) (m) hm ho (by omega) (by omega) hb) rfl rfl; (next => (repeat (first | exact PArgs.nil | (apply PArgs.cons; (next => (first | exact PArg.rd rfl (Le1.refl _) rfl)))))); (next => rfl); (next => rfl); (next => rfl); rintro _ _ ⟨rfl, rfl⟩; refine ⟨_, rfl, ?_⟩)
          | fail)
         | fail)
        | refine ar_seq ?_
        | (refine arE ?_; refine ar_endM [0, 2, 3, 4, 5, 6, 7, 8, 9, 10, 11, 12, 13, 14, 32, 33, 36, 45, 71, 81, 102] rfl ?_)
        | refine ar_region ?_
        | (refine arC .ret ?_; refine ar_retM [2] ?_)
        | refine stk_c_ret ?_
        | refine stk_b_ret ?_
        | refine stk_nil ?_
        | fail)
      first | exact qret_mk rfl (.inl ⟨he.trans hx, rfl⟩) | (trace_state; exact qret_mk rfl (.inl ⟨he.trans hx, rfl⟩))
    · have hx : copyE (c.toNat / 4 + 1) (m) most (r.drop 2) o = some (r.drop 2, copyB (m) (c.toNat / 4 + 1) o) := by unfold copyE; rw [if_neg hb]
      repeat (first
        | ((first | apply ar_un | apply stk_un); (next => (first | (simp only [go_sem, Nat.reduceBEq, Nat.reduceEqDiff, reduceIte, reduceCtorEq, String.reduceEq, Nat.reduceAdd, Int.reduceToNat]; exact rfl))))
        | ((first | apply ar_op' rfl rfl rfl rfl); (next => (first
         | (refine evalE_ok (T := TT) rfl ?_; (first | exact trivial | omega))
         | (apply opk ⟨_, .pick _ _ _, _, _, _, _⟩; first | (refine opv_pickt rfl ?_ rfl; (next => (first | rfl))) | fail)
         | fail)))
        | (refine arO _ ?_; first
         | (refine arO ⟨_, .call { callee := .value _, args := _, argTypes := _ }, _, _, _, _⟩ ?_; first
          | (apply ar_callMH rfl (take_some rb r o most 2 (by omega) (by omega) hs0) rfl rfl; (next => (repeat (first | exact PArgs.nil | (apply PArgs.cons; (next => (first | exact PArg.rd rfl (Le1.refl _) rfl)))))); (next => rfl); (next => rfl); (next => rfl); rintro _ _ ⟨rfl, rfl⟩; refine ⟨_, rfl, ?_⟩)
          | (apply ar_callM0 rfl (ACalls.mono (little_a (r.take 2) (by omega)) (post' := fun out H => out = .ret (.v (.int .i64 m)) ∧ H = []) (fun _ _ h => ⟨hm0 ▸ h.1, h.2⟩)) rfl rfl; (next => (repeat (first | exact PArgs.nil | (apply PArgs.cons; (next => (first | exact PArg.rd rfl (Le1.refl _) rfl)))))); (next => rfl); (next => rfl); rintro _ _ ⟨rfl, rfl⟩; refine ⟨_, rfl, ?_⟩)
          | (apply ar_callMH rfl (back_some rb (r.drop 2) o most (c.toNat / 4 + 1) (m) hm ho (by omega) (by omega) (by omega) (by omega) (by omega)) rfl rfl; (next => (repeat (first | exact PArgs.nil | (apply PArgs.cons; (next => (first | exact PArg.rd rfl (Le1.refl _) rfl)))))); (next => rfl); (next => rfl); (next => rfl); rintro _ _ ⟨rfl, rfl⟩; refine ⟨_, rfl, ?_⟩)
          | fail)
         | fail)
        | refine ar_seq ?_
        | (refine arE ?_; refine ar_endM [0, 2, 3, 4, 5, 6, 7, 8, 9, 10, 11, 12, 13, 14, 32, 33, 36, 45, 71, 81, 102] rfl ?_)
        | refine ar_region ?_
        | (refine arC .ret ?_; refine ar_retM [2] ?_)
        | refine stk_c_ret ?_
        | refine stk_b_ret ?_
        | refine stk_nil ?_
        | fail)
      first | exact qret_mk rfl (.inr ⟨_, _, he.trans hx, rfl, rfl⟩) | (trace_state; exact qret_mk rfl (.inr ⟨_, _, he.trans hx, rfl, rfl⟩))
set_option maxRecDepth 100000 in
theorem elem_copy3 (rb : Nat) (c : UInt8) (r o : List UInt8) (most : Nat) (hm : most ≤ 20000) (ho : o.length ≤ most) (hr : r.length ≤ 140737488355328) (t1 : ¬ c.toNat % 4 = 0) (t2 : ¬ c.toNat % 4 = 1) (t3 : ¬ c.toNat % 4 = 2) :
    ACalls Try.prog 70 [.v (.pointer (some ⟨rb, 0, none⟩))] [(rb, [AV.v (.string (mkB (c :: r))), .sl true 1 (byteA (o)), .v (.int .i64 (most))])] (ElemP rb most (elemE c.toNat r o most)) := by
  have hc := c.toNat_lt
  refine acalls_enter _ 132 [.tmp 2] Try.func70 (by kernel_rfl) rfl rfl rfl rfl ?_
  dsimp only [slotsOf]
  repeat (first
    | ((first | apply ar_un); (next => (first | (simp only [go_sem, Nat.reduceBEq, Nat.reduceEqDiff, reduceIte, reduceCtorEq, String.reduceEq, Nat.reduceAdd, Int.reduceToNat]; exact rfl))))
    | ((first | apply ar_op' rfl rfl rfl rfl); (next => (first
     | (refine evalE_ok (T := TT) rfl ?_; (first | exact trivial | (simp [NFL] <;> omega)))
     | (apply opk ⟨_, .binOp .and _ _ _ _, _, _, _, _⟩; first
      | (refine opv_and_mod 2 4 rfl rfl rfl ?_ ?_ ?_ ?_ ?_; (next => (first | exact .inl rfl)); (next => (decide)); (next => (decide)); (next => (decide)); (next => (first | omega)))
      | fail)
     | (apply opk ⟨_, .binOp .eql _ _ _ _, _, _, _, _⟩; first | (refine opv_cmp_f rfl rfl rfl ?_; (next => (first | (simp only [cmpP]; omega)))) | fail)
     | (apply opk ⟨_, .convert _ _ _, _, _, _, _⟩; first | (refine opv_conv_byte (T := TT) rfl rfl rfl ?_; (next => (first | exact .inl rfl))) | fail)
     | (apply opk ⟨_, .fieldAddr _ _ _, _, _, _, _⟩; first | exact opv_field_box (T := TT) rfl rfl rfl rfl rfl | fail)
     | fail)))
    | (refine arO _ ?_; first
     | (refine arO ⟨_, .load _ _, _, _, _, _⟩ ?_; first | refine ar_load_own (T := TT) rfl rfl rfl rfl look_hd rfl rfl rfl rfl ?_ | fail)
     | (refine arO ⟨_, .store _ _ _, _, _, _, _⟩ ?_; first
      | (apply ar_effM rfl rfl; (next => (first
       | (apply effTo_store (T := TT) rfl; (next => (first | exact look_hd | fail)); (next => rfl); (next => rfl); (next => rfl); (next => rfl); (next => rfl); (next => rfl); (next => rfl); (next => rfl))
       | fail)))
      | fail)
     | fail)
    | refine ar_seq ?_
    | (refine arE ?_; refine ar_endM [0, 2, 3, 4, 5, 6, 7, 8, 9, 10, 11, 12, 13, 14, 32, 33, 36, 45, 71, 81, 102] rfl ?_)
    | refine ar_region ?_
    | refine ar_block ?_
    | refine ar_skip ?_
    | refine ar_blk ?_
    | refine ar_dedup rfl ?_
    | (refine arC (.cond _ _ _) ?_; first | (refine ar_cond_false rfl ?_ ?_; (next => (first | rfl))) | fail)
    | fail)
  by_cases hs0 : r.length < 4
  · have he : elemE c.toNat r o most = none := by unfold elemE; simp [t1, t2, t3, hs0]
    repeat (first
      | ((first | apply ar_un | apply stk_un); (next => (first | (simp only [go_sem, Nat.reduceBEq, Nat.reduceEqDiff, reduceIte, reduceCtorEq, String.reduceEq, Nat.reduceAdd, Int.reduceToNat]; exact rfl))))
      | ((first | apply ar_op' rfl rfl rfl rfl); (next => (first
       | (refine evalE_ok (T := TT) rfl ?_; (first | exact trivial))
       | (apply opk ⟨_, .pick _ _ _, _, _, _, _⟩; first | (refine opv_pickf rfl ?_ rfl; (next => (first | rfl))) | fail)
       | fail)))
      | (refine arO _ ?_; first
       | (refine arO ⟨_, .call { callee := .value _, args := _, argTypes := _ }, _, _, _, _⟩ ?_; first
        | (apply ar_callMH rfl (take_few rb r o most 4 (by omega) (by omega) hs0) rfl rfl; (next => (repeat (first | exact PArgs.nil | (apply PArgs.cons; (next => (first | exact PArg.rd rfl (Le1.refl _) rfl)))))); (next => rfl); (next => rfl); (next => rfl); rintro _ _ ⟨rfl, rfl⟩; refine ⟨_, rfl, ?_⟩)
        | fail)
       | fail)
      | refine ar_unwanted' rfl rfl rfl rfl ?_
      | refine ar_seq ?_
      | (refine arE ?_; refine ar_endM [0, 2, 3, 4, 5, 6, 7, 8, 9, 10, 11, 12, 13, 14, 32, 33, 36, 45, 71, 81, 102] rfl ?_)
      | refine ar_region ?_
      | (refine arC .ret ?_; refine ar_retM [2] ?_)
      | refine stk_nil ?_
      | fail)
    first | exact qret_mk rfl (.inl ⟨he, rfl⟩) | (trace_state; exact qret_mk rfl (.inl ⟨he, rfl⟩))
  · have he : elemE c.toNat r o most = copyE (c.toNat / 4 + 1) (leN (r.take 4)) most (r.drop 4) o := by unfold elemE; simp [t1, t2, t3, hs0]
    have htl : (r.take 4).length = 4 := by rw [List.length_take]; omega
    have hln := leN_lt (r.take 4)
    rw [htl] at hln
    have hdl : (r.drop 4).length ≤ 140737488355328 := by rw [List.length_drop]; omega
    obtain ⟨m, hm0⟩ : ∃ m, m = leN (r.take 4) := ⟨_, rfl⟩
    rw [← hm0] at he hln
    by_cases hb : (m) < 1 ∨ o.length < (m) ∨ most < o.length + (c.toNat / 4 + 1)
    · have hx : copyE (c.toNat / 4 + 1) (m) most (r.drop 4) o = none := by unfold copyE; rw [if_pos hb]
      repeat (first
        | ((first | apply ar_un | apply stk_un); (next => (first | (simp only [go_sem, Nat.reduceBEq, Nat.reduceEqDiff, reduceIte, reduceCtorEq, String.reduceEq, Nat.reduceAdd, Int.reduceToNat]; exact rfl))))
        | ((first | apply ar_op' rfl rfl rfl rfl); (next => (first
         | (refine evalE_ok (T := TT) rfl ?_; (first | exact trivial | omega))
         | (apply opk ⟨_, .pick _ _ _, _, _, _, _⟩; first | (refine opv_pickt rfl ?_ rfl; (next => (first | rfl))) | fail)
         | fail)))
        | (refine arO _ ?_; first
         | (refine arO ⟨_, .call { callee := .value _, args := _, argTypes := _ }, _, _, _, _⟩ ?_; first
          | (apply ar_callMH rfl (take_some rb r o most 4 (by omega) (by omega) hs0) rfl rfl; (next => (repeat (first | exact PArgs.nil | (apply PArgs.cons; (next => (first | exact PArg.rd rfl (Le1.refl _) rfl)))))); (next => rfl); (next => rfl); (next => rfl); rintro _ _ ⟨rfl, rfl⟩; refine ⟨_, rfl, ?_⟩)
          | (apply ar_callM0 rfl (ACalls.mono (little_a (r.take 4) (by omega)) (post' := fun out H => out = .ret (.v (.int .i64 m)) ∧ H = []) (fun _ _ h => ⟨hm0 ▸ h.1, h.2⟩)) rfl rfl; (next => (repeat (first | exact PArgs.nil | (apply PArgs.cons; (next => (first | exact PArg.rd rfl (Le1.refl _) rfl)))))); (next => rfl); (next => rfl); rintro _ _ ⟨rfl, rfl⟩; refine ⟨_, rfl, ?_⟩)
          | (apply ar_callMH rfl (back_none rb (r.drop 4) o most (c.toNat / 4 + 1) (m) hm ho (by omega) (by omega) hb) rfl rfl; (next => (repeat (first | exact PArgs.nil | (apply PArgs.cons; (next => (first | exact PArg.rd rfl (Le1.refl _) rfl)))))); (next => rfl); (next => rfl); (next => rfl); rintro _ _ ⟨rfl, rfl⟩; refine ⟨_, rfl, ?_⟩)
          | fail)
         | fail)
        | refine ar_seq ?_
        | (refine arE ?_; refine ar_endM [0, 2, 3, 4, 5, 6, 7, 8, 9, 10, 11, 12, 13, 14, 32, 33, 36, 45, 71, 81, 102] rfl ?_)
        | refine ar_region ?_
        | (refine arC .ret ?_; refine ar_retM [2] ?_)
        | refine stk_nil ?_
        | fail)
      first | exact qret_mk rfl (.inl ⟨he.trans hx, rfl⟩) | (trace_state; exact qret_mk rfl (.inl ⟨he.trans hx, rfl⟩))
    · have hx : copyE (c.toNat / 4 + 1) (m) most (r.drop 4) o = some (r.drop 4, copyB (m) (c.toNat / 4 + 1) o) := by unfold copyE; rw [if_neg hb]
      repeat (first
        | ((first | apply ar_un | apply stk_un); (next => (first | (simp only [go_sem, Nat.reduceBEq, Nat.reduceEqDiff, reduceIte, reduceCtorEq, String.reduceEq, Nat.reduceAdd, Int.reduceToNat]; exact rfl))))
        | ((first | apply ar_op' rfl rfl rfl rfl); (next => (first
         | (refine evalE_ok (T := TT) rfl ?_; (first | exact trivial | omega))
         | (apply opk ⟨_, .pick _ _ _, _, _, _, _⟩; first | (refine opv_pickt rfl ?_ rfl; (next => (first | rfl))) | fail)
         | fail)))
        | (refine arO _ ?_; first
         | (refine arO ⟨_, .call { callee := .value _, args := _, argTypes := _ }, _, _, _, _⟩ ?_; first
          | (apply ar_callMH rfl (take_some rb r o most 4 (by omega) (by omega) hs0) rfl rfl; (next => (repeat (first | exact PArgs.nil | (apply PArgs.cons; (next => (first | exact PArg.rd rfl (Le1.refl _) rfl)))))); (next => rfl); (next => rfl); (next => rfl); rintro _ _ ⟨rfl, rfl⟩; refine ⟨_, rfl, ?_⟩)
          | (apply ar_callM0 rfl (ACalls.mono (little_a (r.take 4) (by omega)) (post' := fun out H => out = .ret (.v (.int .i64 m)) ∧ H = []) (fun _ _ h => ⟨hm0 ▸ h.1, h.2⟩)) rfl rfl; (next => (repeat (first | exact PArgs.nil | (apply PArgs.cons; (next => (first | exact PArg.rd rfl (Le1.refl _) rfl)))))); (next => rfl); (next => rfl); rintro _ _ ⟨rfl, rfl⟩; refine ⟨_, rfl, ?_⟩)
          | (apply ar_callMH rfl (back_some rb (r.drop 4) o most (c.toNat / 4 + 1) (m) hm ho (by omega) (by omega) (by omega) (by omega) (by omega)) rfl rfl; (next => (repeat (first | exact PArgs.nil | (apply PArgs.cons; (next => (first | exact PArg.rd rfl (Le1.refl _) rfl)))))); (next => rfl); (next => rfl); (next => rfl); rintro _ _ ⟨rfl, rfl⟩; refine ⟨_, rfl, ?_⟩)
          | fail)
         | fail)
        | refine ar_seq ?_
        | (refine arE ?_; refine ar_endM [0, 2, 3, 4, 5, 6, 7, 8, 9, 10, 11, 12, 13, 14, 32, 33, 36, 45, 71, 81, 102] rfl ?_)
        | refine ar_region ?_
        | (refine arC .ret ?_; refine ar_retM [2] ?_)
        | refine stk_nil ?_
        | fail)
      first | exact qret_mk rfl (.inr ⟨_, _, he.trans hx, rfl, rfl⟩) | (trace_state; exact qret_mk rfl (.inr ⟨_, _, he.trans hx, rfl, rfl⟩))
theorem elem_a (rb : Nat) (c : UInt8) (r o : List UInt8) (most : Nat) (hm : most ≤ 20000) (ho : o.length ≤ most) (hr : r.length ≤ 140737488355328) :
    ACalls Try.prog 70 [.v (.pointer (some ⟨rb, 0, none⟩))] [(rb, [AV.v (.string (mkB (c :: r))), .sl true 1 (byteA (o)), .v (.int .i64 (most))])] (ElemP rb most (elemE c.toNat r o most)) := by
  by_cases t0 : c.toNat % 4 = 0
  · by_cases h60 : c.toNat / 4 < 60
    · exact elem_short rb c r o most hm ho hr t0 h60
    · exact elem_long rb c r o most hm ho hr t0 h60
  · by_cases t1 : c.toNat % 4 = 1
    · exact elem_copy1 rb c r o most hm ho hr t1
    · by_cases t2 : c.toNat % 4 = 2
      · exact elem_copy2 rb c r o most hm ho hr t2
      · exact elem_copy3 rb c r o most hm ho hr t0 t1 t2
end Go.Proofs.Ytmoehipmpchofaa
