/- The reference's FieldsOf, walked over abstract values. -/
import Derived.Test.YtophpbihcfdkcaaRH
namespace Go.Proofs.Ytophpbihcfdkcaa
open Go.RowKit P
set_option linter.unusedSimpArgs false
set_option linter.unusedVariables false
attribute [local irreducible] AS.nf OpV ARun Stk QSem QSemA ACalls EffOp AppOk SrcOk Awp Aops
set_option maxHeartbeats 16000000

theorem fld_cases (s' : List UInt8) (key k n2 k2 e2 : Nat) (hrd : rd s' = (key, k, 0)) (hrd2 : rd (s'.drop k) = (n2, k2, e2)) :
    (fldAt s' = none ∧ ((key / 8 = 0) ∨ (¬ key / 8 = 0 ∧ 536870911 < key / 8) ∨ (¬ key / 8 = 0 ∧ ¬ 536870911 < key / 8 ∧ ((key % 8 = 0 ∧ ¬ e2 = 0) ∨ (key % 8 = 1 ∧ (s'.drop k).length < 8) ∨ (key % 8 = 2 ∧ ¬ e2 = 0) ∨ (key % 8 = 2 ∧ e2 = 0 ∧ ((s'.drop k).drop k2).length < n2) ∨ (key % 8 = 5 ∧ (s'.drop k).length < 4) ∨ (¬ key % 8 = 0 ∧ ¬ key % 8 = 1 ∧ ¬ key % 8 = 2 ∧ ¬ key % 8 = 5))))) ∨
      (¬ key / 8 = 0 ∧ ¬ 536870911 < key / 8 ∧ ((key % 8 = 0 ∧ e2 = 0 ∧ fldAt s' = some (⟨key / 8, 0, n2, []⟩, (s'.drop k).drop k2)) ∨ (key % 8 = 1 ∧ 8 ≤ (s'.drop k).length ∧ fldAt s' = some (⟨key / 8, 1, 0, (s'.drop k).take 8⟩, (s'.drop k).drop 8)) ∨
        (key % 8 = 2 ∧ e2 = 0 ∧ n2 ≤ ((s'.drop k).drop k2).length ∧ fldAt s' = some (⟨key / 8, 2, 0, ((s'.drop k).drop k2).take n2⟩, ((s'.drop k).drop k2).drop n2)) ∨ (key % 8 = 5 ∧ 4 ≤ (s'.drop k).length ∧ fldAt s' = some (⟨key / 8, 5, 0, (s'.drop k).take 4⟩, (s'.drop k).drop 4)))) := by
  unfold fldAt
  rw [hrd]
  simp only
  rw [hrd2]
  simp only
  rw [if_neg (by simp)]
  by_cases c0 : key / 8 = 0
  · exact .inl ⟨by rw [if_pos (.inl c0)], .inl c0⟩
  by_cases c1 : 536870911 < key / 8
  · exact .inl ⟨by rw [if_pos (.inr c1)], .inr (.inl ⟨c0, c1⟩)⟩
  rw [if_neg (by omega)]
  by_cases d0 : key % 8 = 0
  · rw [if_pos d0]
    by_cases x : e2 = 0
    · exact .inr ⟨c0, c1, .inl ⟨d0, x, by rw [if_neg (by omega)]⟩⟩
    · exact .inl ⟨by rw [if_pos (by omega)], .inr (.inr ⟨c0, c1, .inl ⟨d0, x⟩⟩)⟩
  rw [if_neg d0]
  by_cases d1 : key % 8 = 1
  · rw [if_pos d1]
    by_cases x : (s'.drop k).length < 8
    · exact .inl ⟨by rw [if_pos x], .inr (.inr ⟨c0, c1, .inr (.inl ⟨d1, x⟩)⟩)⟩
    · exact .inr ⟨c0, c1, .inr (.inl ⟨d1, by omega, by rw [if_neg x]⟩)⟩
  rw [if_neg d1]
  by_cases d2 : key % 8 = 2
  · rw [if_pos d2]
    by_cases x : e2 = 0
    · rw [if_neg (by omega)]
      by_cases z : ((s'.drop k).drop k2).length < n2
      · exact .inl ⟨by rw [if_pos z], .inr (.inr ⟨c0, c1, .inr (.inr (.inr (.inl ⟨d2, x, z⟩)))⟩)⟩
      · exact .inr ⟨c0, c1, .inr (.inr (.inl ⟨d2, x, by omega, by rw [if_neg z]⟩))⟩
    · exact .inl ⟨by rw [if_pos (by omega)], .inr (.inr ⟨c0, c1, .inr (.inr (.inl ⟨d2, x⟩))⟩)⟩
  rw [if_neg d2]
  by_cases d5 : key % 8 = 5
  · rw [if_pos d5]
    by_cases x : (s'.drop k).length < 4
    · exact .inl ⟨by rw [if_pos x], .inr (.inr ⟨c0, c1, .inr (.inr (.inr (.inr (.inl ⟨d5, x⟩))))⟩)⟩
    · exact .inr ⟨c0, c1, .inr (.inr (.inr ⟨d5, by omega, by rw [if_neg x]⟩))⟩
  rw [if_neg d5]
  exact .inl ⟨rfl, .inr (.inr ⟨c0, c1, .inr (.inr (.inr (.inr (.inr ⟨d0, d1, d2, d5⟩))))⟩)⟩

theorem strDrop (s : List UInt8) (i : Int) (a : Nat) (h : i = a) : AV.v (.string (mkB (((bsOf (mkB s)).take (((bsOf (mkB s)).length : Int)).toNat).drop i.toNat))) = .v (.string (mkB (s.drop a))) := by
  subst h; simp [NFL]
def fldRow (v : Fld) : List AV := [.v (.int .i64 v.num), .v (.int .i64 v.kind), .v (.int .u64 v.n), .v (.string (mkB v.bs))]
theorem row_eq (s : List UInt8) (key kd n : Nat) (i j : Int) (p m : Nat) (bs : List UInt8) (h0 : key % 8 = kd) (hi : i = p) (hj : j = p + m) (hb : bs = (s.drop p).take m) : [AV.v (.int .i64 ((key : Int) / 8)), .v (.int .i64 ((key : Int) % 8)), .v (.int .u64 n), .v (.string (mkB ((s.take j.toNat).drop i.toNat)))] = fldRow ⟨key / 8, kd, n, bs⟩ := by
  subst h0 hi hj hb
  have e1 : ((p : Int) + (m : Int)).toNat = p + m := by omega
  rw [e1, Int.toNat_natCast, List.drop_take, show p + m - p = m by omega]
  rfl
def fldsV (r : Option (List Fld)) : AV := match r with
  | some l => .tu [.sl false 4 (l.map fldRow), .v (.bool true)]
  | none => .tu [.v (.slice none 0 0), .v (.bool false)]
theorem flds_app_none {s : List UInt8} {l : List Fld} {r : Option (List Fld)} (h : (flds s).map (l ++ ·) = r) (hs : s ≠ []) (hf : fldAt s = none) : r = none := by rw [flds_none hs hf] at h; exact h.symm
theorem flds_app_some {s q : List UInt8} {l : List Fld} {v : Fld} {r : Option (List Fld)} (h : (flds s).map (l ++ ·) = r) (hf : fldAt s = some (v, q)) : (flds q).map ((l ++ [v]) ++ ·) = r := by
  rw [flds_some hf] at h
  rw [← h]
  cases flds q <;> simp

set_option maxRecDepth 100000 in
theorem fieldsOf_a (s : List UInt8) (hs : s.length ≤ 20000) : ACalls Try.prog 47 [.v (.string (mkB s))] [] (fun out H => out = .ret (fldsV (flds s)) ∧ H = []) := by
  refine acalls_enter _ 106 [.tmp 2, .tmp 3] Try.func47 (by kernel_rfl) rfl rfl rfl rfl ?_
  dsimp only [slotsOf]
  repeat (first | ((first | apply ar_un); (next => (first | (simp only [go_sem, Nat.reduceBEq, Nat.reduceEqDiff, reduceIte, reduceCtorEq, String.reduceEq, Nat.reduceAdd, Int.reduceToNat]; exact rfl)))) | (apply ar_op' rfl rfl rfl rfl; (next => (first | (refine evalE_ok (T := TT) rfl ?_; (first | exact trivial)) | fail))) | refine ar_seq ?_ | (refine arE ?_; refine ar_endM [0, 2, 3, 4, 5, 6, 7, 8, 9, 10, 11, 15, 38, 46, 47, 61, 63, 76, 88] rfl ?_) | refine ar_region ?_ | refine ar_block ?_ | fail)
  refine ar_loop (fun y : Nat × List Fld => ⟨106, [(0, .v (.string (mkB s))), (4, .sl true 4 (y.2.map fldRow)), (5, .v (.int .i64 y.1))], [], []⟩) (fun y => (flds (s.drop y.1)).map (y.2 ++ ·) = flds s ∧ y.1 ≤ s.length ∧ y.2.length ≤ y.1) (fun y => s.length - y.1) (0, []) ⟨rfl, ?_, ?_, rfl⟩ ⟨by simp, Nat.zero_le _, Nat.le_refl _⟩ ?_
  · (repeat' (first | exact trivial | exact .refl _ | refine ⟨⟨_, rfl, ?_⟩, ?_⟩ | exact .nil _ _))
  · (repeat' (first | exact trivial))
  rintro ⟨a, l⟩ ⟨hq, ha, hla⟩
  dsimp only at hq ha hla ⊢
  have hm : (l.map fldRow).length = l.length := List.length_map ..
  by_cases hend : a = s.length
  · subst hend
    rw [List.drop_length, flds_nil] at hq
    rw [← hq]
    repeat (first
      | ((first | apply ar_un | apply stk_un); (next => (first | (simp only [go_sem, Nat.reduceBEq, Nat.reduceEqDiff, reduceIte, reduceCtorEq, String.reduceEq, Nat.reduceAdd, Int.reduceToNat]; exact rfl))))
      | (refine arC .ret ?_; refine ar_retM0 [2, 3] ?_)
      | (apply ar_op' rfl rfl rfl rfl; (next => (first
       | (refine evalE_ok (T := TT) rfl ?_; (first | exact trivial))
       | (apply opk ⟨_, .binOp .lss _ _ _ _, _, _, _, _⟩; first | (refine opv_cmp_f rfl rfl rfl ?_; (next => (first | (simp only [cmpP]; simp [NFL] <;> omega)))) | fail)
       | (apply opk ⟨_, .call { callee := .builtin .len, args := _, argTypes := _ }, _, _, _, _⟩; first | exact opv_len_str (T := TT) rfl rfl rfl | fail)
       | fail)))
      | (refine arO _ ?_; first
       | (refine arO ⟨_, .move _, _, _, _, _⟩ ?_; first | refine ar_move_sl rfl rfl rfl rfl ?_ | fail)
       | (refine arO ⟨_, .assign _, _, _, _, _⟩ ?_; first | refine ar_assign_sl rfl rfl rfl rfl ?_ | fail)
       | fail)
      | refine ar_seq ?_
      | (refine arE ?_; refine ar_endM [0, 2, 3, 4, 5, 6, 7, 8, 9, 10, 11, 15, 38, 46, 47, 61, 63, 76, 88] rfl ?_)
      | refine ar_region ?_
      | (refine arC (.cond _ _ _) ?_; first | (refine ar_cond_false rfl ?_ ?_; (next => (first | rfl))) | fail)
      | refine ar_exit ?_
      | refine stk_b_hit ?_
      | refine stk_c_exit ?_
      | refine stk_l_exit ?_
      | refine stk_nil ?_
      | fail)
    first | exact qret_mk rfl (⟨by simp [fldsV, AV.rd], rfl⟩) | (trace_state; exact qret_mk rfl (⟨by simp [fldsV, AV.rd], rfl⟩))
  have hd0 : (s.drop a).length = s.length - a := List.length_drop
  have hl0 : (s.drop a).length ≤ 140737488355328 := by omega
  have hne : s.drop a ≠ [] := fun e => by rw [e] at hd0; simp at hd0; omega
  obtain ⟨key, k, e, hrd⟩ : ∃ key k e, rd (s.drop a) = (key, k, e) := ⟨_, _, _, rfl⟩
  have hke : k ≤ s.length - a ∧ e ≤ 3 ∧ key < 18446744073709551616 := by
    by_cases he : e = 0
    · subst he; have := rd_fine hrd; omega
    · have := rd_bad hrd he; omega
  have hd1 : ((s.drop a).drop k).length = s.length - a - k := by rw [List.length_drop, hd0]
  have hl1 : ((s.drop a).drop k).length ≤ 140737488355328 := by omega
  obtain ⟨n2, k2, e2, hrd2⟩ : ∃ n2 k2 e2, rd ((s.drop a).drop k) = (n2, k2, e2) := ⟨_, _, _, rfl⟩
  have hke2 : k2 ≤ s.length - a - k ∧ e2 ≤ 3 ∧ n2 < 18446744073709551616 := by
    by_cases he : e2 = 0
    · subst he; have := rd_fine hrd2; omega
    · have := rd_bad hrd2 he; omega
  have hdd : (s.drop a).drop k = s.drop (a + k) := List.drop_drop
  have hrd3 : rd (s.drop (a + k)) = (n2, k2, e2) := by rw [← hdd]; exact hrd2
  have hl3 : (s.drop (a + k)).length ≤ 140737488355328 := by rw [← hdd]; exact hl1
  by_cases he : ¬ e = 0
  · have hbad : fldAt (s.drop a) = none := by unfold fldAt; rw [hrd, if_pos he]
    rw [flds_app_none hq hne hbad]
    repeat (first
      | ((first | apply ar_un | apply stk_un); (next => (first | (simp only [go_sem, Nat.reduceBEq, Nat.reduceEqDiff, reduceIte, reduceCtorEq, String.reduceEq, Nat.reduceAdd, Int.reduceToNat]; exact rfl))))
      | (refine arC .ret ?_; refine ar_retM0 [2, 3] ?_)
      | (apply ar_op' rfl rfl rfl rfl; (next => (first
       | (refine evalE_ok (T := TT) rfl ?_; (first | exact trivial | omega | (simp [NFL] <;> omega)))
       | (apply opk ⟨_, .binOp .neq _ _ _ _, _, _, _, _⟩; first | (refine opv_cmp_t rfl rfl rfl ?_; (next => (first | (simp only [cmpP]; omega)))) | fail)
       | (apply opk ⟨_, .binOp .lss _ _ _ _, _, _, _, _⟩; first | (refine opv_cmp_t rfl rfl rfl ?_; (next => (first | (simp only [cmpP]; simp [NFL] <;> omega)))) | fail)
       | (apply opk ⟨_, .call { callee := .builtin .len, args := _, argTypes := _ }, _, _, _, _⟩; first | exact opv_len_str (T := TT) rfl rfl rfl | fail)
       | (apply opk ⟨_, .pick _ _ _, _, _, _, _⟩; first | (refine opv_pickt rfl ?_ rfl; (next => (first | rfl))) | fail)
       | fail)))
      | (refine arO _ ?_; first
       | (refine arO ⟨_, .call { callee := .value _, args := _, argTypes := _ }, _, _, _, _⟩ ?_; first
        | (apply ar_callM0 rfl (numberAt_a (s.drop a) key k e hrd hl0) rfl rfl; (next => (repeat (first | exact PArgs.nil | (apply PArgs.cons; (next => (first | (refine PArg.rd rfl (Le1.of_eq ?_) rfl; congr 2 <;> (first | (simp [NFL]; done))))))))); (next => rfl); (next => rfl); rintro _ _ ⟨rfl, rfl⟩; refine ⟨_, rfl, ?_⟩)
        | fail)
       | fail)
      | refine ar_unwanted' rfl rfl rfl rfl ?_
      | refine ar_seq ?_
      | (refine arE ?_; refine ar_endM [0, 2, 3, 4, 5, 6, 7, 8, 9, 10, 11, 15, 38, 46, 47, 61, 63, 76, 88] rfl ?_)
      | refine ar_region ?_
      | refine ar_block ?_
      | refine ar_skip ?_
      | (refine arC (.cond _ _ _) ?_; first | (refine ar_cond_true rfl ?_ ?_; (next => (first | rfl))) | fail)
      | refine stk_c_ret ?_
      | refine stk_b_ret ?_
      | refine stk_l_ret ?_
      | refine stk_nil ?_
      | fail)
    first | exact qret_mk rfl (⟨rfl, rfl⟩) | (trace_state; exact qret_mk rfl (⟨rfl, rfl⟩))
  have he0 : e = 0 := by omega
  subst he0
  have hf := rd_fine hrd
  have hd2 : (((s.drop a).drop k).drop k2).length = s.length - a - k - k2 := by rw [List.length_drop, hd1]
  rcases fld_cases (s.drop a) key k n2 k2 e2 hrd hrd2 with ⟨hbad, hc⟩ | ⟨c0, c1, hc⟩
  · rw [flds_app_none hq hne hbad]
    rcases hc with c0 | ⟨c0, c1⟩ | ⟨c0, c1, ⟨d0, he2⟩ | ⟨d0, hlen⟩ | ⟨d0, he2⟩ | ⟨d0, hee, hlen⟩ | ⟨d0, hlen⟩ | ⟨d0, d1, d2, d5⟩⟩
    all_goals (repeat (first
      | ((first | apply ar_un | apply stk_un); (next => (first | (simp only [go_sem, Nat.reduceBEq, Nat.reduceEqDiff, reduceIte, reduceCtorEq, String.reduceEq, Nat.reduceAdd, Int.reduceToNat]; exact rfl))))
      | (refine arC .ret ?_; refine ar_retM0 [2, 3] ?_)
      | (apply ar_op' rfl rfl rfl rfl; (next => (first
       | (refine evalE_ok (T := TT) rfl ?_; (first | exact trivial | omega | (simp [NFL] <;> omega)))
       | (apply opk ⟨_, .binOp .eql _ _ _ _, _, _, _, _⟩; first
        | (refine opv_cmp_t rfl rfl rfl ?_; (next => (first | (simp only [cmpP]; omega))))
        | (refine opv_cmp_f rfl rfl rfl ?_; (next => (first | (simp only [cmpP]; omega))))
        | fail)
       | (apply opk ⟨_, .binOp .neq _ _ _ _, _, _, _, _⟩; first
        | (refine opv_cmp_t rfl rfl rfl ?_; (next => (first | (simp only [cmpP]; omega))))
        | (refine opv_cmp_f rfl rfl rfl ?_; (next => (first | (simp only [cmpP]; omega))))
        | fail)
       | (apply opk ⟨_, .binOp .lss _ _ _ _, _, _, _, _⟩; first
        | (refine opv_cmp_t rfl rfl rfl ?_; (next => (first | (simp only [cmpP]; omega) | (simp only [cmpP]; simp [NFL] <;> omega))))
        | (refine opv_cmp_f rfl rfl rfl ?_; (next => (first | (simp only [cmpP]; omega))))
        | fail)
       | (apply opk ⟨_, .binOp .gtr _ _ _ _, _, _, _, _⟩; first
        | (refine opv_cmp_t rfl rfl rfl ?_; (next => (first | (simp only [cmpP]; omega) | (simp only [cmpP]; simp [NFL] <;> omega))))
        | (refine opv_cmp_f rfl rfl rfl ?_; (next => (first | (simp only [cmpP]; omega))))
        | fail)
       | (apply opk ⟨_, .convert _ _ _, _, _, _, _⟩; first
        | (refine opv_conv64 (T := TT) rfl rfl rfl ?_; (next => (first | omega)))
        | (refine opv_convu64 (T := TT) rfl rfl rfl ?_; (next => (first | (simp [NFL] <;> omega))))
        | fail)
       | (apply opk ⟨_, .call { callee := .builtin .len, args := _, argTypes := _ }, _, _, _, _⟩; first | exact opv_len_str (T := TT) rfl rfl rfl | fail)
       | (apply opk ⟨_, .fieldAddr _ _ _, _, _, _, _⟩; first | exact opv_field_box (T := TT) rfl rfl rfl rfl rfl | fail)
       | (apply opk ⟨_, .build _ _, _, _, _, _⟩; first | exact opv_build (T := TT) rfl rfl rfl rfl rfl | fail)
       | (apply opk ⟨_, .pick _ _ _, _, _, _, _⟩; first
        | (refine opv_pickt rfl ?_ rfl; (next => (first | rfl)))
        | (refine opv_pickf rfl ?_ rfl; (next => (first | rfl)))
        | fail)
       | fail)))
      | (refine arO _ ?_; first
       | (refine arO ⟨_, .load _ _, _, _, _, _⟩ ?_; first | refine ar_load_own (T := TT) rfl rfl rfl rfl look_hd rfl rfl rfl rfl ?_ | fail)
       | (refine arO ⟨_, .store _ _ _, _, _, _, _⟩ ?_; first
        | (apply ar_effM rfl rfl; (next => (first
         | (apply effTo_store (T := TT) rfl; (next => (first | exact look_hd | fail)); (next => rfl); (next => rfl); (next => rfl); (next => rfl); (next => rfl); (next => rfl); (next => rfl); (next => rfl))
         | fail)))
        | fail)
       | (refine arO ⟨_, .alloc _, _, _, _, _⟩ ?_; first
        | (refine ar_eff rfl rfl (eff_alloc (T := TT) rfl rfl ?_); intro kb hkb; (repeat (have hkn := (freshK_ne hkb).1; replace hkb := (freshK_ne hkb).2)); (try have hkl := freshK_look hkb); clear hkb; refine ar_nf ?_)
        | fail)
       | (refine arO ⟨_, .call { callee := .value _, args := _, argTypes := _ }, _, _, _, _⟩ ?_; first
        | (apply ar_callM0 rfl (numberAt_a (s.drop a) key k 0 hrd hl0) rfl rfl; (next => (repeat (first | exact PArgs.nil | (apply PArgs.cons; (next => (first | (refine PArg.rd rfl (Le1.of_eq ?_) rfl; congr 2 <;> (first | (simp [NFL]; done))))))))); (next => rfl); (next => rfl); rintro _ _ ⟨rfl, rfl⟩; refine ⟨_, rfl, ?_⟩)
        | (apply ar_callM0 rfl (numberAt_a (s.drop (a + k)) n2 k2 e2 hrd3 hl3) rfl rfl; (next => (exact PArgs.cons (PArg.rd rfl (Le1.of_eq (strDrop s _ (a + k) (by omega))) rfl) PArgs.nil)); (next => rfl); (next => rfl); rintro _ _ ⟨rfl, rfl⟩; refine ⟨_, rfl, ?_⟩)
        | fail)
       | fail)
      | refine ar_unwanted' rfl rfl rfl rfl ?_
      | refine ar_seq ?_
      | (refine arE ?_; refine ar_endM [0, 2, 3, 4, 5, 6, 7, 8, 9, 10, 11, 15, 38, 46, 47, 61, 63, 76, 88] rfl ?_)
      | refine ar_region ?_
      | refine ar_block ?_
      | refine ar_skip ?_
      | refine ar_blk ?_
      | refine ar_dedup rfl ?_
      | (refine arC (.cond _ _ _) ?_; first | (refine ar_cond_true rfl ?_ ?_; (next => (first | rfl))) | (refine ar_cond_false rfl ?_ ?_; (next => (first | rfl))) | fail)
      | refine stk_c_ret ?_
      | refine stk_b_ret ?_
      | refine stk_l_ret ?_
      | refine stk_nil ?_
      | fail))
    all_goals (exact qret_mk rfl (⟨rfl, rfl⟩))
  · rcases hc with ⟨d0, hee, hfl⟩ | ⟨d0, hlen, hfl⟩ | ⟨d0, hee, hlen, hfl⟩ | ⟨d0, hlen, hfl⟩
    all_goals (have hq2 := flds_app_some hq hfl)
    all_goals (repeat (first
      | ((first | apply ar_un); (next => (first | (simp only [go_sem, Nat.reduceBEq, Nat.reduceEqDiff, reduceIte, reduceCtorEq, String.reduceEq, Nat.reduceAdd, Int.reduceToNat]; exact rfl))))
      | (apply ar_op' rfl rfl rfl rfl; (next => (first
       | (refine evalE_ok (T := TT) rfl ?_; (first | exact trivial | omega | (simp [NFL] <;> omega)))
       | (apply opk ⟨_, .binOp .eql _ _ _ _, _, _, _, _⟩; first
        | (refine opv_cmp_t rfl rfl rfl ?_; (next => (first | (simp only [cmpP]; omega))))
        | (refine opv_cmp_f rfl rfl rfl ?_; (next => (first | (simp only [cmpP]; omega))))
        | fail)
       | (apply opk ⟨_, .binOp .neq _ _ _ _, _, _, _, _⟩; first | (refine opv_cmp_f rfl rfl rfl ?_; (next => (first | (simp only [cmpP]; omega)))) | fail)
       | (apply opk ⟨_, .binOp .lss _ _ _ _, _, _, _, _⟩; first
        | (refine opv_cmp_t rfl rfl rfl ?_; (next => (first | (simp only [cmpP]; simp [NFL] <;> omega))))
        | (refine opv_cmp_f rfl rfl rfl ?_; (next => (first | (simp only [cmpP]; omega))))
        | fail)
       | (apply opk ⟨_, .binOp .gtr _ _ _ _, _, _, _, _⟩; first
        | (refine opv_cmp_f rfl rfl rfl ?_; (next => (first | (simp only [cmpP]; omega) | (simp only [cmpP]; simp [NFL] <;> omega))))
        | fail)
       | (apply opk ⟨_, .convert _ _ _, _, _, _, _⟩; first
        | (refine opv_conv64 (T := TT) rfl rfl rfl ?_; (next => (first | omega)))
        | (refine opv_convu64 (T := TT) rfl rfl rfl ?_; (next => (first | (simp [NFL] <;> omega))))
        | fail)
       | (apply opk ⟨_, .call { callee := .builtin .len, args := _, argTypes := _ }, _, _, _, _⟩; first | exact opv_len_str (T := TT) rfl rfl rfl | fail)
       | (apply opk ⟨_, .fieldAddr _ _ _, _, _, _, _⟩; first | exact opv_field_box (T := TT) rfl rfl rfl rfl rfl | fail)
       | (apply opk ⟨_, .buildSlice _ _ _, _, _, _, _⟩; first | exact opv_build_slice (T := TT) rfl rfl rfl rfl rfl rfl rfl | fail)
       | (apply opk ⟨_, .build _ _, _, _, _, _⟩; first | exact opv_build (T := TT) rfl rfl rfl rfl rfl | fail)
       | (apply opk ⟨_, .pick _ _ _, _, _, _, _⟩; first | (refine opv_pickf rfl ?_ rfl; (next => (first | rfl))) | fail)
       | fail)))
      | (refine arO _ ?_; first
       | (refine arO ⟨_, .move _, _, _, _, _⟩ ?_; first | refine ar_move_sl rfl rfl rfl rfl ?_ | fail)
       | (refine arO ⟨_, .assign _, _, _, _, _⟩ ?_; first | refine ar_assign_sl rfl rfl rfl rfl ?_ | fail)
       | (refine arO ⟨_, .load _ _, _, _, _, _⟩ ?_; first | refine ar_load_own (T := TT) rfl rfl rfl rfl look_hd rfl rfl rfl rfl ?_ | fail)
       | (refine arO ⟨_, .call { callee := .builtin .append, args := _, argTypes := _ }, _, _, _, _⟩ ?_; first
        | (apply ar_effM rfl rfl; (next => (first
         | (apply effTo_append (T := TT) rfl rfl rfl rfl rfl rfl rfl rfl rfl rfl; (next => (first | (simp [RowsOne, AV.one, AV.rd, AV.cells, cst, Value.oneCell'] <;> omega))); (next => (first | (simp [NFL] <;> omega))))
         | fail)))
        | fail)
       | (refine arO ⟨_, .store _ _ _, _, _, _, _⟩ ?_; first
        | (apply ar_effM rfl rfl; (next => (first
         | (apply effTo_store (T := TT) rfl; (next => (first | exact look_hd | fail)); (next => rfl); (next => rfl); (next => rfl); (next => rfl); (next => rfl); (next => rfl); (next => rfl); (next => rfl))
         | fail)))
        | fail)
       | (refine arO ⟨_, .alloc _, _, _, _, _⟩ ?_; first
        | (refine ar_eff rfl rfl (eff_alloc (T := TT) rfl rfl ?_); intro kb hkb; (repeat (have hkn := (freshK_ne hkb).1; replace hkb := (freshK_ne hkb).2)); (try have hkl := freshK_look hkb); clear hkb; refine ar_nf ?_)
        | fail)
       | (refine arO ⟨_, .load _ _, _, _, _, _⟩ ?_; first | (refine ar_op' rfl rfl rfl rfl (opv_load_boxr (T := TT) rfl look_hd rfl rfl rfl rfl) ?_) | fail)
       | (refine arO ⟨_, .call { callee := .value _, args := _, argTypes := _ }, _, _, _, _⟩ ?_; first
        | (apply ar_callM0 rfl (numberAt_a (s.drop a) key k 0 hrd hl0) rfl rfl; (next => (repeat (first | exact PArgs.nil | (apply PArgs.cons; (next => (first | (refine PArg.rd rfl (Le1.of_eq ?_) rfl; congr 2 <;> (first | (simp [NFL]; done))))))))); (next => rfl); (next => rfl); rintro _ _ ⟨rfl, rfl⟩; refine ⟨_, rfl, ?_⟩)
        | (apply ar_callM0 rfl (numberAt_a (s.drop (a + k)) n2 k2 e2 hrd3 hl3) rfl rfl; (next => (exact PArgs.cons (PArg.rd rfl (Le1.of_eq (strDrop s _ (a + k) (by omega))) rfl) PArgs.nil)); (next => rfl); (next => rfl); rintro _ _ ⟨rfl, rfl⟩; refine ⟨_, rfl, ?_⟩)
        | fail)
       | fail)
      | refine ar_seq ?_
      | (refine arE ?_; refine ar_endM [0, 2, 3, 4, 5, 6, 7, 8, 9, 10, 11, 15, 38, 46, 47, 61, 63, 76, 88] rfl ?_)
      | refine ar_region ?_
      | refine ar_block ?_
      | refine ar_skip ?_
      | refine ar_blk ?_
      | refine ar_dedup rfl ?_
      | (refine arC (.cond _ _ _) ?_; first | (refine ar_cond_true rfl ?_ ?_; (next => (first | rfl))) | (refine ar_cond_false rfl ?_ ?_; (next => (first | rfl))) | fail)
      | fail))
    all_goals (refine ar_back ?_)
    · refine ⟨(a + k + k2, l ++ [⟨key / 8, 0, n2, []⟩]), ⟨rfl, ?_, trivial, rfl⟩, ⟨?_, by dsimp only; omega, by simp; omega⟩, by dsimp only; omega⟩
      · (repeat' (first | exact trivial | exact .refl _ | refine ⟨⟨_, rfl, ?_⟩, ?_⟩ | refine Le1.of_eq ?_))
        rw [List.map_append]
        congr 2
        exact congrArg (fun x => [x]) (row_eq s key 0 n2 _ _ (a + k + k2) (0) _ d0 (by omega) (by omega) (by simp))
      · dsimp only
        rw [show s.drop (a + k + k2) = ((s.drop a).drop k).drop k2 from (by simp only [List.drop_drop]; try (congr 1; omega))]
        exact hq2
    · refine ⟨(a + k + 8, l ++ [⟨key / 8, 1, 0, ((s.drop a).drop k).take 8⟩]), ⟨rfl, ?_, trivial, rfl⟩, ⟨?_, by dsimp only; omega, by simp; omega⟩, by dsimp only; omega⟩
      · (repeat' (first | exact trivial | exact .refl _ | refine ⟨⟨_, rfl, ?_⟩, ?_⟩ | refine Le1.of_eq ?_))
        rw [List.map_append]
        congr 2
        exact congrArg (fun x => [x]) (row_eq s key 1 0 _ _ (a + k) (8) _ d0 (by omega) (by omega) (by rw [List.drop_drop]))
      · dsimp only
        rw [show s.drop (a + k + 8) = ((s.drop a).drop k).drop 8 from (by simp only [List.drop_drop]; try (congr 1; omega))]
        exact hq2
    · refine ⟨(a + k + k2 + n2, l ++ [⟨key / 8, 2, 0, (((s.drop a).drop k).drop k2).take n2⟩]), ⟨rfl, ?_, trivial, rfl⟩, ⟨?_, by dsimp only; omega, by simp; omega⟩, by dsimp only; omega⟩
      · (repeat' (first | exact trivial | exact .refl _ | refine ⟨⟨_, rfl, ?_⟩, ?_⟩ | refine Le1.of_eq ?_))
        rw [List.map_append]
        congr 2
        exact congrArg (fun x => [x]) (row_eq s key 2 0 _ _ (a + k + k2) (n2) _ d0 (by omega) (by omega) (by simp only [List.drop_drop]; try (congr 2; omega)))
      · dsimp only
        rw [show s.drop (a + k + k2 + n2) = (((s.drop a).drop k).drop k2).drop n2 from (by simp only [List.drop_drop]; try (congr 1; omega))]
        exact hq2
    · refine ⟨(a + k + 4, l ++ [⟨key / 8, 5, 0, ((s.drop a).drop k).take 4⟩]), ⟨rfl, ?_, trivial, rfl⟩, ⟨?_, by dsimp only; omega, by simp; omega⟩, by dsimp only; omega⟩
      · (repeat' (first | exact trivial | exact .refl _ | refine ⟨⟨_, rfl, ?_⟩, ?_⟩ | refine Le1.of_eq ?_))
        rw [List.map_append]
        congr 2
        exact congrArg (fun x => [x]) (row_eq s key 5 0 _ _ (a + k) (4) _ d0 (by omega) (by omega) (by rw [List.drop_drop]))
      · dsimp only
        rw [show s.drop (a + k + 4) = ((s.drop a).drop k).drop 4 from (by simp only [List.drop_drop]; try (congr 1; omega))]
        exact hq2
end Go.Proofs.Ytophpbihcfdkcaa
