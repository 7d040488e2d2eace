/- The walks of the laws of the press, over abstract values. -/
import Derived.Test.YtophpbihcfdkcaaV5
import Derived.Test.YtophpbihcfdkcaaV9
import Derived.Test.YtophpbihcfdkcaaPC
namespace Go.Proofs.Ytophpbihcfdkcaa
open Go.RowKit P
set_option linter.unusedSimpArgs false
set_option linter.unusedVariables false
attribute [local irreducible] AS.nf OpV ARun Stk QSem QSemA ACalls EffOp AppOk SrcOk Awp Aops
set_option maxHeartbeats 1000000

theorem unpack_pack {s : List UInt8} (hs : s.length ≤ 20000) (most : Int) (h1 : (s.length : Int) ≤ most) (h2 : most ≤ 20000) : unpackB (packB s).1 most = (s, 0) := by
  have hp : packB s = (packR s [] 0 0 (num s.length), 0) := by unfold packB; rw [if_neg (by omega)]
  rw [hp]
  unfold unpackB
  rw [if_neg (by omega), rd_pack hs, if_neg (by simp)]
  simp only
  rw [if_neg (by omega), elems_pack hs]
  simp only
  rw [if_neg (by omega)]
theorem unpack_less {s : List UInt8} (hs : s.length ≤ 20000) (most : Int) (h1 : most < (s.length : Int)) (h2 : 0 ≤ most) : unpackB (packB s).1 most = ([], 2) := by
  have hp : packB s = (packR s [] 0 0 (num s.length), 0) := by unfold packB; rw [if_neg (by omega)]
  rw [hp]
  unfold unpackB
  rw [if_neg (by omega), rd_pack hs, if_neg (by simp)]
  simp only
  rw [if_pos (by omega)]
theorem unpackB_err {s : List UInt8} {most : Int} {t : List UInt8} {e : Nat} (h : unpackB s most = (t, e)) (he : e ≠ 0) : t = [] := by
  unfold unpackB at h
  split at h
  · cases h; rfl
  · split at h
    · cases h; rfl
    · split at h
      · cases h; rfl
      · split at h
        · cases h; rfl
        · split at h
          · cases h; rfl
          · cases h; exact absurd rfl he
theorem unpackB_e {s : List UInt8} {most : Int} {t : List UInt8} {e : Nat} (h : unpackB s most = (t, e)) : e ≤ 3 := by
  unfold unpackB at h
  split at h
  · cases h; omega
  · split at h
    · cases h; omega
    · split at h
      · cases h; omega
      · split at h
        · cases h; omega
        · split at h <;> (cases h; omega)

theorem unpack_is (s : List UInt8) (most : Int) (t : List UInt8) (e : Nat) (h : unpackB s most = (t, e)) (hs : s.length ≤ 140737488355328) (hmi : -9223372036854775808 ≤ most ∧ most ≤ 9223372036854775807) :
    ACalls Try.prog 23 [.v (.string (mkB s)), .v (.int .i64 most)] [] (fun out H => out = .ret (.tu [.v (.string (mkB t)), .v (.int .i64 e)]) ∧ H = []) := by
  have := unpack_a s most hs hmi
  rw [h] at this
  exact this
theorem pack_is (s : List UInt8) (t : List UInt8) (e : Nat) (h : packB s = (t, e)) (hs : s.length ≤ 140737488355328) :
    ACalls Try.prog 26 [.v (.string (mkB s))] [] (fun out H => out = .ret (.tu [.v (.string (mkB t)), .v (.int .i64 e)]) ∧ H = []) := by
  have := pack_a s hs
  rw [h] at this
  exact this
set_option maxRecDepth 100000 in
theorem textIs_a (t : List UInt8) (e : Nat) (he : e ≠ 0 → t = []) : ACalls Try.prog 22 [.v (.string (mkB t)), .v (.int .i64 e), .v (.int .i64 e), .v (.string (mkB t))] [] (fun out H => out = .ret (.v (.bool true)) ∧ H = []) := by
  refine acalls_enter _ 19 [.tmp 8] Try.func22 (by kernel_rfl) rfl rfl rfl rfl ?_
  dsimp only [slotsOf]
  by_cases h0 : e = 0
  · subst h0
    repeat (first
      | ((first | apply ar_un | apply stk_un); (next => (first | (simp only [go_sem, Nat.reduceBEq, Nat.reduceEqDiff, reduceIte, reduceCtorEq, String.reduceEq, Nat.reduceAdd, Int.reduceToNat]; exact rfl))))
      | (apply ar_op' rfl rfl rfl rfl; (next => (first
       | (refine evalE_ok (T := TT) rfl ?_; (first | exact trivial))
       | (apply opk ⟨_, .binOp .eql _ _ _ _, _, _, _, _⟩; first
        | (refine opv_cmp_t rfl rfl rfl ?_; (next => (first | exact rfl)))
        | (refine opv_seq_t rfl rfl rfl ?_; (next => (first | rfl)))
        | fail)
       | (apply opk ⟨_, .binOp .neq _ _ _ _, _, _, _, _⟩; first | (refine opv_cmp_f rfl rfl rfl ?_; (next => (first | (simp only [cmpP]; omega)))) | fail)
       | (apply opk ⟨_, .pick _ _ _, _, _, _, _⟩; first | (refine opv_pickt rfl ?_ rfl; (next => (first | rfl))) | fail)
       | fail)))
      | refine ar_seq ?_
      | (refine arE ?_; refine ar_endM [0, 1, 2, 3, 8, 10] rfl ?_)
      | refine ar_region ?_
      | refine ar_skip ?_
      | (refine arC (.cond _ _ _) ?_; first | (refine ar_cond_false rfl ?_ ?_; (next => (first | rfl))) | fail)
      | (refine arC .ret ?_; refine ar_retM [8] ?_)
      | refine stk_nil ?_
      | fail)
    first | exact qret_mk rfl (⟨rfl, rfl⟩) | (trace_state; exact qret_mk rfl (⟨rfl, rfl⟩))
  · have ht := he h0
    subst ht
    repeat (first
      | ((first | apply ar_un | apply stk_un); (next => (first | (simp only [go_sem, Nat.reduceBEq, Nat.reduceEqDiff, reduceIte, reduceCtorEq, String.reduceEq, Nat.reduceAdd, Int.reduceToNat]; exact rfl))))
      | (apply ar_op' rfl rfl rfl rfl; (next => (first
       | (refine evalE_ok (T := TT) rfl ?_; (first | exact trivial))
       | (apply opk ⟨_, .binOp .eql _ _ _ _, _, _, _, _⟩; first
        | (refine opv_cmp_t rfl rfl rfl ?_; (next => (first | exact rfl)))
        | (refine opv_seq_t rfl rfl rfl ?_; (next => (first | rfl)))
        | fail)
       | (apply opk ⟨_, .binOp .neq _ _ _ _, _, _, _, _⟩; first | (refine opv_cmp_t rfl rfl rfl ?_; (next => (first | (simp only [cmpP]; omega)))) | fail)
       | (apply opk ⟨_, .pick _ _ _, _, _, _, _⟩; first | (refine opv_pickt rfl ?_ rfl; (next => (first | rfl))) | fail)
       | fail)))
      | refine ar_seq ?_
      | (refine arE ?_; refine ar_endM [0, 1, 2, 3, 8, 10] rfl ?_)
      | refine ar_region ?_
      | (refine arC (.cond _ _ _) ?_; first | (refine ar_cond_true rfl ?_ ?_; (next => (first | rfl))) | fail)
      | (refine arC .ret ?_; refine ar_retM [8] ?_)
      | refine stk_nil ?_
      | fail)
    first | exact qret_mk rfl (⟨rfl, rfl⟩) | (trace_state; exact qret_mk rfl (⟨rfl, rfl⟩))
theorem packB_len {s t : List UInt8} (hs : s.length ≤ 20000) (h : packB s = (t, 0)) : t.length ≤ 23365 := by
  have hp : packB s = (packR s [] 0 0 (num s.length), 0) := by unfold packB; rw [if_neg (by omega)]
  rw [hp] at h
  cases h
  have := pack_len hs
  omega
set_option maxRecDepth 100000 in
theorem pressBegun_a : ACalls Try.prog 25 [] [] (fun out H => out = .ret (.v (.bool true)) ∧ H = []) := by
  obtain ⟨s0, hs0⟩ : ∃ s0 : List UInt8, s0 = [97, 98, 99, 97, 98, 99, 97, 98, 99, 97, 98, 99] := ⟨_, rfl⟩
  have hl : s0.length = 12 := by rw [hs0]; rfl
  have hp : packB s0 = ((packB s0).1, 0) := by unfold packB; rw [if_neg (by omega)]
  obtain ⟨t, ht⟩ : ∃ t, t = (packB s0).1 := ⟨_, rfl⟩
  rw [← ht] at hp
  have hu : unpackB t 12 = (s0, 0) := by rw [ht]; exact unpack_pack (by omega) 12 (by omega) (by omega)
  have htl := packB_len (by omega) hp
  subst hs0
  refine acalls_enter _ 24 [.tmp 0] Try.func25 (by kernel_rfl) rfl rfl rfl rfl ?_
  dsimp only [slotsOf]
  repeat (first
    | ((first | apply ar_un | apply stk_un); (next => (first | (simp only [go_sem, Nat.reduceBEq, Nat.reduceEqDiff, reduceIte, reduceCtorEq, String.reduceEq, Nat.reduceAdd, Int.reduceToNat]; exact rfl))))
    | (apply ar_op' rfl rfl rfl rfl; (next => (first
     | (refine evalE_ok (T := TT) rfl ?_; (first | exact trivial))
     | (apply opk ⟨_, .binOp .eql _ _ _ _, _, _, _, _⟩; first
      | (refine opv_cmp_t rfl rfl rfl ?_; (next => (first | exact rfl)))
      | (refine opv_seq_t rfl rfl rfl ?_; (next => (first | rfl)))
      | fail)
     | (apply opk ⟨_, .pick _ _ _, _, _, _, _⟩; first | (refine opv_pickt rfl ?_ rfl; (next => (first | rfl))) | fail)
     | fail)))
    | (refine arO _ ?_; first
     | (refine arO ⟨_, .call { callee := .value _, args := _, argTypes := _ }, _, _, _, _⟩ ?_; first
      | (apply ar_callM0 rfl (pack_is [97, 98, 99, 97, 98, 99, 97, 98, 99, 97, 98, 99] t 0 hp (by simp)) rfl rfl; (next => (repeat (first | exact PArgs.nil | (apply PArgs.cons; (next => (first | exact PArg.rd rfl (Le1.refl _) rfl)))))); (next => rfl); (next => rfl); rintro _ _ ⟨rfl, rfl⟩; refine ⟨_, rfl, ?_⟩)
      | (apply ar_callM0 rfl (unpack_is t 12 [97, 98, 99, 97, 98, 99, 97, 98, 99, 97, 98, 99] 0 hu (by omega) (by omega)) rfl rfl; (next => (repeat (first | exact PArgs.nil | (apply PArgs.cons; (next => (first | exact PArg.rd rfl (Le1.refl _) rfl)))))); (next => rfl); (next => rfl); rintro _ _ ⟨rfl, rfl⟩; refine ⟨_, rfl, ?_⟩)
      | fail)
     | fail)
    | refine ar_seq ?_
    | (refine arE ?_; refine ar_endM [0, 1, 2, 3, 4] rfl ?_)
    | refine ar_region ?_
    | (refine arC .ret ?_; refine ar_retM [0] ?_)
    | refine stk_nil ?_
    | fail)
  first | exact qret_mk rfl (⟨rfl, rfl⟩) | (trace_state; exact qret_mk rfl (⟨rfl, rfl⟩))
set_option maxRecDepth 100000 in
theorem pressBack_a (s : List UInt8) (hs : s.length ≤ 140737488351232) : ACalls Try.prog 8 [.v (.string (mkB s))] [] (fun out H => out = .ret (.v (.bool true)) ∧ H = []) := by
  refine acalls_enter _ 44 [.tmp 2] Try.func8 (by kernel_rfl) rfl rfl rfl rfl ?_
  dsimp only [slotsOf]
  by_cases hbig : 20000 < s.length
  · have hp : packB s = ([], 2) := by unfold packB; rw [if_pos hbig]
    repeat (first
      | ((first | apply ar_un | apply stk_un); (next => (first | (simp only [go_sem, Nat.reduceBEq, Nat.reduceEqDiff, reduceIte, reduceCtorEq, String.reduceEq, Nat.reduceAdd, Int.reduceToNat]; exact rfl))))
      | (apply ar_op' rfl rfl rfl rfl; (next => (first
       | (refine evalE_ok (T := TT) rfl ?_; (first | exact trivial))
       | (apply opk ⟨_, .binOp .neq _ _ _ _, _, _, _, _⟩; first | (refine opv_cmp_t rfl rfl rfl ?_; (next => (first | (simp only [cmpP]; omega)))) | fail)
       | (apply opk ⟨_, .binOp .gtr _ _ _ _, _, _, _, _⟩; first | (refine opv_cmp_t rfl rfl rfl ?_; (next => (first | (simp only [cmpP]; simp [NFL] <;> omega)))) | fail)
       | (apply opk ⟨_, .call { callee := .builtin .len, args := _, argTypes := _ }, _, _, _, _⟩; first | exact opv_len_str (T := TT) rfl rfl rfl | fail)
       | fail)))
      | (refine arO _ ?_; first
       | (refine arO ⟨_, .call { callee := .value _, args := _, argTypes := _ }, _, _, _, _⟩ ?_; first
        | (apply ar_callM0 rfl (pressBegun_a) rfl rfl; (next => (repeat (first | exact PArgs.nil))); (next => rfl); (next => rfl); rintro _ _ ⟨rfl, rfl⟩; refine ⟨_, rfl, ?_⟩)
        | (apply ar_callM0 rfl (pack_is s [] 2 hp (by omega)) rfl rfl; (next => (repeat (first | exact PArgs.nil | (apply PArgs.cons; (next => (first | exact PArg.rd rfl (Le1.refl _) rfl)))))); (next => rfl); (next => rfl); rintro _ _ ⟨rfl, rfl⟩; refine ⟨_, rfl, ?_⟩)
        | fail)
       | fail)
      | refine ar_seq ?_
      | (refine arE ?_; refine ar_endM [0, 2, 3, 4, 5, 7, 14, 31, 33] rfl ?_)
      | refine ar_region ?_
      | refine ar_skip ?_
      | (refine arC (.cond _ _ _) ?_; first | (refine ar_cond_true rfl ?_ ?_; (next => (first | rfl))) | (refine ar_cond_false rfl ?_ ?_; (next => (first | rfl))) | fail)
      | (refine arC .ret ?_; refine ar_retM [2] ?_)
      | refine stk_c_ret ?_
      | refine stk_nil ?_
      | fail)
    first | exact qret_mk rfl (⟨rfl, rfl⟩) | (trace_state; exact qret_mk rfl (⟨rfl, rfl⟩))
  · have hp : packB s = ((packB s).1, 0) := by unfold packB; rw [if_neg hbig]
    have hu := unpack_pack (s := s) (by omega) s.length (by omega) (by omega)
    have hle := fun h => unpack_less (s := s) (by omega) ((s.length : Int) - 1) (by omega) h
    have htl := packB_len (by omega) hp
    generalize (packB s).1 = t at hp hu hle htl
    by_cases h0 : s = []
    · subst h0
      repeat (first
        | ((first | apply ar_un | apply stk_un); (next => (first | (simp only [go_sem, Nat.reduceBEq, Nat.reduceEqDiff, reduceIte, reduceCtorEq, String.reduceEq, Nat.reduceAdd, Int.reduceToNat]; exact rfl))))
        | (apply ar_op' rfl rfl rfl rfl; (next => (first
         | (refine evalE_ok (T := TT) rfl ?_; (first | exact trivial))
         | (apply opk ⟨_, .binOp .eql _ _ _ _, _, _, _, _⟩; first | (refine opv_seq_t rfl rfl rfl ?_; (next => (first | rfl))) | fail)
         | (apply opk ⟨_, .binOp .neq _ _ _ _, _, _, _, _⟩; first
          | (refine opv_cmp_f rfl rfl rfl ?_; (next => (first | (simp only [cmpP]; omega))))
          | (refine opv_sne_f rfl rfl rfl ?_; (next => (first | rfl)))
          | fail)
         | (apply opk ⟨_, .call { callee := .builtin .len, args := _, argTypes := _ }, _, _, _, _⟩; first | exact opv_len_str (T := TT) rfl rfl rfl | fail)
         | (apply opk ⟨_, .pick _ _ _, _, _, _, _⟩; first | (refine opv_pickf rfl ?_ rfl; (next => (first | rfl))) | fail)
         | fail)))
        | (refine arO _ ?_; first
         | (refine arO ⟨_, .call { callee := .value _, args := _, argTypes := _ }, _, _, _, _⟩ ?_; first
          | (apply ar_callM0 rfl (pressBegun_a) rfl rfl; (next => (repeat (first | exact PArgs.nil))); (next => rfl); (next => rfl); rintro _ _ ⟨rfl, rfl⟩; refine ⟨_, rfl, ?_⟩)
          | (apply ar_callM0 rfl (pack_is [] t 0 hp (by omega)) rfl rfl; (next => (repeat (first | exact PArgs.nil | (apply PArgs.cons; (next => (first | exact PArg.rd rfl (Le1.refl _) rfl)))))); (next => rfl); (next => rfl); rintro _ _ ⟨rfl, rfl⟩; refine ⟨_, rfl, ?_⟩)
          | (apply ar_callM0 rfl (unpack_is t ([] : List UInt8).length [] 0 hu (by omega) (by simp)) rfl rfl; (next => (repeat (first | exact PArgs.nil | (apply PArgs.cons; (next => (first | exact PArg.rd rfl (Le1.refl _) rfl)))))); (next => rfl); (next => rfl); rintro _ _ ⟨rfl, rfl⟩; refine ⟨_, rfl, ?_⟩)
          | fail)
         | fail)
        | refine ar_seq ?_
        | (refine arE ?_; refine ar_endM [0, 2, 3, 4, 5, 7, 14, 31, 33] rfl ?_)
        | refine ar_region ?_
        | refine ar_skip ?_
        | (refine arC (.cond _ _ _) ?_; first | (refine ar_cond_true rfl ?_ ?_; (next => (first | rfl))) | (refine ar_cond_false rfl ?_ ?_; (next => (first | rfl))) | fail)
        | (refine arC .ret ?_; refine ar_retM [2] ?_)
        | refine stk_c_ret ?_
        | refine stk_nil ?_
        | fail)
      first | exact qret_mk rfl (⟨rfl, rfl⟩) | (trace_state; exact qret_mk rfl (⟨rfl, rfl⟩))
    · have hpos : 0 < s.length := List.length_pos_iff.2 h0
      have hl2 := hle (by omega)
      repeat (first
        | ((first | apply ar_un | apply stk_un); (next => (first | (simp only [go_sem, Nat.reduceBEq, Nat.reduceEqDiff, reduceIte, reduceCtorEq, String.reduceEq, Nat.reduceAdd, Int.reduceToNat]; exact rfl))))
        | (apply ar_op' rfl rfl rfl rfl; (next => (first
         | (refine evalE_ok (T := TT) rfl ?_; (first | exact trivial | (simp [NFL] <;> omega)))
         | (apply opk ⟨_, .binOp .eql _ _ _ _, _, _, _, _⟩; first
          | (refine opv_cmp_t rfl rfl rfl ?_; (next => (first | exact rfl)))
          | (refine opv_seq_f rfl rfl rfl ?_; (next => (first | assumption)))
          | fail)
         | (apply opk ⟨_, .binOp .neq _ _ _ _, _, _, _, _⟩; first
          | (refine opv_cmp_f rfl rfl rfl ?_; (next => (first | (simp only [cmpP]; omega))))
          | (refine opv_sne_f rfl rfl rfl ?_; (next => (first | rfl)))
          | fail)
         | (apply opk ⟨_, .call { callee := .builtin .len, args := _, argTypes := _ }, _, _, _, _⟩; first | exact opv_len_str (T := TT) rfl rfl rfl | fail)
         | (apply opk ⟨_, .pick _ _ _, _, _, _, _⟩; first | (refine opv_pickf rfl ?_ rfl; (next => (first | rfl))) | fail)
         | fail)))
        | (refine arO _ ?_; first
         | (refine arO ⟨_, .call { callee := .value _, args := _, argTypes := _ }, _, _, _, _⟩ ?_; first
          | (apply ar_callM0 rfl (pressBegun_a) rfl rfl; (next => (repeat (first | exact PArgs.nil))); (next => rfl); (next => rfl); rintro _ _ ⟨rfl, rfl⟩; refine ⟨_, rfl, ?_⟩)
          | (apply ar_callM0 rfl (pack_is s t 0 hp (by omega)) rfl rfl; (next => (repeat (first | exact PArgs.nil | (apply PArgs.cons; (next => (first | exact PArg.rd rfl (Le1.refl _) rfl)))))); (next => rfl); (next => rfl); rintro _ _ ⟨rfl, rfl⟩; refine ⟨_, rfl, ?_⟩)
          | (apply ar_callM0 rfl (unpack_is t s.length s 0 hu (by omega) (by omega)) rfl rfl; (next => (repeat (first | exact PArgs.nil | (apply PArgs.cons; (next => (first | exact PArg.rd rfl (Le1.refl _) rfl)))))); (next => rfl); (next => rfl); rintro _ _ ⟨rfl, rfl⟩; refine ⟨_, rfl, ?_⟩)
          | (apply ar_callM0 rfl (unpack_is t ((s.length : Int) - 1) [] 2 hl2 (by omega) (by omega)) rfl rfl; (next => (repeat (first | exact PArgs.nil | (apply PArgs.cons; (next => (first | exact PArg.rd rfl (Le1.refl _) rfl)))))); (next => rfl); (next => rfl); rintro _ _ ⟨rfl, rfl⟩; refine ⟨_, rfl, ?_⟩)
          | fail)
         | fail)
        | refine ar_seq ?_
        | (refine arE ?_; refine ar_endM [0, 2, 3, 4, 5, 7, 14, 31, 33] rfl ?_)
        | refine ar_region ?_
        | refine ar_skip ?_
        | (refine arC (.cond _ _ _) ?_; first | (refine ar_cond_false rfl ?_ ?_; (next => (first | rfl))) | fail)
        | (refine arC .ret ?_; refine ar_retM [2] ?_)
        | refine stk_nil ?_
        | fail)
      first | exact qret_mk rfl (⟨rfl, rfl⟩) | (trace_state; exact qret_mk rfl (⟨rfl, rfl⟩))
end Go.Proofs.Ytophpbihcfdkcaa
