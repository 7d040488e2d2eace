/- The closures of wire.fields, and value.is, walked over abstract values. -/
import Derived.Test.YtophpbihcfdkcaaRA
import Derived.Test.YtophpbihcfdkcaaGC
import Derived.Test.YtophpbihcfdkcaaTT
import Derived.Test.YtophpbihcfdkcaaVB
namespace Go.Proofs.Ytophpbihcfdkcaa
open Go.RowKit P
set_option linter.unusedSimpArgs false
set_option linter.unusedVariables false
attribute [local irreducible] AS.nf OpV ARun Stk QSem QSemA ACalls EffOp AppOk SrcOk Awp Aops PanK CallEnd
set_option maxHeartbeats 4000000

/-- What is given up with. -/
def wrongV : Value := .iface 68 (.agg #[])
def fldA (num kind n : Int) (bs : List UInt8) : AV := .ag [.v (.int .i64 num), .v (.int .i64 kind), .v (.int .u64 n), .v (.string (mkB bs))]

set_option maxRecDepth 100000 in
theorem is_a (num kind n a b : Int) (bs : List UInt8) :
    ACalls Try.prog 45 [fldA num kind n bs, .v (.int .i64 a), .v (.int .i64 b)] [] (fun out H => out = .ret (.v (.bool (decide (num = a ∧ kind = b)))) ∧ H = []) := by
  unfold fldA
  refine acalls_enter _ 17 [.tmp 6] Try.func45 (by kernel_rfl) rfl rfl rfl rfl ?_
  dsimp only [slotsOf]
  by_cases h1 : num = a
  all_goals by_cases h2 : kind = b
  all_goals (repeat (first
    | ((first | apply ar_un | apply stk_un); (next => (first | (simp only [go_sem, Nat.reduceBEq, Nat.reduceEqDiff, reduceIte, reduceCtorEq, String.reduceEq, Nat.reduceAdd, Int.reduceToNat]; exact rfl))))
    | (refine arC .ret ?_; refine ar_retM0 [6] ?_)
    | (apply ar_op' rfl rfl rfl rfl; (next => (first
     | (refine evalE_ok (T := TT) rfl ?_; (first | exact trivial))
     | (apply opk ⟨_, .binOp .eql _ _ _ _, _, _, _, _⟩; first
      | (refine opv_cmp_t rfl rfl rfl ?_; (next => (first | (simp only [cmpP]; omega))))
      | (refine opv_cmp_f rfl rfl rfl ?_; (next => (first | (simp only [cmpP]; omega))))
      | fail)
     | (apply opk ⟨_, .fieldAddr _ _ _, _, _, _, _⟩; first | exact opv_field_box (T := TT) rfl rfl rfl rfl rfl | fail)
     | (apply opk ⟨_, .pick _ _ _, _, _, _, _⟩; first
      | (refine opv_pickt rfl ?_ rfl; (next => (first | rfl)))
      | (refine opv_pickf rfl ?_ rfl; (next => (first | rfl)))
      | fail)
     | fail)))
    | (refine arO _ ?_; first
     | (refine arO ⟨_, .load _ _, _, _, _, _⟩ ?_; first | refine ar_load_own (T := TT) rfl rfl rfl rfl look_hd rfl rfl rfl rfl ?_ | fail)
     | (refine arO ⟨_, .box _ _, _, _, _, _⟩ ?_; first
      | (refine ar_eff rfl rfl (eff_boxB rfl rfl rfl rfl ?_); intro kb hkb; (repeat (have hkn := (freshK_ne hkb).1; replace hkb := (freshK_ne hkb).2)); (try have hkl := freshK_look hkb); clear hkb; refine ar_nf ?_)
      | fail)
     | fail)
    | refine ar_unwanted' rfl rfl rfl rfl ?_
    | refine ar_seq ?_
    | (refine arE ?_; refine ar_endM [0, 1, 2, 3, 6] rfl ?_)
    | refine ar_region ?_
    | refine stk_nil ?_
    | fail))
  · first | exact qret_mk rfl (⟨by simp [h1, h2], rfl⟩) | (trace_state; exact qret_mk rfl (⟨by simp [h1, h2], rfl⟩))
  · first | exact qret_mk rfl (⟨by simp [h1, h2], rfl⟩) | (trace_state; exact qret_mk rfl (⟨by simp [h1, h2], rfl⟩))
  · first | exact qret_mk rfl (⟨by simp [h1, h2], rfl⟩) | (trace_state; exact qret_mk rfl (⟨by simp [h1, h2], rfl⟩))
  · first | exact qret_mk rfl (⟨by simp [h1, h2], rfl⟩) | (trace_state; exact qret_mk rfl (⟨by simp [h1, h2], rfl⟩))

set_option maxRecDepth 100000 in
theorem number_ok (kb : Nat) (H : List (Nat × List AV)) (s : List UInt8) (n k : Nat) (hs : s.length ≤ 140737488355328) (hb : look H kb = some [.v (.string (mkB s))]) (hrd : rd s = (n, k, 0)) :
    ACalls Try.prog 58 [.v (.pointer (some ⟨kb, 0, none⟩))] H (fun out H' => out = .ret (.v (.int .u64 n)) ∧ H' = (kb, [.v (.string (mkB (s.drop k)))]) :: H) := by
  have hf := rd_fine hrd
  refine acalls_enter _ 19 [.tmp 1] Try.func58 (by kernel_rfl) rfl rfl rfl rfl ?_
  dsimp only [slotsOf]
  repeat (first
    | ((first | apply ar_un | apply stk_un); (next => (first | (simp only [go_sem, Nat.reduceBEq, Nat.reduceEqDiff, reduceIte, reduceCtorEq, String.reduceEq, Nat.reduceAdd, Int.reduceToNat]; exact rfl))))
    | (apply ar_op' rfl rfl rfl rfl; (next => (first
     | (refine evalE_ok (T := TT) rfl ?_; (first | exact trivial | (simp [NFL] <;> omega)))
     | (apply opk ⟨_, .binOp .neq _ _ _ _, _, _, _, _⟩; first | (refine opv_cmp_f rfl rfl rfl ?_; (next => (first | (simp only [cmpP]; omega)))) | fail)
     | fail)))
    | (refine arO _ ?_; first
     | (refine arO ⟨_, .load _ _, _, _, _, _⟩ ?_; first | refine ar_load_own (T := TT) rfl rfl rfl rfl hb rfl rfl rfl rfl ?_ | fail)
     | (refine arO ⟨_, .store _ _ _, _, _, _, _⟩ ?_; first
      | (apply ar_effM rfl rfl; (next => (first
       | (apply effTo_store (T := TT) rfl; (next => (first | assumption | fail)); (next => rfl); (next => rfl); (next => rfl); (next => rfl); (next => rfl); (next => rfl); (next => rfl); (next => rfl))
       | fail)))
      | fail)
     | (refine arO ⟨_, .call { callee := .value _, args := _, argTypes := _ }, _, _, _, _⟩ ?_; first
      | (apply ar_callM0 rfl (readNumber_a s n k 0 hrd hs) rfl rfl; (next => (repeat (first | exact PArgs.nil | (apply PArgs.cons; (next => (first | exact PArg.rd rfl (Le1.refl _) rfl)))))); (next => rfl); (next => rfl); rintro _ _ ⟨rfl, rfl⟩; refine ⟨_, rfl, ?_⟩)
      | fail)
     | fail)
    | refine ar_seq ?_
    | (refine arE ?_; refine ar_endM [0, 1, 2, 3, 4, 12] rfl ?_)
    | refine ar_region ?_
    | refine ar_skip ?_
    | (refine arC (.cond _ _ _) ?_; first | (refine ar_cond_false rfl ?_ ?_; (next => (first | rfl))) | fail)
    | (refine arC .ret ?_; refine ar_retM [1] ?_)
    | refine stk_nil ?_
    | fail)
  first | exact qret_mk rfl (⟨rfl, rfl⟩) | (trace_state; exact qret_mk rfl (⟨rfl, rfl⟩))

set_option maxRecDepth 100000 in
theorem number_bad (kb : Nat) (H : List (Nat × List AV)) (s : List UInt8) (n k e : Nat) (hs : s.length ≤ 140737488355328) (hb : look H kb = some [.v (.string (mkB s))]) (hrd : rd s = (n, k, e)) (he : ¬ e = 0) :
    ACalls Try.prog 58 [.v (.pointer (some ⟨kb, 0, none⟩))] H (fun out H' => out = .pan wrongV ∧ H' = H) := by
  refine acalls_enter _ 19 [.tmp 1] Try.func58 (by kernel_rfl) rfl rfl rfl rfl ?_
  dsimp only [slotsOf]
  repeat (first
    | ((first | apply ar_un); (next => (first | (simp only [go_sem, Nat.reduceBEq, Nat.reduceEqDiff, reduceIte, reduceCtorEq, String.reduceEq, Nat.reduceAdd, Int.reduceToNat]; exact rfl))))
    | (apply ar_op' rfl rfl rfl rfl; (next => (first
     | (refine evalE_ok (T := TT) rfl ?_; (first | exact trivial))
     | (apply opk ⟨_, .binOp .neq _ _ _ _, _, _, _, _⟩; first | (refine opv_cmp_t rfl rfl rfl ?_; (next => (first | (simp only [cmpP]; omega)))) | fail)
     | (apply opk ⟨_, .build _ _, _, _, _, _⟩; first | exact opv_build (T := TT) rfl rfl rfl rfl rfl | fail)
     | (apply opk ⟨_, .makeInterface _ _, _, _, _, _⟩; first | exact opv_mkif (T := TT) rfl rfl rfl | fail)
     | fail)))
    | (refine arO _ ?_; first
     | (refine arO ⟨_, .load _ _, _, _, _, _⟩ ?_; first | refine ar_load_own (T := TT) rfl rfl rfl rfl hb rfl rfl rfl rfl ?_ | fail)
     | (refine arO ⟨_, .panic _, _, _, _, _⟩ ?_; first | refine ar_panic rfl rfl rfl rfl ?_ | fail)
     | (refine arO ⟨_, .call { callee := .value _, args := _, argTypes := _ }, _, _, _, _⟩ ?_; first
      | (apply ar_callM0 rfl (readNumber_a s n k e hrd hs) rfl rfl; (next => (repeat (first | exact PArgs.nil | (apply PArgs.cons; (next => (first | exact PArg.rd rfl (Le1.refl _) rfl)))))); (next => rfl); (next => rfl); rintro _ _ ⟨rfl, rfl⟩; refine ⟨_, rfl, ?_⟩)
      | fail)
     | fail)
    | refine ar_seq ?_
    | (refine arE ?_; refine ar_endM [0, 1, 2, 3, 4, 12] rfl ?_)
    | refine ar_region ?_
    | (refine arC (.cond _ _ _) ?_; first | (refine ar_cond_true rfl ?_ ?_; (next => (first | rfl))) | fail)
    | fail)
  (repeat (first | refine panK_c ?_ | refine panK_b ?_ | refine panK_l ?_ | refine panK_o ?_))
  exact panK_end _ (fun _ _ h => h) ⟨rfl, rfl⟩

set_option maxRecDepth 100000 in
theorem take_ok (kb : Nat) (H : List (Nat × List AV)) (s : List UInt8) (n : Nat) (hs : s.length ≤ 140737488355328) (hb : look H kb = some [.v (.string (mkB s))]) (hn : n ≤ s.length) :
    ACalls Try.prog 57 [.v (.int .u64 n), .v (.pointer (some ⟨kb, 0, none⟩))] H (fun out H' => out = .ret (.v (.string (mkB (s.take n)))) ∧ H' = (kb, [.v (.string (mkB (s.drop n)))]) :: H) := by
  refine acalls_enter _ 19 [.tmp 3] Try.func57 (by kernel_rfl) rfl rfl rfl rfl ?_
  dsimp only [slotsOf]
  repeat (first
    | ((first | apply ar_un | apply stk_un); (next => (first | (simp only [go_sem, Nat.reduceBEq, Nat.reduceEqDiff, reduceIte, reduceCtorEq, String.reduceEq, Nat.reduceAdd, Int.reduceToNat]; exact rfl))))
    | (apply ar_op' rfl rfl rfl rfl; (next => (first
     | (refine evalE_ok (T := TT) rfl ?_; (first | exact trivial))
     | (apply opk ⟨_, .binOp .gtr _ _ _ _, _, _, _, _⟩; first | (refine opv_cmp_f rfl rfl rfl ?_; (next => (first | (simp only [cmpP]; simp [NFL] <;> omega)))) | fail)
     | (apply opk ⟨_, .convert _ _ _, _, _, _, _⟩; first | (refine opv_convu64 (T := TT) rfl rfl rfl ?_; (next => (first | (simp [NFL] <;> omega)))) | fail)
     | (apply opk ⟨_, .call { callee := .builtin .len, args := _, argTypes := _ }, _, _, _, _⟩; first | exact opv_len_str (T := TT) rfl rfl rfl | fail)
     | (apply opk ⟨_, .slice _ _ _ _ _, _, _, _, _⟩; first
      | (refine opv_slice_str (T := TT) (k1 := .i64) (k2 := .u64) rfl rfl rfl rfl ?_ ?_ ?_; (next => (first | omega)); (next => (first | omega)); (next => (first | (simp [NFL] <;> omega))))
      | (refine opv_slice_str (T := TT) (k1 := .u64) (k2 := .i64) rfl rfl rfl rfl ?_ ?_ ?_; (next => (first | omega)); (next => (first | (simp [NFL] <;> omega))); (next => (first | omega)))
      | fail)
     | fail)))
    | (refine arO _ ?_; first
     | (refine arO ⟨_, .load _ _, _, _, _, _⟩ ?_; first | refine ar_load_own (T := TT) rfl rfl rfl rfl hb rfl rfl rfl rfl ?_ | fail)
     | (refine arO ⟨_, .store _ _ _, _, _, _, _⟩ ?_; first
      | (apply ar_effM rfl rfl; (next => (first
       | (apply effTo_store (T := TT) rfl; (next => (first | assumption | fail)); (next => rfl); (next => rfl); (next => rfl); (next => rfl); (next => rfl); (next => rfl); (next => rfl); (next => rfl))
       | fail)))
      | fail)
     | fail)
    | refine ar_seq ?_
    | (refine arE ?_; refine ar_endM [0, 1, 3, 4, 9] rfl ?_)
    | refine ar_region ?_
    | refine ar_skip ?_
    | (refine arC (.cond _ _ _) ?_; first | (refine ar_cond_false rfl ?_ ?_; (next => (first | rfl))) | fail)
    | (refine arC .ret ?_; refine ar_retM [3] ?_)
    | refine stk_nil ?_
    | fail)
  first | exact qret_mk rfl (⟨rfl, rfl⟩) | (trace_state; exact qret_mk rfl (⟨rfl, rfl⟩))

set_option maxRecDepth 100000 in
theorem take_bad (kb : Nat) (H : List (Nat × List AV)) (s : List UInt8) (n : Nat) (hs : s.length ≤ 140737488355328) (hb : look H kb = some [.v (.string (mkB s))]) (hn : s.length < n) (hn2 : n < 18446744073709551616) :
    ACalls Try.prog 57 [.v (.int .u64 n), .v (.pointer (some ⟨kb, 0, none⟩))] H (fun out H' => out = .pan wrongV ∧ H' = H) := by
  refine acalls_enter _ 19 [.tmp 3] Try.func57 (by kernel_rfl) rfl rfl rfl rfl ?_
  dsimp only [slotsOf]
  repeat (first
    | ((first | apply ar_un); (next => (first | (simp only [go_sem, Nat.reduceBEq, Nat.reduceEqDiff, reduceIte, reduceCtorEq, String.reduceEq, Nat.reduceAdd, Int.reduceToNat]; exact rfl))))
    | (apply ar_op' rfl rfl rfl rfl; (next => (first
     | (refine evalE_ok (T := TT) rfl ?_; (first | exact trivial))
     | (apply opk ⟨_, .binOp .gtr _ _ _ _, _, _, _, _⟩; first | (refine opv_cmp_t rfl rfl rfl ?_; (next => (first | (simp only [cmpP]; simp [NFL] <;> omega)))) | fail)
     | (apply opk ⟨_, .convert _ _ _, _, _, _, _⟩; first | (refine opv_convu64 (T := TT) rfl rfl rfl ?_; (next => (first | (simp [NFL] <;> omega)))) | fail)
     | (apply opk ⟨_, .call { callee := .builtin .len, args := _, argTypes := _ }, _, _, _, _⟩; first | exact opv_len_str (T := TT) rfl rfl rfl | fail)
     | (apply opk ⟨_, .build _ _, _, _, _, _⟩; first | exact opv_build (T := TT) rfl rfl rfl rfl rfl | fail)
     | (apply opk ⟨_, .makeInterface _ _, _, _, _, _⟩; first | exact opv_mkif (T := TT) rfl rfl rfl | fail)
     | fail)))
    | (refine arO _ ?_; first
     | (refine arO ⟨_, .load _ _, _, _, _, _⟩ ?_; first | refine ar_load_own (T := TT) rfl rfl rfl rfl hb rfl rfl rfl rfl ?_ | fail)
     | (refine arO ⟨_, .panic _, _, _, _, _⟩ ?_; first | refine ar_panic rfl rfl rfl rfl ?_ | fail)
     | fail)
    | refine ar_seq ?_
    | (refine arE ?_; refine ar_endM [0, 1, 3, 4, 9] rfl ?_)
    | refine ar_region ?_
    | (refine arC (.cond _ _ _) ?_; first | (refine ar_cond_true rfl ?_ ?_; (next => (first | rfl))) | fail)
    | fail)
  (repeat (first | refine panK_c ?_ | refine panK_b ?_ | refine panK_l ?_ | refine panK_o ?_))
  exact panK_end _ (fun _ _ h => h) ⟨rfl, rfl⟩
end Go.Proofs.Ytophpbihcfdkcaa
