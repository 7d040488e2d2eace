/- strings.NewReplacer, walked over abstract values. -/
import Derived.Test.YtgmlkhfjhogdbaaTT
import Derived.Test.YtgmlkhfjhogdbaaGE
import Derived.Test.YtgmlkhfjhogdbaaRU
namespace Go.Proofs.Ytgmlkhfjhogdbaa
open Go.RowKit P
set_option linter.unusedSimpArgs false
set_option linter.unusedVariables false
attribute [local irreducible] AS.nf OpV ARun Stk QSem QSemA ACalls EffOp AppOk SrcOk Awp Aops
set_option maxHeartbeats 1000000
def six : List (List AV) := [[.v (.string (mkB [92]))], [.v (.string (mkB [92, 92]))], [.v (.string (mkB [34]))], [.v (.string (mkB [92, 34]))], [.v (.string (mkB [10]))], [.v (.string (mkB [92, 110]))]]
theorem six_one : RowsOne six := fun r hr u hu => by
  simp only [six, List.mem_cons, List.not_mem_nil, or_false] at hr
  rcases hr with rfl | rfl | rfl | rfl | rfl | rfl <;> (simp at hu; subst hu; rfl)
/-- A replacer that has not been used. -/
def repBox : List AV := [.v (.int .u32 0), .v (.int .i32 0), .v (.int .u32 0), .v .nilIface, .sl false 1 six]
set_option maxRecDepth 100000 in
theorem newReplacer_a : ACalls Try.prog 16 [.sl false 1 six] [] (fun out H => ∃ B, out = .ret (.v (.pointer (some ⟨B, 0, none⟩))) ∧ H = [(B, repBox)]) := by
  refine acalls_enter _ 12 [.tmp 2] Try.func16 (by kernel_rfl) rfl rfl rfl rfl ?_
  dsimp only [slotsOf]
  repeat (first
    | ((first | apply ar_un); (next => (first | (simp only [go_sem, Nat.reduceBEq, Nat.reduceEqDiff, reduceIte, reduceCtorEq, String.reduceEq, Nat.reduceAdd, Int.reduceToNat]; exact rfl))))
    | (apply ar_op' rfl rfl rfl rfl; (next => (first
     | (refine evalE_ok (T := TT) rfl ?_; (first | exact trivial | omega))
     | (apply opk ⟨_, .binOp .eql _ _ _ _, _, _, _, _⟩; first | exact opv_bin rfl rfl rfl | fail)
     | (apply opk ⟨_, .call { callee := .builtin .len, args := _, argTypes := _ }, _, _, _, _⟩; first | exact opv_len_sl (T := TT) rfl rfl rfl | fail)
     | fail)))
    | (refine arO _ ?_; first | (refine arO ⟨_, .move _, _, _, _, _⟩ ?_; first | refine ar_move_sl rfl rfl rfl rfl ?_ | fail) | fail)
    | refine ar_seq ?_
    | (refine arE ?_; refine ar_endM [0, 2, 6] rfl ?_)
    | refine ar_region ?_
    | refine ar_skip ?_
    | (refine arC (.cond _ _ _) ?_; first | (refine ar_cond_false rfl ?_ ?_; (next => (first | rfl))) | fail)
    | fail)
  refine ar_eff rfl rfl (eff_append_nil (T := TT) (m := six) (sz := 1) rfl rfl rfl (.inr ⟨_, rfl⟩) rfl rfl (fun F X a hs => adds_rel six_one X a (opV_rel' hs rfl)) (by decide) rfl ?_)
  refine ar_subO rfl (fun F X tm hs => hs.lay (.s 9)) ?_
  refine ar_op' rfl rfl rfl rfl (opv_build (T := TT) rfl rfl rfl rfl rfl) ?_
  refine ar_eff rfl rfl (eff_boxB rfl rfl rfl rfl fun k hk => ?_)
  repeat (first | ((first | apply ar_un | apply stk_un); (next => (first | (simp only [go_sem, Nat.reduceBEq, Nat.reduceEqDiff, reduceIte, reduceCtorEq, String.reduceEq, Nat.reduceAdd, Int.reduceToNat]; exact rfl)))) | (apply ar_op' rfl rfl rfl rfl; (next => (first | (refine evalE_ok (T := TT) rfl ?_; (first | exact trivial)) | fail))) | (refine arE ?_; refine ar_endM [0, 2, 6] rfl ?_) | (refine arC .ret ?_; refine ar_retM [2] ?_) | refine stk_nil ?_ | fail)
  first | exact qret_mk rfl (⟨k, rfl, rfl⟩) | (trace_state; exact qret_mk rfl (⟨k, rfl, rfl⟩))
end Go.Proofs.Ytgmlkhfjhogdbaa
