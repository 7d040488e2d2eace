/- labels.Text, as a callee. -/
import Derived.Test.YtgmlkhfjhogdbaaTG
namespace Go.Proofs.Ytgmlkhfjhogdbaa
open Go.RowKit P
set_option linter.unusedSimpArgs false
set_option linter.unusedVariables false
def smallB (l : List VLabel) (v : List UInt8) : Bool := decide (l.length ≤ 20) && (decide (v.length ≤ 100) && l.all fun z => decide (z.Name.length ≤ 40) && decide (z.Value.length ≤ 100))
theorem smallB_is {l : List VLabel} {v : List UInt8} (h : smallB l v = true) : l.length ≤ 20 ∧ v.length ≤ 100 ∧ ∀ z ∈ l, z.Name.length ≤ 40 ∧ z.Value.length ≤ 100 := by
  unfold smallB at h
  simp only [Bool.and_eq_true, decide_eq_true_eq, List.all_eq_true] at h
  exact ⟨h.1, h.2.1, h.2.2⟩
def labels_Text (N : Nat) (l : List VLabel) : Option (List UInt8 × Int) := match labels_check N [l] with
  | none => none
  | some c => if c = 0 then (match labels_Value N l nameB with
    | none => none
    | some v => match smallB l v with
      | true => some (textB l v, 0)
      | false => none) else some ([], c)
attribute [local irreducible] AS.nf OpV ARun Stk QSem QSemA ACalls EffOp AppOk SrcOk Awp Aops
set_option maxHeartbeats 2000000 in
set_option maxRecDepth 100000 in
theorem text_bad (l : List VLabel) (c : Int) (hc : c ≠ 0) (hck : ACalls Try.prog 14 [.sl false 1 [[.sl false 2 (labA l)]]] [] (fun out H => out = .ret (.v (.int .i64 c)) ∧ H = [])) :
    ACalls Try.prog 5 [.sl false 2 (labA l)] [] (fun out H => out = .ret (.tu [.v (.string (mkB [])), .v (.int .i64 c)]) ∧ H = []) := by
  refine acalls_enter _ 54 [.tmp 2, .tmp 3] Try.func5 (by kernel_rfl) rfl rfl rfl rfl ?_
  dsimp only [slotsOf]
  repeat (first
    | ((first | apply ar_un | apply stk_un); (next => (first | (simp only [go_sem, Nat.reduceBEq, Nat.reduceEqDiff, reduceIte, reduceCtorEq, String.reduceEq, Nat.reduceAdd, Int.reduceToNat]; exact rfl))))
    | (refine arC .ret ?_; refine ar_retM0 [2, 3] ?_)
    | (apply ar_op' rfl rfl rfl rfl; (next => (first
     | (refine evalE_ok (T := TT) rfl ?_; (first | exact trivial))
     | (apply opk ⟨_, .binOp .neq _ _ _ _, _, _, _, _⟩; first | (refine opv_cmp_t rfl rfl rfl ?_; (next => (first | (simp only [cmpP]; omega)))) | fail)
     | (apply opk ⟨_, .buildSlice _ _ _, _, _, _, _⟩; first | exact opv_build_slice (T := TT) rfl rfl rfl rfl rfl rfl rfl | fail)
     | fail)))
    | (refine arO _ ?_; first
     | (refine arO ⟨_, .move _, _, _, _, _⟩ ?_; first | refine ar_move_sl rfl rfl rfl rfl ?_ | fail)
     | (refine arO ⟨_, .call { callee := .value _, args := _, argTypes := _ }, _, _, _, _⟩ ?_; first
      | (apply ar_callM0 rfl (hck) rfl rfl; (next => (repeat (first | exact PArgs.nil | (apply PArgs.cons; (next => (first | exact PArg.rd rfl (Le1.rd _ _ _) rfl)))))); (next => rfl); (next => rfl); rintro _ _ ⟨rfl, rfl⟩; refine ⟨_, rfl, ?_⟩)
      | fail)
     | fail)
    | refine ar_seq ?_
    | (refine arE ?_; refine ar_endM [0, 2, 3, 4, 5, 6, 8, 13, 17, 18, 19, 20, 25, 46] rfl ?_)
    | refine ar_region ?_
    | (refine arC (.cond _ _ _) ?_; first | (refine ar_cond_true rfl ?_ ?_; (next => (first | rfl))) | fail)
    | refine stk_c_ret ?_
    | refine stk_nil ?_
    | fail)
  first | exact qret_mk rfl (⟨rfl, rfl⟩) | (trace_state; exact qret_mk rfl (⟨rfl, rfl⟩))
theorem text_call {N : Nat} (l : List VLabel) {r : List UInt8 × Int} (h : labels_Text N l = some r) : ACalls Try.prog 5 [.sl false 2 (labA l)] [] (fun out H => out = .ret (.tu [.v (.string (mkB r.1)), .v (.int .i64 r.2)]) ∧ H = []) := by
  unfold labels_Text at h
  split at h
  · cases h
  · rename_i c hc
    have hck : ACalls Try.prog 14 [.sl false 1 [[.sl false 2 (labA l)]]] [] (fun out H => out = .ret (.v (.int .i64 c)) ∧ H = []) := labels_check_ok (N := N) [l] hc id
    split at h
    · rename_i h0
      subst h0
      split at h
      · cases h
      · rename_i v hv
        split at h
        · rename_i hs
          cases h
          obtain ⟨s1, s2, s3⟩ := smallB_is hs
          exact text_a l v s1 s3 s2 hck (labels_Value_ok (N := N) l nameB hv id)
        · cases h
    · rename_i h0
      cases h
      exact text_bad l c h0 hck
def labels_Text_u (r : List UInt8 × Int) : TV EE.T := .tu [.a (.d .str r.1), .a (.d (.int .i64) r.2)]
def labels_Text_h (N : Nat) : List (TV EE.T) → PV EE.T
  | [u0] => match argD (.sl (.nam 2)) u0 with
    | some x0 => .opt (labels_Text N x0) labels_Text_u
    | _ => .bad
  | _ => .bad
theorem labels_Text_hok (N : Nat) (us : List (TV EE.T)) : (labels_Text_h N us).ok fun u => ∀ ρ, ACalls Try.prog 5 (us.map (TV.to EE.toEnc ρ)) [] (fun out H => out = .ret (u.to EE.toEnc ρ) ∧ H = []) := by
  unfold labels_Text_h
  split
  · split
    · rename_i u0 x0 h0
      intro z hz ρ
      refine acalls_le (us' := ([.a (.d (.sl (.nam 2)) x0)] : List (TV EE.T))) ⟨argD_le h0 ρ, trivial⟩ ?_
      exact text_call x0 hz
    · trivial
  · trivial
end Go.Proofs.Ytgmlkhfjhogdbaa
