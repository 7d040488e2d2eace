/- strings.Replacer's buildOnce, walked over abstract values. -/
import Derived.Test.YtgmlkhfjhogdbaaTC
import Derived.Test.YtgmlkhfjhogdbaaRU
namespace Go.Proofs.Ytgmlkhfjhogdbaa
open Go.RowKit P
set_option linter.unusedSimpArgs false
set_option linter.unusedVariables false
attribute [local irreducible] AS.nf OpV ARun Stk QSem QSemA ACalls EffOp AppOk SrcOk Awp Aops tabA rowA
set_option maxHeartbeats 1000000
/-- A replacer that has just been made ready. -/
def doneA (k : Nat) : List AV := [.v (.int .u32 0), .v (.int .i32 1), .v (.int .u32 0), .ifc 109 (.v (.pointer (some ⟨k, 0, none⟩))), .v (.slice none 0 0)]
set_option maxRecDepth 100000 in
theorem buildOnce_a (B : Nat) : ACalls Try.prog 27 [.v (.pointer (some ⟨B, 0, none⟩))] [(B, rep1A)] (fun out H => ∃ k r, k ≠ r ∧ k ≠ B ∧ r ≠ B ∧ out = .ret (.tu []) ∧ ∀ q cs, look [(B, doneA k), (k, tabA r), (r, rowA)] q = some cs → look H q = some cs) := by
  have h := build_a B
  unfold rep1A at h ⊢
  generalize hsix : (sixT.map (cells EE.toEnc .str)) = six' at h ⊢
  refine acalls_enter _ 10 [] Try.func27 (by kernel_rfl) rfl rfl rfl rfl ?_
  dsimp only [slotsOf]
  repeat (first
    | ((first | apply ar_un); (next => (first | (simp only [go_sem, Nat.reduceBEq, Nat.reduceEqDiff, reduceIte, reduceCtorEq, String.reduceEq, Nat.reduceAdd, Int.reduceToNat]; exact rfl))))
    | (apply ar_op' rfl rfl rfl rfl; (next => (first
     | (refine evalE_ok (T := TT) rfl ?_; (first | exact trivial))
     | (apply opk ⟨_, .fieldAddr _ _ _, _, _, _, _⟩; first | exact opv_field_box (T := TT) rfl rfl rfl rfl rfl | fail)
     | fail)))
    | (refine arO _ ?_; first
     | (refine arO ⟨_, .store _ _ _, _, _, _, _⟩ ?_; first
      | (apply ar_effM rfl rfl; (next => (first
       | (apply effTo_store (T := TT) rfl; (next => (first | exact look_hd | fail)); (next => rfl); (next => rfl); (next => rfl); (next => rfl); (next => rfl); (next => rfl); (next => rfl); (next => rfl))
       | fail)))
      | fail)
     | (refine arO ⟨_, .call { callee := .value _, args := _, argTypes := _ }, _, _, _, _⟩ ?_; first
      | (apply ar_callMH rfl (h) rfl rfl; (next => (repeat (first | exact PArgs.nil | (apply PArgs.cons; (next => (first | exact PArg.rd rfl (Le1.refl _) rfl)))))); (next => rfl); (next => rfl); (next => rfl); rintro _ _ ⟨k, r, hkr, hkB, hrB, rfl, rfl⟩; refine ⟨_, rfl, ?_⟩)
      | fail)
     | fail)
    | refine ar_seq ?_
    | (refine arE ?_; refine ar_endM [0] rfl ?_)
    | refine ar_region ?_
    | fail)
  refine ar_nil ⟨.tu [], rfl, k, r, hkr, hkB, hrB, rfl, fun q cs hq => ?_⟩
  simp only [look_cons, look_nil] at hq ⊢
  by_cases e : q = B
  · rw [if_pos e] at hq ⊢; exact hq
  · rw [if_neg e] at hq
    rw [if_neg e, if_neg e, if_neg e]; exact hq
end Go.Proofs.Ytgmlkhfjhogdbaa
