/- log.Append, log.Read and what the laws begin with, as callees. -/
import Derived.Test.YtgidmcfnnmheoaaLL
import Derived.Test.YtgidmcfnnmheoaaHT
namespace Go.Proofs.Ytgidmcfnnmheoaa
open Go.RowKit P
set_option linter.unusedVariables false
theorem acalls_retle {P : Program} {f : FuncId} {us : List AV} {u u' : AV} (hl : LeV u u') (h : ACalls P f us [] (fun out H => out = .ret u ∧ H = [])) : ACalls P f us [] (fun out H => out = .ret u' ∧ H = []) :=
  ⟨h.1, fun F X vs hs => (h.2 F X vs hs).mono fun e w ⟨X', out, H', h1, ⟨h2, h3⟩, h4, h5⟩ => by
    subst h2 h3
    refine ⟨X', .ret u', [], h1, ⟨rfl, rfl⟩, ?_, h5⟩
    obtain ⟨v, k1, k2⟩ := h4
    refine ⟨v, k1, k2.le3 rfl (fun t q hq => ?_) (fun k cs hk => by simp [look_nil] at hk) (fun p hp => hp)⟩
    simp only [look_cons, look_nil] at hq ⊢
    split at hq
    · rename_i e; rw [if_pos e]; cases hq; exact ⟨u, rfl, hl⟩
    · cases hq⟩
def log_Append (N : Nat) (s r : List UInt8) : Option (List UInt8 × Int) := if s.length ≤ 1000000000000 then some ((appendB s r).1, ((appendB s r).2 : Nat)) else none
def log_Append_u (r : List UInt8 × Int) : TV EE.T := .tu [.a (.d .str r.1), .a (.d (.int .i64) r.2)]
def log_Append_h (N : Nat) : List (TV EE.T) → PV EE.T
  | [u0, u1] => match argD .str u0, argD .str u1 with
    | some x0, some x1 => .opt (log_Append N x0 x1) log_Append_u
    | _, _ => .bad
  | _ => .bad
theorem log_Append_hok (N : Nat) (us : List (TV EE.T)) : (log_Append_h N us).ok fun u => ∀ ρ, ACalls Try.prog 11 (us.map (TV.to EE.toEnc ρ)) [] (fun out H => out = .ret (u.to EE.toEnc ρ) ∧ H = []) := by
  unfold log_Append_h
  split
  · split
    · rename_i u0 u1 x0 x1 h0 h1
      intro z hz ρ
      unfold log_Append at hz
      split at hz
      · rename_i hl
        cases hz
        refine acalls_le (us' := [.a (.d .str x0), .a (.d .str x1)]) ?_ (append_a x0 x1 hl)
        exact ⟨argD_le h0 ρ, argD_le h1 ρ, trivial⟩
      · cases hz
    · trivial
  · trivial
def log_Read (N : Nat) (s : List UInt8) : Option (List (List UInt8) × Int) := if s.length ≤ 1000000000000 then some ((rdB s).out, ((lastN (rdB s).ends : Nat) : Int)) else none
def log_Read_u (r : List (List UInt8) × Int) : TV EE.T := .tu [.a (.d (.sl .str) r.1), .a (.d (.int .i64) r.2)]
def log_Read_h (N : Nat) : List (TV EE.T) → PV EE.T
  | [u0] => match argD .str u0 with
    | some x0 => .opt (log_Read N x0) log_Read_u
    | _ => .bad
  | _ => .bad
theorem txRow_map (o : List (List UInt8)) : o.map txRow = List.map (cells EE.toEnc .str) o := rfl
theorem log_Read_hok (N : Nat) (us : List (TV EE.T)) : (log_Read_h N us).ok fun u => ∀ ρ, ACalls Try.prog 14 (us.map (TV.to EE.toEnc ρ)) [] (fun out H => out = .ret (u.to EE.toEnc ρ) ∧ H = []) := by
  unfold log_Read_h
  split
  · split
    · rename_i u0 x0 h0
      intro z hz ρ
      unfold log_Read at hz
      split at hz
      · rename_i hl
        cases hz
        refine acalls_le (us' := [.a (.d .str x0)]) ⟨argD_le h0 ρ, trivial⟩ ?_
        by_cases ho : (rdB x0).out = []
        · have hr := read_none x0 hl ho
          have he0 : (rdB x0).ends = [] := List.length_eq_zero_iff.1 (by rw [(rdB_len x0).1, ho]; rfl)
          rw [ho, he0]
          refine acalls_retle (.inr ⟨fun X v hv => ?_, rfl⟩) hr
          cases hv with
          | tu us xs hl hr =>
            refine .tu _ xs hl fun i u x hu hx => ?_
            match i, hu with
            | 0, hu =>
              simp at hu
              subst hu
              have := rel_v (hr 0 _ x rfl hx)
              subst this
              exact .nl _ _ none 0
            | 1, hu =>
              simp at hu
              subst hu
              exact hr 1 _ x rfl hx
            | i + 2, hu => simp at hu
        · have hr := read_some x0 hl _ _ rfl ho rfl
          rw [txRow_map] at hr
          exact hr
      · cases hz
    · trivial
  · trivial
def law_logBegun (N : Nat) : Option Bool := some true
def law_logBegun_u (r : Bool) : TV EE.T := .a (.d .bool r)
def law_logBegun_h (N : Nat) : List (TV EE.T) → PV EE.T
  | [] => .opt (law_logBegun N) law_logBegun_u
  | _ => .bad
theorem law_logBegun_hok (N : Nat) (us : List (TV EE.T)) : (law_logBegun_h N us).ok fun u => ∀ ρ, ACalls Try.prog 8 (us.map (TV.to EE.toEnc ρ)) [] (fun out H => out = .ret (u.to EE.toEnc ρ) ∧ H = []) := by
  unfold law_logBegun_h
  split
  · intro z hz ρ
    cases hz
    exact logBegun_a
  · trivial
end Go.Proofs.Ytgidmcfnnmheoaa
