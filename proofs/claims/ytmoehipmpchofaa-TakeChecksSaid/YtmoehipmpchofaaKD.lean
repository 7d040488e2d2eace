/- What the laws of take begin with. -/
import Derived.Test.YtmoehipmpchofaaFKo1
namespace Go.Proofs.Ytmoehipmpchofaa
open Go.RowKit P
set_option linter.unusedVariables false
set_option linter.unusedSimpArgs false
set_option maxRecDepth 100000
theorem open_is : take_open 100 [0] = some ([], true) := by kernel_rfl
theorem pack_is : press_Pack 100 [] = some ([0], 0) := by kernel_rfl
def tkG : Gam EE := ⟨[⟨9, take_Check_h 100⟩, ⟨31, take_clone_h 100⟩, ⟨32, take_open_h 100⟩, ⟨22, take_many_h 100⟩], EQT, [], []⟩
theorem tk_Gok : GOk Try.prog TT EE tkG := GOk.cons (take_Check_hok 100) (GOk.cons (take_clone_hok 100) (GOk.cons (take_open_hok 100) (GOk.cons (take_many_hok 100) (GOk.nil EQT_ok))))
theorem take_run : evC TT EE tkG ⟨[], [], [], [], false, [], []⟩ [.tmp 4, .tmp 5, .tmp 6] 3000 [.c (bodyOf 0 Try.f11)] ⟨99, [(0, .a (.d (.sl (.nam 4)) ([] : List VSeries))), (1, .a (.d .str ([0] : List UInt8)))], [], []⟩ =
    some (.ret (.tu [.a (.d (.sl (.nam 4)) ([] : List VSeries)), .a (.d (.int .i64) (200 : Int)), .a (.d (.int .i64) (0 : Int))]) []) := by kernel_rfl
def takeV : TV EE.T := .tu [.a (.d (.sl (.nam 4)) ([] : List VSeries)), .a (.d (.int .i64) (200 : Int)), .a (.d (.int .i64) (0 : Int))]
def begV : TV EE.T := .a (.d .bool true)
def takeUs : List (TV EE.T) := [.a (.d (.sl (.nam 4)) ([] : List VSeries)), .a (.d .str ([0] : List UInt8))]
theorem take_a (ρ : Nat → Nat) : ACalls Try.prog 11 (takeUs.map (TV.to EE.toEnc ρ)) [] (fun out H => out = .ret (takeV.to EE.toEnc ρ) ∧ H = []) := by
  have h := fn_okH (Y := TT) (lv := ⟨[], [], [], [], false, [], []⟩) (rs := [.tmp 4, .tmp 5, .tmp 6]) (K := fun r => r = (.ret takeV [])) (bodyOf 0 Try.f11) 99 mixed tk_Gok Try.func11 (by kernel_rfl) rfl rfl rfl (us := takeUs) rfl (h0 := []) (evC_ok _ _ _ _ take_run rfl) ρ (fun p hp q hq e => by cases hp)
  exact h.mono fun out H hp => hp.ret rfl
def take_Take (N : Nat) (l : List VSeries) (s : List UInt8) : Option Unit := bif l.isEmpty && decide (s = [0]) then some () else none
theorem takeTake_some {N : Nat} {l : List VSeries} {s : List UInt8} (h : take_Take N l s = some ()) : l = [] ∧ s = [0] := by
  unfold take_Take at h
  cases l with
  | cons a l => simp at h
  | nil =>
    by_cases e : s = [0]
    · exact ⟨rfl, e⟩
    · simp [e] at h
def take_Take_u (r : Unit) : TV EE.T := .tu [.a (.d (.sl (.nam 4)) ([] : List VSeries)), .a (.d (.int .i64) (200 : Int)), .a (.d (.int .i64) (0 : Int))]
def take_Take_h (N : Nat) : List (TV EE.T) → PV EE.T
  | [u0, u1] => match argD (.sl (.nam 4)) u0, argD .str u1 with
    | some x0, some x1 => .opt (take_Take N x0 x1) take_Take_u
    | _, _ => .bad
  | _ => .bad
theorem take_Take_hok (N : Nat) (us : List (TV EE.T)) : (take_Take_h N us).ok fun u => ∀ ρ, ACalls Try.prog 11 (us.map (TV.to EE.toEnc ρ)) [] (fun out H => out = .ret (u.to EE.toEnc ρ) ∧ H = []) := by
  unfold take_Take_h
  split
  · split
    · rename_i u0 u1 x0 x1 h0 h1
      intro z hz ρ
      cases z
      obtain ⟨e1, e2⟩ := takeTake_some hz
      subst e1 e2
      refine acalls_le (us' := takeUs) ?_ (take_a ρ)
      exact ⟨argD_le h0 ρ, argD_le h1 ρ, trivial⟩
    · trivial
  · trivial
def tbG : Gam EE := ⟨[⟨21, press_Pack_h 100⟩, ⟨11, take_Take_h 100⟩], EQT, [], []⟩
theorem tb_Gok : GOk Try.prog TT EE tbG := GOk.cons (press_Pack_hok 100) (GOk.cons (take_Take_hok 100) (GOk.nil EQT_ok))
theorem begun_run : evC TT EE tbG ⟨[], [], [], [], false, [], []⟩ [.tmp 0] 3000 [.c (bodyOf 0 Try.f8)] ⟨31, [], [], []⟩ =
    some (.ret (.a (.d .bool true)) []) := by kernel_rfl
theorem begun_a (ρ : Nat → Nat) : ACalls Try.prog 8 [] [] (fun out H => out = .ret (begV.to EE.toEnc ρ) ∧ H = []) := by
  have h := fn_okH (Y := TT) (lv := ⟨[], [], [], [], false, [], []⟩) (rs := [.tmp 0]) (K := fun r => r = (.ret begV [])) (bodyOf 0 Try.f8) 31 mixed tb_Gok Try.func8 (by kernel_rfl) rfl rfl rfl (us := []) rfl (h0 := []) (evC_ok _ _ _ _ begun_run rfl) ρ (fun p hp q hq e => by cases hp)
  exact h.mono fun out H hp => hp.ret rfl
end Go.Proofs.Ytmoehipmpchofaa
