/- The named structs of the program, as typed values. Written by gen/tg.py. -/
import Derived.Test.YtgmlkhfjhogdbaaHJ
import Derived.Test.YtgmlkhfjhogdbaaTT
namespace Go.Proofs.Ytgmlkhfjhogdbaa
open Go.RowKit P
set_option linter.unusedVariables false
set_option linter.unusedSimpArgs false
structure VboundsError where
  x : Int
  y : Int
  signed : Bool
  code : UInt8
structure VerrorAddressString where
  msg : List UInt8
  addr : Int
structure VLabel where
  Name : List UInt8
  Value : List UInt8
structure VMutex where
  state : Int
  sema : Int
def ET : Nat → Type
  | 0 => VboundsError
  | 1 => VerrorAddressString
  | 2 => VLabel
  | 3 => VMutex
  | _ => Unit
def enc_VboundsError (z : VboundsError) : List AV := [.v (.int .i64 z.x)] ++ [.v (.int .i64 z.y)] ++ [.v (.bool z.signed)] ++ [.v (.int .u8 (UInt8.toNat z.code))]
def enc_VerrorAddressString (z : VerrorAddressString) : List AV := [.v (.string (mkB z.msg))] ++ [.v (.int .u64 z.addr)]
def enc_VLabel (z : VLabel) : List AV := [.v (.string (mkB z.Name))] ++ [.v (.string (mkB z.Value))]
def enc_VMutex (z : VMutex) : List AV := [.v (.int .i32 z.state)] ++ [.v (.int .u32 z.sema)]
def encE : ∀ i, ET i → List AV
  | 0, z => enc_VboundsError z
  | 1, z => enc_VerrorAddressString z
  | 2, z => enc_VLabel z
  | 3, z => enc_VMutex z
  | _ + 4, _ => []
def szE : Nat → Nat
  | 0 => 4
  | 1 => 2
  | 2 => 2
  | 3 => 2
  | _ => 0
def ECC : Enc where
  T := ET
  enc := encE
  sz := szE
  len := fun i z => match i, z with
    | 0, z => rfl
    | 1, z => rfl
    | 2, z => rfl
    | 3, z => rfl
    | _ + 4, _ => rfl
  one := fun i z => match i, z with
    | 0, z => by intro u hu; simp only [encE, enc_VboundsError, enc_VerrorAddressString, enc_VLabel, enc_VMutex, List.cons_append, List.nil_append, List.mem_cons, List.not_mem_nil, or_false] at hu; rcases hu with rfl | rfl | rfl | rfl <;> exact ⟨rfl, rfl⟩
    | 1, z => by intro u hu; simp only [encE, enc_VboundsError, enc_VerrorAddressString, enc_VLabel, enc_VMutex, List.cons_append, List.nil_append, List.mem_cons, List.not_mem_nil, or_false] at hu; rcases hu with rfl | rfl <;> exact ⟨rfl, rfl⟩
    | 2, z => by intro u hu; simp only [encE, enc_VboundsError, enc_VerrorAddressString, enc_VLabel, enc_VMutex, List.cons_append, List.nil_append, List.mem_cons, List.not_mem_nil, or_false] at hu; rcases hu with rfl | rfl <;> exact ⟨rfl, rfl⟩
    | 3, z => by intro u hu; simp only [encE, enc_VboundsError, enc_VerrorAddressString, enc_VLabel, enc_VMutex, List.cons_append, List.nil_append, List.mem_cons, List.not_mem_nil, or_false] at hu; rcases hu with rfl | rfl <;> exact ⟨rfl, rfl⟩
    | _ + 4, _ => by intro u hu; cases hu
def unpE : ∀ i, ET i → List (TA ET)
  | 0, z => [.d (.int .i64) z.x, .d (.int .i64) z.y, .d .bool z.signed, .d .byte z.code]
  | 1, z => [.d .str z.msg, .d (.int .u64) z.addr]
  | 2, z => [.d .str z.Name, .d .str z.Value]
  | 3, z => [.d (.int .i32) z.state, .d (.int .u32) z.sema]
  | _ + 4, _ => []
def pk_VboundsError (l : List (TA ET)) : Option (VboundsError × List (TA ET)) :=
  match pkL (.int .i64) l with
  | none => none
  | some (a0, l) =>
    match pkL (.int .i64) l with
    | none => none
    | some (a1, l) =>
      match pkL .bool l with
      | none => none
      | some (a2, l) =>
        match pkL .byte l with
        | none => none
        | some (a3, l) =>
          some (⟨a0, a1, a2, a3⟩, l)
theorem pk_VboundsError_to (l : List (TA ET)) (z : VboundsError) (r : List (TA ET)) (ρ : Nat → Nat) (h : pk_VboundsError l = some (z, r)) : LeL (l.map fun a => (a.rd.to ECC ρ)) (enc_VboundsError z ++ r.map fun a => (a.rd.to ECC ρ)) := by
  unfold pk_VboundsError at h
  split at h
  · cases h
  · rename_i a0 l0 h0
    split at h
    · cases h
    · rename_i a1 l1 h1
      split at h
      · cases h
      · rename_i a2 l2 h2
        split at h
        · cases h
        · rename_i a3 l3 h3
          cases h
          have hh := (pkL_to ECC ρ rfl h0).trans ((LeL.refl _).append ((pkL_to ECC ρ rfl h1).trans ((LeL.refl _).append ((pkL_to ECC ρ rfl h2).trans ((LeL.refl _).append (pkL_to ECC ρ rfl h3))))))
          exact hh
def pk_VerrorAddressString (l : List (TA ET)) : Option (VerrorAddressString × List (TA ET)) :=
  match pkL .str l with
  | none => none
  | some (a0, l) =>
    match pkL (.int .u64) l with
    | none => none
    | some (a1, l) =>
      some (⟨a0, a1⟩, l)
theorem pk_VerrorAddressString_to (l : List (TA ET)) (z : VerrorAddressString) (r : List (TA ET)) (ρ : Nat → Nat) (h : pk_VerrorAddressString l = some (z, r)) : LeL (l.map fun a => (a.rd.to ECC ρ)) (enc_VerrorAddressString z ++ r.map fun a => (a.rd.to ECC ρ)) := by
  unfold pk_VerrorAddressString at h
  split at h
  · cases h
  · rename_i a0 l0 h0
    split at h
    · cases h
    · rename_i a1 l1 h1
      cases h
      have hh := (pkL_to ECC ρ rfl h0).trans ((LeL.refl _).append (pkL_to ECC ρ rfl h1))
      exact hh
def pk_VLabel (l : List (TA ET)) : Option (VLabel × List (TA ET)) :=
  match pkL .str l with
  | none => none
  | some (a0, l) =>
    match pkL .str l with
    | none => none
    | some (a1, l) =>
      some (⟨a0, a1⟩, l)
theorem pk_VLabel_to (l : List (TA ET)) (z : VLabel) (r : List (TA ET)) (ρ : Nat → Nat) (h : pk_VLabel l = some (z, r)) : LeL (l.map fun a => (a.rd.to ECC ρ)) (enc_VLabel z ++ r.map fun a => (a.rd.to ECC ρ)) := by
  unfold pk_VLabel at h
  split at h
  · cases h
  · rename_i a0 l0 h0
    split at h
    · cases h
    · rename_i a1 l1 h1
      cases h
      have hh := (pkL_to ECC ρ rfl h0).trans ((LeL.refl _).append (pkL_to ECC ρ rfl h1))
      exact hh
def pk_VMutex (l : List (TA ET)) : Option (VMutex × List (TA ET)) :=
  match pkL (.int .i32) l with
  | none => none
  | some (a0, l) =>
    match pkL (.int .u32) l with
    | none => none
    | some (a1, l) =>
      some (⟨a0, a1⟩, l)
theorem pk_VMutex_to (l : List (TA ET)) (z : VMutex) (r : List (TA ET)) (ρ : Nat → Nat) (h : pk_VMutex l = some (z, r)) : LeL (l.map fun a => (a.rd.to ECC ρ)) (enc_VMutex z ++ r.map fun a => (a.rd.to ECC ρ)) := by
  unfold pk_VMutex at h
  split at h
  · cases h
  · rename_i a0 l0 h0
    split at h
    · cases h
    · rename_i a1 l1 h1
      cases h
      have hh := (pkL_to ECC ρ rfl h0).trans ((LeL.refl _).append (pkL_to ECC ρ rfl h1))
      exact hh
def EE : Env where
  toEnc := ECC
  unp := unpE
  unp_to := fun i z ρ => match i, z with
    | 0, z => rfl
    | 1, z => rfl
    | 2, z => rfl
    | 3, z => rfl
    | _ + 4, _ => rfl
  pk := fun i l => match i with
    | 0 => pk_VboundsError l
    | 1 => pk_VerrorAddressString l
    | 2 => pk_VLabel l
    | 3 => pk_VMutex l
    | _ => none
  pk_to := fun i l z r ρ h => match i, z, h with
    | 0, z, h => pk_VboundsError_to l z r ρ h
    | 1, z, h => pk_VerrorAddressString_to l z r ρ h
    | 2, z, h => pk_VLabel_to l z r ρ h
    | 3, z, h => pk_VMutex_to l z r ρ h
    | _ + 4, z, h => by cases h
  et := [(22, (.sl (.nam 2))), (34, (.sl (.sl (.nam 2)))), (38, (.sl .str)), (71, (.sl .byte)), (92, (.sl (.int .i64))), (156, (.sl .byte))]
  ct := [(22, [(.sl (.nam 2))]), (34, [(.sl (.sl (.nam 2)))]), (38, [(.sl .str)]), (67, [(.int .u32), (.int .i32), (.int .u32), .bool, (.sl .str)]), (68, [(.int .u32), (.int .i32), (.int .u32), .bool, (.sl .str)]), (71, [(.sl .byte)]), (72, [.bool, (.sl .byte)]), (73, [.bool, (.sl .byte)]), (92, [(.sl (.int .i64))]), (156, [(.sl .byte)])]
def EQT : List (Nat × List Ty) := [(40, [.str, .str])]
theorem eqok_40 : EqOk Try.prog TT 40 [.str, .str] := ⟨by kernel_rfl, by kernel_rfl, by kernel_rfl, by kernel_rfl⟩
theorem EQT_ok : ∀ p ∈ EQT, EqOk Try.prog TT p.1 p.2 := by
  simp only [EQT, List.forall_mem_cons]
  exact ⟨eqok_40, by simp⟩
end Go.Proofs.Ytgmlkhfjhogdbaa
