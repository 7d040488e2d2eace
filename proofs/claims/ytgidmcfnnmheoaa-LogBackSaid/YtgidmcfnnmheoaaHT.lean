/- The named structs of the program, as typed values. Written by gen/tg.py. -/
import Derived.Test.YtgidmcfnnmheoaaHJ
import Derived.Test.YtgidmcfnnmheoaaTT
namespace Go.Proofs.Ytgidmcfnnmheoaa
open Go.RowKit P
set_option linter.unusedVariables false
set_option linter.unusedSimpArgs false
structure VboundsError where
  x : Int
  y : Int
  signed : Bool
  code : UInt8
structure VerrorAddressString where
  msg : List UInt8
  addr : Int
def ET : Nat → Type
  | 0 => VboundsError
  | 1 => VerrorAddressString
  | _ => Unit
def enc_VboundsError (z : VboundsError) : List AV := [.v (.int .i64 z.x)] ++ [.v (.int .i64 z.y)] ++ [.v (.bool z.signed)] ++ [.v (.int .u8 (UInt8.toNat z.code))]
def enc_VerrorAddressString (z : VerrorAddressString) : List AV := [.v (.string (mkB z.msg))] ++ [.v (.int .u64 z.addr)]
def encE : ∀ i, ET i → List AV
  | 0, z => enc_VboundsError z
  | 1, z => enc_VerrorAddressString z
  | _ + 2, _ => []
def szE : Nat → Nat
  | 0 => 4
  | 1 => 2
  | _ => 0
def ECC : Enc where
  T := ET
  enc := encE
  sz := szE
  len := fun i z => match i, z with
    | 0, z => rfl
    | 1, z => rfl
    | _ + 2, _ => rfl
  one := fun i z => match i, z with
    | 0, z => by intro u hu; simp only [encE, enc_VboundsError, enc_VerrorAddressString, List.cons_append, List.nil_append, List.mem_cons, List.not_mem_nil, or_false] at hu; rcases hu with rfl | rfl | rfl | rfl <;> exact ⟨rfl, rfl⟩
    | 1, z => by intro u hu; simp only [encE, enc_VboundsError, enc_VerrorAddressString, List.cons_append, List.nil_append, List.mem_cons, List.not_mem_nil, or_false] at hu; rcases hu with rfl | rfl <;> exact ⟨rfl, rfl⟩
    | _ + 2, _ => by intro u hu; cases hu
def unpE : ∀ i, ET i → List (TA ET)
  | 0, z => [.d (.int .i64) z.x, .d (.int .i64) z.y, .d .bool z.signed, .d .byte z.code]
  | 1, z => [.d .str z.msg, .d (.int .u64) z.addr]
  | _ + 2, _ => []
def pk_VboundsError (l : List (TA ET)) : Option (VboundsError × List (TA ET)) :=
  match pkL (.int .i64) l with
  | none => none
  | some (a0, l) =>
    match pkL (.int .i64) l with
    | none => none
    | some (a1, l) =>
      match pkL .bool l with
      | none => none
      | some (a2, l) =>
        match pkL .byte l with
        | none => none
        | some (a3, l) =>
          some (⟨a0, a1, a2, a3⟩, l)
theorem pk_VboundsError_to (l : List (TA ET)) (z : VboundsError) (r : List (TA ET)) (ρ : Nat → Nat) (h : pk_VboundsError l = some (z, r)) : LeL (l.map fun a => (a.rd.to ECC ρ)) (enc_VboundsError z ++ r.map fun a => (a.rd.to ECC ρ)) := by
  unfold pk_VboundsError at h
  split at h
  · cases h
  · rename_i a0 l0 h0
    split at h
    · cases h
    · rename_i a1 l1 h1
      split at h
      · cases h
      · rename_i a2 l2 h2
        split at h
        · cases h
        · rename_i a3 l3 h3
          cases h
          have hh := (pkL_to ECC ρ rfl h0).trans ((LeL.refl _).append ((pkL_to ECC ρ rfl h1).trans ((LeL.refl _).append ((pkL_to ECC ρ rfl h2).trans ((LeL.refl _).append (pkL_to ECC ρ rfl h3))))))
          exact hh
def pk_VerrorAddressString (l : List (TA ET)) : Option (VerrorAddressString × List (TA ET)) :=
  match pkL .str l with
  | none => none
  | some (a0, l) =>
    match pkL (.int .u64) l with
    | none => none
    | some (a1, l) =>
      some (⟨a0, a1⟩, l)
theorem pk_VerrorAddressString_to (l : List (TA ET)) (z : VerrorAddressString) (r : List (TA ET)) (ρ : Nat → Nat) (h : pk_VerrorAddressString l = some (z, r)) : LeL (l.map fun a => (a.rd.to ECC ρ)) (enc_VerrorAddressString z ++ r.map fun a => (a.rd.to ECC ρ)) := by
  unfold pk_VerrorAddressString at h
  split at h
  · cases h
  · rename_i a0 l0 h0
    split at h
    · cases h
    · rename_i a1 l1 h1
      cases h
      have hh := (pkL_to ECC ρ rfl h0).trans ((LeL.refl _).append (pkL_to ECC ρ rfl h1))
      exact hh
def EE : Env where
  toEnc := ECC
  unp := unpE
  unp_to := fun i z ρ => match i, z with
    | 0, z => rfl
    | 1, z => rfl
    | _ + 2, _ => rfl
  pk := fun i l => match i with
    | 0 => pk_VboundsError l
    | 1 => pk_VerrorAddressString l
    | _ => none
  pk_to := fun i l z r ρ h => match i, z, h with
    | 0, z, h => pk_VboundsError_to l z r ρ h
    | 1, z, h => pk_VerrorAddressString_to l z r ρ h
    | _ + 2, z, h => by cases h
  et := [(32, (.sl .str)), (35, (.sl (.int .i64))), (43, (.sl .byte))]
  ct := [(32, [(.sl .str)]), (35, [(.sl (.int .i64))]), (43, [(.sl .byte)]), (46, [.bool, (.sl .byte)]), (47, [.bool, (.sl .byte)])]
def EQT : List (Nat × List Ty) := []
theorem EQT_ok : ∀ p ∈ EQT, EqOk Try.prog TT p.1 p.2 := fun p hp => by cases hp
end Go.Proofs.Ytgidmcfnnmheoaa
