/- The named structs of the program, as typed values. Written by gen/tg.py. -/
import Derived.Test.YtmoehipmpchofaaHJ
import Derived.Test.YtmoehipmpchofaaTT
namespace Go.Proofs.Ytmoehipmpchofaa
open Go.RowKit P
set_option linter.unusedVariables false
set_option linter.unusedSimpArgs false
structure VboundsError where
  x : Int
  y : Int
  signed : Bool
  code : UInt8
structure VerrorAddressString where
  msg : List UInt8
  addr : Int
structure VLabel where
  Name : List UInt8
  Value : List UInt8
structure VSample where
  Time : Int
  Bits : Int
structure VSeries where
  Labels : List VLabel
  Samples : List VSample
structure VField where
  Number : Int
  Kind : Int
  N : Int
  Bytes : List UInt8
structure Vreader where
  s : List UInt8
  out : List UInt8
  most : Int
structure Vvalue where
  number : Int
  kind : Int
  n : Int
  bytes : List UInt8
def ET : Nat → Type
  | 0 => VboundsError
  | 1 => VerrorAddressString
  | 2 => VLabel
  | 3 => VSample
  | 4 => VSeries
  | 5 => VField
  | 6 => Vreader
  | 7 => Vvalue
  | _ => Unit
def enc_VboundsError (z : VboundsError) : List AV := [.v (.int .i64 z.x)] ++ [.v (.int .i64 z.y)] ++ [.v (.bool z.signed)] ++ [.v (.int .u8 (UInt8.toNat z.code))]
def enc_VerrorAddressString (z : VerrorAddressString) : List AV := [.v (.string (mkB z.msg))] ++ [.v (.int .u64 z.addr)]
def enc_VLabel (z : VLabel) : List AV := [.v (.string (mkB z.Name))] ++ [.v (.string (mkB z.Value))]
def enc_VSample (z : VSample) : List AV := [.v (.int .i64 z.Time)] ++ [.v (.int .u64 z.Bits)]
def enc_VSeries (z : VSeries) : List AV := [.sl false 2 (List.map (fun x => enc_VLabel x) z.Labels)] ++ [.sl false 2 (List.map (fun x => enc_VSample x) z.Samples)]
def enc_VField (z : VField) : List AV := [.v (.int .i64 z.Number)] ++ [.v (.int .i64 z.Kind)] ++ [.v (.int .u64 z.N)] ++ [.v (.string (mkB z.Bytes))]
def enc_Vreader (z : Vreader) : List AV := [.v (.string (mkB z.s))] ++ [.sl false 1 (List.map (fun x => [.v (.int .u8 (UInt8.toNat x))]) z.out)] ++ [.v (.int .i64 z.most)]
def enc_Vvalue (z : Vvalue) : List AV := [.v (.int .i64 z.number)] ++ [.v (.int .i64 z.kind)] ++ [.v (.int .u64 z.n)] ++ [.v (.string (mkB z.bytes))]
def encE : ∀ i, ET i → List AV
  | 0, z => enc_VboundsError z
  | 1, z => enc_VerrorAddressString z
  | 2, z => enc_VLabel z
  | 3, z => enc_VSample z
  | 4, z => enc_VSeries z
  | 5, z => enc_VField z
  | 6, z => enc_Vreader z
  | 7, z => enc_Vvalue z
  | _ + 8, _ => []
def szE : Nat → Nat
  | 0 => 4
  | 1 => 2
  | 2 => 2
  | 3 => 2
  | 4 => 2
  | 5 => 4
  | 6 => 3
  | 7 => 4
  | _ => 0
def ECC : Enc where
  T := ET
  enc := encE
  sz := szE
  len := fun i z => match i, z with
    | 0, z => rfl
    | 1, z => rfl
    | 2, z => rfl
    | 3, z => rfl
    | 4, z => rfl
    | 5, z => rfl
    | 6, z => rfl
    | 7, z => rfl
    | _ + 8, _ => rfl
  one := fun i z => match i, z with
    | 0, z => by intro u hu; simp only [encE, enc_VboundsError, enc_VerrorAddressString, enc_VLabel, enc_VSample, enc_VSeries, enc_VField, enc_Vreader, enc_Vvalue, List.cons_append, List.nil_append, List.mem_cons, List.not_mem_nil, or_false] at hu; rcases hu with rfl | rfl | rfl | rfl <;> exact ⟨rfl, rfl⟩
    | 1, z => by intro u hu; simp only [encE, enc_VboundsError, enc_VerrorAddressString, enc_VLabel, enc_VSample, enc_VSeries, enc_VField, enc_Vreader, enc_Vvalue, List.cons_append, List.nil_append, List.mem_cons, List.not_mem_nil, or_false] at hu; rcases hu with rfl | rfl <;> exact ⟨rfl, rfl⟩
    | 2, z => by intro u hu; simp only [encE, enc_VboundsError, enc_VerrorAddressString, enc_VLabel, enc_VSample, enc_VSeries, enc_VField, enc_Vreader, enc_Vvalue, List.cons_append, List.nil_append, List.mem_cons, List.not_mem_nil, or_false] at hu; rcases hu with rfl | rfl <;> exact ⟨rfl, rfl⟩
    | 3, z => by intro u hu; simp only [encE, enc_VboundsError, enc_VerrorAddressString, enc_VLabel, enc_VSample, enc_VSeries, enc_VField, enc_Vreader, enc_Vvalue, List.cons_append, List.nil_append, List.mem_cons, List.not_mem_nil, or_false] at hu; rcases hu with rfl | rfl <;> exact ⟨rfl, rfl⟩
    | 4, z => by intro u hu; simp only [encE, enc_VboundsError, enc_VerrorAddressString, enc_VLabel, enc_VSample, enc_VSeries, enc_VField, enc_Vreader, enc_Vvalue, List.cons_append, List.nil_append, List.mem_cons, List.not_mem_nil, or_false] at hu; rcases hu with rfl | rfl <;> exact ⟨rfl, rfl⟩
    | 5, z => by intro u hu; simp only [encE, enc_VboundsError, enc_VerrorAddressString, enc_VLabel, enc_VSample, enc_VSeries, enc_VField, enc_Vreader, enc_Vvalue, List.cons_append, List.nil_append, List.mem_cons, List.not_mem_nil, or_false] at hu; rcases hu with rfl | rfl | rfl | rfl <;> exact ⟨rfl, rfl⟩
    | 6, z => by intro u hu; simp only [encE, enc_VboundsError, enc_VerrorAddressString, enc_VLabel, enc_VSample, enc_VSeries, enc_VField, enc_Vreader, enc_Vvalue, List.cons_append, List.nil_append, List.mem_cons, List.not_mem_nil, or_false] at hu; rcases hu with rfl | rfl | rfl <;> exact ⟨rfl, rfl⟩
    | 7, z => by intro u hu; simp only [encE, enc_VboundsError, enc_VerrorAddressString, enc_VLabel, enc_VSample, enc_VSeries, enc_VField, enc_Vreader, enc_Vvalue, List.cons_append, List.nil_append, List.mem_cons, List.not_mem_nil, or_false] at hu; rcases hu with rfl | rfl | rfl | rfl <;> exact ⟨rfl, rfl⟩
    | _ + 8, _ => by intro u hu; cases hu
def unpE : ∀ i, ET i → List (TA ET)
  | 0, z => [.d (.int .i64) z.x, .d (.int .i64) z.y, .d .bool z.signed, .d .byte z.code]
  | 1, z => [.d .str z.msg, .d (.int .u64) z.addr]
  | 2, z => [.d .str z.Name, .d .str z.Value]
  | 3, z => [.d (.int .i64) z.Time, .d (.int .u64) z.Bits]
  | 4, z => [.d (.sl (.nam 2)) z.Labels, .d (.sl (.nam 3)) z.Samples]
  | 5, z => [.d (.int .i64) z.Number, .d (.int .i64) z.Kind, .d (.int .u64) z.N, .d .str z.Bytes]
  | 6, z => [.d .str z.s, .d (.sl .byte) z.out, .d (.int .i64) z.most]
  | 7, z => [.d (.int .i64) z.number, .d (.int .i64) z.kind, .d (.int .u64) z.n, .d .str z.bytes]
  | _ + 8, _ => []
def pk_VboundsError (l : List (TA ET)) : Option (VboundsError × List (TA ET)) :=
  match pkL (.int .i64) l with
  | none => none
  | some (a0, l) =>
    match pkL (.int .i64) l with
    | none => none
    | some (a1, l) =>
      match pkL .bool l with
      | none => none
      | some (a2, l) =>
        match pkL .byte l with
        | none => none
        | some (a3, l) =>
          some (⟨a0, a1, a2, a3⟩, l)
theorem pk_VboundsError_to (l : List (TA ET)) (z : VboundsError) (r : List (TA ET)) (ρ : Nat → Nat) (h : pk_VboundsError l = some (z, r)) : LeL (l.map fun a => (a.rd.to ECC ρ)) (enc_VboundsError z ++ r.map fun a => (a.rd.to ECC ρ)) := by
  unfold pk_VboundsError at h
  split at h
  · cases h
  · rename_i a0 l0 h0
    split at h
    · cases h
    · rename_i a1 l1 h1
      split at h
      · cases h
      · rename_i a2 l2 h2
        split at h
        · cases h
        · rename_i a3 l3 h3
          cases h
          have hh := (pkL_to ECC ρ rfl h0).trans ((LeL.refl _).append ((pkL_to ECC ρ rfl h1).trans ((LeL.refl _).append ((pkL_to ECC ρ rfl h2).trans ((LeL.refl _).append (pkL_to ECC ρ rfl h3))))))
          exact hh
def pk_VerrorAddressString (l : List (TA ET)) : Option (VerrorAddressString × List (TA ET)) :=
  match pkL .str l with
  | none => none
  | some (a0, l) =>
    match pkL (.int .u64) l with
    | none => none
    | some (a1, l) =>
      some (⟨a0, a1⟩, l)
theorem pk_VerrorAddressString_to (l : List (TA ET)) (z : VerrorAddressString) (r : List (TA ET)) (ρ : Nat → Nat) (h : pk_VerrorAddressString l = some (z, r)) : LeL (l.map fun a => (a.rd.to ECC ρ)) (enc_VerrorAddressString z ++ r.map fun a => (a.rd.to ECC ρ)) := by
  unfold pk_VerrorAddressString at h
  split at h
  · cases h
  · rename_i a0 l0 h0
    split at h
    · cases h
    · rename_i a1 l1 h1
      cases h
      have hh := (pkL_to ECC ρ rfl h0).trans ((LeL.refl _).append (pkL_to ECC ρ rfl h1))
      exact hh
def pk_VLabel (l : List (TA ET)) : Option (VLabel × List (TA ET)) :=
  match pkL .str l with
  | none => none
  | some (a0, l) =>
    match pkL .str l with
    | none => none
    | some (a1, l) =>
      some (⟨a0, a1⟩, l)
theorem pk_VLabel_to (l : List (TA ET)) (z : VLabel) (r : List (TA ET)) (ρ : Nat → Nat) (h : pk_VLabel l = some (z, r)) : LeL (l.map fun a => (a.rd.to ECC ρ)) (enc_VLabel z ++ r.map fun a => (a.rd.to ECC ρ)) := by
  unfold pk_VLabel at h
  split at h
  · cases h
  · rename_i a0 l0 h0
    split at h
    · cases h
    · rename_i a1 l1 h1
      cases h
      have hh := (pkL_to ECC ρ rfl h0).trans ((LeL.refl _).append (pkL_to ECC ρ rfl h1))
      exact hh
def pk_VSample (l : List (TA ET)) : Option (VSample × List (TA ET)) :=
  match pkL (.int .i64) l with
  | none => none
  | some (a0, l) =>
    match pkL (.int .u64) l with
    | none => none
    | some (a1, l) =>
      some (⟨a0, a1⟩, l)
theorem pk_VSample_to (l : List (TA ET)) (z : VSample) (r : List (TA ET)) (ρ : Nat → Nat) (h : pk_VSample l = some (z, r)) : LeL (l.map fun a => (a.rd.to ECC ρ)) (enc_VSample z ++ r.map fun a => (a.rd.to ECC ρ)) := by
  unfold pk_VSample at h
  split at h
  · cases h
  · rename_i a0 l0 h0
    split at h
    · cases h
    · rename_i a1 l1 h1
      cases h
      have hh := (pkL_to ECC ρ rfl h0).trans ((LeL.refl _).append (pkL_to ECC ρ rfl h1))
      exact hh
def pk_VSeries (l : List (TA ET)) : Option (VSeries × List (TA ET)) :=
  match pkL (.sl (.nam 2)) l with
  | none => none
  | some (a0, l) =>
    match pkL (.sl (.nam 3)) l with
    | none => none
    | some (a1, l) =>
      some (⟨a0, a1⟩, l)
theorem pk_VSeries_to (l : List (TA ET)) (z : VSeries) (r : List (TA ET)) (ρ : Nat → Nat) (h : pk_VSeries l = some (z, r)) : LeL (l.map fun a => (a.rd.to ECC ρ)) (enc_VSeries z ++ r.map fun a => (a.rd.to ECC ρ)) := by
  unfold pk_VSeries at h
  split at h
  · cases h
  · rename_i a0 l0 h0
    split at h
    · cases h
    · rename_i a1 l1 h1
      cases h
      have hh := (pkL_to ECC ρ rfl h0).trans ((LeL.refl _).append (pkL_to ECC ρ rfl h1))
      exact hh
def pk_VField (l : List (TA ET)) : Option (VField × List (TA ET)) :=
  match pkL (.int .i64) l with
  | none => none
  | some (a0, l) =>
    match pkL (.int .i64) l with
    | none => none
    | some (a1, l) =>
      match pkL (.int .u64) l with
      | none => none
      | some (a2, l) =>
        match pkL .str l with
        | none => none
        | some (a3, l) =>
          some (⟨a0, a1, a2, a3⟩, l)
theorem pk_VField_to (l : List (TA ET)) (z : VField) (r : List (TA ET)) (ρ : Nat → Nat) (h : pk_VField l = some (z, r)) : LeL (l.map fun a => (a.rd.to ECC ρ)) (enc_VField z ++ r.map fun a => (a.rd.to ECC ρ)) := by
  unfold pk_VField at h
  split at h
  · cases h
  · rename_i a0 l0 h0
    split at h
    · cases h
    · rename_i a1 l1 h1
      split at h
      · cases h
      · rename_i a2 l2 h2
        split at h
        · cases h
        · rename_i a3 l3 h3
          cases h
          have hh := (pkL_to ECC ρ rfl h0).trans ((LeL.refl _).append ((pkL_to ECC ρ rfl h1).trans ((LeL.refl _).append ((pkL_to ECC ρ rfl h2).trans ((LeL.refl _).append (pkL_to ECC ρ rfl h3))))))
          exact hh
def pk_Vreader (l : List (TA ET)) : Option (Vreader × List (TA ET)) :=
  match pkL .str l with
  | none => none
  | some (a0, l) =>
    match pkL (.sl .byte) l with
    | none => none
    | some (a1, l) =>
      match pkL (.int .i64) l with
      | none => none
      | some (a2, l) =>
        some (⟨a0, a1, a2⟩, l)
theorem pk_Vreader_to (l : List (TA ET)) (z : Vreader) (r : List (TA ET)) (ρ : Nat → Nat) (h : pk_Vreader l = some (z, r)) : LeL (l.map fun a => (a.rd.to ECC ρ)) (enc_Vreader z ++ r.map fun a => (a.rd.to ECC ρ)) := by
  unfold pk_Vreader at h
  split at h
  · cases h
  · rename_i a0 l0 h0
    split at h
    · cases h
    · rename_i a1 l1 h1
      split at h
      · cases h
      · rename_i a2 l2 h2
        cases h
        have hh := (pkL_to ECC ρ rfl h0).trans ((LeL.refl _).append ((pkL_to ECC ρ rfl h1).trans ((LeL.refl _).append (pkL_to ECC ρ rfl h2))))
        exact hh
def pk_Vvalue (l : List (TA ET)) : Option (Vvalue × List (TA ET)) :=
  match pkL (.int .i64) l with
  | none => none
  | some (a0, l) =>
    match pkL (.int .i64) l with
    | none => none
    | some (a1, l) =>
      match pkL (.int .u64) l with
      | none => none
      | some (a2, l) =>
        match pkL .str l with
        | none => none
        | some (a3, l) =>
          some (⟨a0, a1, a2, a3⟩, l)
theorem pk_Vvalue_to (l : List (TA ET)) (z : Vvalue) (r : List (TA ET)) (ρ : Nat → Nat) (h : pk_Vvalue l = some (z, r)) : LeL (l.map fun a => (a.rd.to ECC ρ)) (enc_Vvalue z ++ r.map fun a => (a.rd.to ECC ρ)) := by
  unfold pk_Vvalue at h
  split at h
  · cases h
  · rename_i a0 l0 h0
    split at h
    · cases h
    · rename_i a1 l1 h1
      split at h
      · cases h
      · rename_i a2 l2 h2
        split at h
        · cases h
        · rename_i a3 l3 h3
          cases h
          have hh := (pkL_to ECC ρ rfl h0).trans ((LeL.refl _).append ((pkL_to ECC ρ rfl h1).trans ((LeL.refl _).append ((pkL_to ECC ρ rfl h2).trans ((LeL.refl _).append (pkL_to ECC ρ rfl h3))))))
          exact hh
def EE : Env where
  toEnc := ECC
  unp := unpE
  unp_to := fun i z ρ => match i, z with
    | 0, z => rfl
    | 1, z => rfl
    | 2, z => rfl
    | 3, z => rfl
    | 4, z => rfl
    | 5, z => rfl
    | 6, z => rfl
    | 7, z => rfl
    | _ + 8, _ => rfl
  pk := fun i l => match i with
    | 0 => pk_VboundsError l
    | 1 => pk_VerrorAddressString l
    | 2 => pk_VLabel l
    | 3 => pk_VSample l
    | 4 => pk_VSeries l
    | 5 => pk_VField l
    | 6 => pk_Vreader l
    | 7 => pk_Vvalue l
    | _ => none
  pk_to := fun i l z r ρ h => match i, z, h with
    | 0, z, h => pk_VboundsError_to l z r ρ h
    | 1, z, h => pk_VerrorAddressString_to l z r ρ h
    | 2, z, h => pk_VLabel_to l z r ρ h
    | 3, z, h => pk_VSample_to l z r ρ h
    | 4, z, h => pk_VSeries_to l z r ρ h
    | 5, z, h => pk_VField_to l z r ρ h
    | 6, z, h => pk_Vreader_to l z r ρ h
    | 7, z, h => pk_Vvalue_to l z r ρ h
    | _ + 8, z, h => by cases h
  et := [(22, (.sl (.nam 4))), (31, (.sl (.nam 2))), (32, (.sl (.nam 3))), (70, (.sl .byte)), (87, (.sl (.nam 5))), (99, (.sl (.int .i64)))]
  ct := [(22, [(.sl (.nam 4))]), (31, [(.sl (.nam 2))]), (32, [(.sl (.nam 3))]), (37, [(.sl (.nam 2)), (.sl (.nam 3))]), (38, [(.sl (.nam 2)), (.sl (.nam 3))]), (70, [(.sl .byte)]), (87, [(.sl (.nam 5))]), (95, [.str, (.sl .byte), (.int .i64)]), (96, [.str, (.sl .byte), (.int .i64)]), (99, [(.sl (.int .i64))])]
def EQT : List (Nat × List Ty) := [(47, [(.int .i64), (.int .u64)]), (64, [.str, .str]), (91, [(.int .i64), (.int .i64), (.int .u64), .str]), (105, [(.int .i64), (.int .i64), (.int .u64), .str])]
theorem eqok_47 : EqOk Try.prog TT 47 [(.int .i64), (.int .u64)] := ⟨by kernel_rfl, by kernel_rfl, by kernel_rfl, by kernel_rfl⟩
theorem eqok_64 : EqOk Try.prog TT 64 [.str, .str] := ⟨by kernel_rfl, by kernel_rfl, by kernel_rfl, by kernel_rfl⟩
theorem eqok_91 : EqOk Try.prog TT 91 [(.int .i64), (.int .i64), (.int .u64), .str] := ⟨by kernel_rfl, by kernel_rfl, by kernel_rfl, by kernel_rfl⟩
theorem eqok_105 : EqOk Try.prog TT 105 [(.int .i64), (.int .i64), (.int .u64), .str] := ⟨by kernel_rfl, by kernel_rfl, by kernel_rfl, by kernel_rfl⟩
theorem EQT_ok : ∀ p ∈ EQT, EqOk Try.prog TT p.1 p.2 := by
  simp only [EQT, List.forall_mem_cons]
  exact ⟨eqok_47, eqok_64, eqok_91, eqok_105, by simp⟩
end Go.Proofs.Ytmoehipmpchofaa
