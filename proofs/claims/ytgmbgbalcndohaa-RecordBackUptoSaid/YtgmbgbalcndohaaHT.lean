/- The named structs of the program, as typed values. Written by gen/tg.py. -/
import Derived.Test.YtgmbgbalcndohaaHJ
import Derived.Test.YtgmbgbalcndohaaTT
namespace Go.Proofs.Ytgmbgbalcndohaa
open Go.RowKit P
set_option linter.unusedVariables false
set_option linter.unusedSimpArgs false
structure VboundsError where
  x : Int
  y : Int
  signed : Bool
  code : UInt8
structure VerrorAddressString where
  msg : List UInt8
  addr : Int
structure VLabel where
  Name : List UInt8
  Value : List UInt8
structure VRef where
  Ref : Int
  Labels : List VLabel
structure VPoint where
  Ref : Int
  Time : Int
  Bits : Int
structure VRecord where
  Kind : Int
  Refs : List VRef
  Points : List VPoint
structure Vreader where
  s : List UInt8
structure VCursor where
  S : List UInt8
  Bad : Bool
def ET : Nat → Type
  | 0 => VboundsError
  | 1 => VerrorAddressString
  | 2 => VLabel
  | 3 => VRef
  | 4 => VPoint
  | 5 => VRecord
  | 6 => Vreader
  | 7 => VCursor
  | _ => Unit
def enc_VboundsError (z : VboundsError) : List AV := [.v (.int .i64 z.x)] ++ [.v (.int .i64 z.y)] ++ [.v (.bool z.signed)] ++ [.v (.int .u8 (UInt8.toNat z.code))]
def enc_VerrorAddressString (z : VerrorAddressString) : List AV := [.v (.string (mkB z.msg))] ++ [.v (.int .u64 z.addr)]
def enc_VLabel (z : VLabel) : List AV := [.v (.string (mkB z.Name))] ++ [.v (.string (mkB z.Value))]
def enc_VRef (z : VRef) : List AV := [.v (.int .i64 z.Ref)] ++ [.sl false 2 (List.map (fun x => enc_VLabel x) z.Labels)]
def enc_VPoint (z : VPoint) : List AV := [.v (.int .i64 z.Ref)] ++ [.v (.int .i64 z.Time)] ++ [.v (.int .u64 z.Bits)]
def enc_VRecord (z : VRecord) : List AV := [.v (.int .i64 z.Kind)] ++ [.sl false 2 (List.map (fun x => enc_VRef x) z.Refs)] ++ [.sl false 3 (List.map (fun x => enc_VPoint x) z.Points)]
def enc_Vreader (z : Vreader) : List AV := [.v (.string (mkB z.s))]
def enc_VCursor (z : VCursor) : List AV := [.v (.string (mkB z.S))] ++ [.v (.bool z.Bad)]
def encE : ∀ i, ET i → List AV
  | 0, z => enc_VboundsError z
  | 1, z => enc_VerrorAddressString z
  | 2, z => enc_VLabel z
  | 3, z => enc_VRef z
  | 4, z => enc_VPoint z
  | 5, z => enc_VRecord z
  | 6, z => enc_Vreader z
  | 7, z => enc_VCursor z
  | _ + 8, _ => []
def szE : Nat → Nat
  | 0 => 4
  | 1 => 2
  | 2 => 2
  | 3 => 2
  | 4 => 3
  | 5 => 3
  | 6 => 1
  | 7 => 2
  | _ => 0
def ECC : Enc where
  T := ET
  enc := encE
  sz := szE
  len := fun i z => match i, z with
    | 0, z => rfl
    | 1, z => rfl
    | 2, z => rfl
    | 3, z => rfl
    | 4, z => rfl
    | 5, z => rfl
    | 6, z => rfl
    | 7, z => rfl
    | _ + 8, _ => rfl
  one := fun i z => match i, z with
    | 0, z => by intro u hu; simp only [encE, enc_VboundsError, enc_VerrorAddressString, enc_VLabel, enc_VRef, enc_VPoint, enc_VRecord, enc_Vreader, enc_VCursor, List.cons_append, List.nil_append, List.mem_cons, List.not_mem_nil, or_false] at hu; rcases hu with rfl | rfl | rfl | rfl <;> exact ⟨rfl, rfl⟩
    | 1, z => by intro u hu; simp only [encE, enc_VboundsError, enc_VerrorAddressString, enc_VLabel, enc_VRef, enc_VPoint, enc_VRecord, enc_Vreader, enc_VCursor, List.cons_append, List.nil_append, List.mem_cons, List.not_mem_nil, or_false] at hu; rcases hu with rfl | rfl <;> exact ⟨rfl, rfl⟩
    | 2, z => by intro u hu; simp only [encE, enc_VboundsError, enc_VerrorAddressString, enc_VLabel, enc_VRef, enc_VPoint, enc_VRecord, enc_Vreader, enc_VCursor, List.cons_append, List.nil_append, List.mem_cons, List.not_mem_nil, or_false] at hu; rcases hu with rfl | rfl <;> exact ⟨rfl, rfl⟩
    | 3, z => by intro u hu; simp only [encE, enc_VboundsError, enc_VerrorAddressString, enc_VLabel, enc_VRef, enc_VPoint, enc_VRecord, enc_Vreader, enc_VCursor, List.cons_append, List.nil_append, List.mem_cons, List.not_mem_nil, or_false] at hu; rcases hu with rfl | rfl <;> exact ⟨rfl, rfl⟩
    | 4, z => by intro u hu; simp only [encE, enc_VboundsError, enc_VerrorAddressString, enc_VLabel, enc_VRef, enc_VPoint, enc_VRecord, enc_Vreader, enc_VCursor, List.cons_append, List.nil_append, List.mem_cons, List.not_mem_nil, or_false] at hu; rcases hu with rfl | rfl | rfl <;> exact ⟨rfl, rfl⟩
    | 5, z => by intro u hu; simp only [encE, enc_VboundsError, enc_VerrorAddressString, enc_VLabel, enc_VRef, enc_VPoint, enc_VRecord, enc_Vreader, enc_VCursor, List.cons_append, List.nil_append, List.mem_cons, List.not_mem_nil, or_false] at hu; rcases hu with rfl | rfl | rfl <;> exact ⟨rfl, rfl⟩
    | 6, z => by intro u hu; simp only [encE, enc_VboundsError, enc_VerrorAddressString, enc_VLabel, enc_VRef, enc_VPoint, enc_VRecord, enc_Vreader, enc_VCursor, List.cons_append, List.nil_append, List.mem_cons, List.not_mem_nil, or_false] at hu; rcases hu with rfl <;> exact ⟨rfl, rfl⟩
    | 7, z => by intro u hu; simp only [encE, enc_VboundsError, enc_VerrorAddressString, enc_VLabel, enc_VRef, enc_VPoint, enc_VRecord, enc_Vreader, enc_VCursor, List.cons_append, List.nil_append, List.mem_cons, List.not_mem_nil, or_false] at hu; rcases hu with rfl | rfl <;> exact ⟨rfl, rfl⟩
    | _ + 8, _ => by intro u hu; cases hu
def unpE : ∀ i, ET i → List (TA ET)
  | 0, z => [.d (.int .i64) z.x, .d (.int .i64) z.y, .d .bool z.signed, .d .byte z.code]
  | 1, z => [.d .str z.msg, .d (.int .u64) z.addr]
  | 2, z => [.d .str z.Name, .d .str z.Value]
  | 3, z => [.d (.int .i64) z.Ref, .d (.sl (.nam 2)) z.Labels]
  | 4, z => [.d (.int .i64) z.Ref, .d (.int .i64) z.Time, .d (.int .u64) z.Bits]
  | 5, z => [.d (.int .i64) z.Kind, .d (.sl (.nam 3)) z.Refs, .d (.sl (.nam 4)) z.Points]
  | 6, z => [.d .str z.s]
  | 7, z => [.d .str z.S, .d .bool z.Bad]
  | _ + 8, _ => []
def pk_VboundsError (l : List (TA ET)) : Option (VboundsError × List (TA ET)) :=
  match pkL (.int .i64) l with
  | none => none
  | some (a0, l) =>
    match pkL (.int .i64) l with
    | none => none
    | some (a1, l) =>
      match pkL .bool l with
      | none => none
      | some (a2, l) =>
        match pkL .byte l with
        | none => none
        | some (a3, l) =>
          some (⟨a0, a1, a2, a3⟩, l)
theorem pk_VboundsError_to (l : List (TA ET)) (z : VboundsError) (r : List (TA ET)) (ρ : Nat → Nat) (h : pk_VboundsError l = some (z, r)) : LeL (l.map fun a => (a.rd.to ECC ρ)) (enc_VboundsError z ++ r.map fun a => (a.rd.to ECC ρ)) := by
  unfold pk_VboundsError at h
  split at h
  · cases h
  · rename_i a0 l0 h0
    split at h
    · cases h
    · rename_i a1 l1 h1
      split at h
      · cases h
      · rename_i a2 l2 h2
        split at h
        · cases h
        · rename_i a3 l3 h3
          cases h
          have hh := (pkL_to ECC ρ rfl h0).trans ((LeL.refl _).append ((pkL_to ECC ρ rfl h1).trans ((LeL.refl _).append ((pkL_to ECC ρ rfl h2).trans ((LeL.refl _).append (pkL_to ECC ρ rfl h3))))))
          exact hh
def pk_VerrorAddressString (l : List (TA ET)) : Option (VerrorAddressString × List (TA ET)) :=
  match pkL .str l with
  | none => none
  | some (a0, l) =>
    match pkL (.int .u64) l with
    | none => none
    | some (a1, l) =>
      some (⟨a0, a1⟩, l)
theorem pk_VerrorAddressString_to (l : List (TA ET)) (z : VerrorAddressString) (r : List (TA ET)) (ρ : Nat → Nat) (h : pk_VerrorAddressString l = some (z, r)) : LeL (l.map fun a => (a.rd.to ECC ρ)) (enc_VerrorAddressString z ++ r.map fun a => (a.rd.to ECC ρ)) := by
  unfold pk_VerrorAddressString at h
  split at h
  · cases h
  · rename_i a0 l0 h0
    split at h
    · cases h
    · rename_i a1 l1 h1
      cases h
      have hh := (pkL_to ECC ρ rfl h0).trans ((LeL.refl _).append (pkL_to ECC ρ rfl h1))
      exact hh
def pk_VLabel (l : List (TA ET)) : Option (VLabel × List (TA ET)) :=
  match pkL .str l with
  | none => none
  | some (a0, l) =>
    match pkL .str l with
    | none => none
    | some (a1, l) =>
      some (⟨a0, a1⟩, l)
theorem pk_VLabel_to (l : List (TA ET)) (z : VLabel) (r : List (TA ET)) (ρ : Nat → Nat) (h : pk_VLabel l = some (z, r)) : LeL (l.map fun a => (a.rd.to ECC ρ)) (enc_VLabel z ++ r.map fun a => (a.rd.to ECC ρ)) := by
  unfold pk_VLabel at h
  split at h
  · cases h
  · rename_i a0 l0 h0
    split at h
    · cases h
    · rename_i a1 l1 h1
      cases h
      have hh := (pkL_to ECC ρ rfl h0).trans ((LeL.refl _).append (pkL_to ECC ρ rfl h1))
      exact hh
def pk_VRef (l : List (TA ET)) : Option (VRef × List (TA ET)) :=
  match pkL (.int .i64) l with
  | none => none
  | some (a0, l) =>
    match pkL (.sl (.nam 2)) l with
    | none => none
    | some (a1, l) =>
      some (⟨a0, a1⟩, l)
theorem pk_VRef_to (l : List (TA ET)) (z : VRef) (r : List (TA ET)) (ρ : Nat → Nat) (h : pk_VRef l = some (z, r)) : LeL (l.map fun a => (a.rd.to ECC ρ)) (enc_VRef z ++ r.map fun a => (a.rd.to ECC ρ)) := by
  unfold pk_VRef at h
  split at h
  · cases h
  · rename_i a0 l0 h0
    split at h
    · cases h
    · rename_i a1 l1 h1
      cases h
      have hh := (pkL_to ECC ρ rfl h0).trans ((LeL.refl _).append (pkL_to ECC ρ rfl h1))
      exact hh
def pk_VPoint (l : List (TA ET)) : Option (VPoint × List (TA ET)) :=
  match pkL (.int .i64) l with
  | none => none
  | some (a0, l) =>
    match pkL (.int .i64) l with
    | none => none
    | some (a1, l) =>
      match pkL (.int .u64) l with
      | none => none
      | some (a2, l) =>
        some (⟨a0, a1, a2⟩, l)
theorem pk_VPoint_to (l : List (TA ET)) (z : VPoint) (r : List (TA ET)) (ρ : Nat → Nat) (h : pk_VPoint l = some (z, r)) : LeL (l.map fun a => (a.rd.to ECC ρ)) (enc_VPoint z ++ r.map fun a => (a.rd.to ECC ρ)) := by
  unfold pk_VPoint at h
  split at h
  · cases h
  · rename_i a0 l0 h0
    split at h
    · cases h
    · rename_i a1 l1 h1
      split at h
      · cases h
      · rename_i a2 l2 h2
        cases h
        have hh := (pkL_to ECC ρ rfl h0).trans ((LeL.refl _).append ((pkL_to ECC ρ rfl h1).trans ((LeL.refl _).append (pkL_to ECC ρ rfl h2))))
        exact hh
def pk_VRecord (l : List (TA ET)) : Option (VRecord × List (TA ET)) :=
  match pkL (.int .i64) l with
  | none => none
  | some (a0, l) =>
    match pkL (.sl (.nam 3)) l with
    | none => none
    | some (a1, l) =>
      match pkL (.sl (.nam 4)) l with
      | none => none
      | some (a2, l) =>
        some (⟨a0, a1, a2⟩, l)
theorem pk_VRecord_to (l : List (TA ET)) (z : VRecord) (r : List (TA ET)) (ρ : Nat → Nat) (h : pk_VRecord l = some (z, r)) : LeL (l.map fun a => (a.rd.to ECC ρ)) (enc_VRecord z ++ r.map fun a => (a.rd.to ECC ρ)) := by
  unfold pk_VRecord at h
  split at h
  · cases h
  · rename_i a0 l0 h0
    split at h
    · cases h
    · rename_i a1 l1 h1
      split at h
      · cases h
      · rename_i a2 l2 h2
        cases h
        have hh := (pkL_to ECC ρ rfl h0).trans ((LeL.refl _).append ((pkL_to ECC ρ rfl h1).trans ((LeL.refl _).append (pkL_to ECC ρ rfl h2))))
        exact hh
def pk_Vreader (l : List (TA ET)) : Option (Vreader × List (TA ET)) :=
  match pkL .str l with
  | none => none
  | some (a0, l) =>
    some (⟨a0⟩, l)
theorem pk_Vreader_to (l : List (TA ET)) (z : Vreader) (r : List (TA ET)) (ρ : Nat → Nat) (h : pk_Vreader l = some (z, r)) : LeL (l.map fun a => (a.rd.to ECC ρ)) (enc_Vreader z ++ r.map fun a => (a.rd.to ECC ρ)) := by
  unfold pk_Vreader at h
  split at h
  · cases h
  · rename_i a0 l0 h0
    cases h
    have hh := pkL_to ECC ρ rfl h0
    exact hh
def pk_VCursor (l : List (TA ET)) : Option (VCursor × List (TA ET)) :=
  match pkL .str l with
  | none => none
  | some (a0, l) =>
    match pkL .bool l with
    | none => none
    | some (a1, l) =>
      some (⟨a0, a1⟩, l)
theorem pk_VCursor_to (l : List (TA ET)) (z : VCursor) (r : List (TA ET)) (ρ : Nat → Nat) (h : pk_VCursor l = some (z, r)) : LeL (l.map fun a => (a.rd.to ECC ρ)) (enc_VCursor z ++ r.map fun a => (a.rd.to ECC ρ)) := by
  unfold pk_VCursor at h
  split at h
  · cases h
  · rename_i a0 l0 h0
    split at h
    · cases h
    · rename_i a1 l1 h1
      cases h
      have hh := (pkL_to ECC ρ rfl h0).trans ((LeL.refl _).append (pkL_to ECC ρ rfl h1))
      exact hh
def EE : Env where
  toEnc := ECC
  unp := unpE
  unp_to := fun i z ρ => match i, z with
    | 0, z => rfl
    | 1, z => rfl
    | 2, z => rfl
    | 3, z => rfl
    | 4, z => rfl
    | 5, z => rfl
    | 6, z => rfl
    | 7, z => rfl
    | _ + 8, _ => rfl
  pk := fun i l => match i with
    | 0 => pk_VboundsError l
    | 1 => pk_VerrorAddressString l
    | 2 => pk_VLabel l
    | 3 => pk_VRef l
    | 4 => pk_VPoint l
    | 5 => pk_VRecord l
    | 6 => pk_Vreader l
    | 7 => pk_VCursor l
    | _ => none
  pk_to := fun i l z r ρ h => match i, z, h with
    | 0, z, h => pk_VboundsError_to l z r ρ h
    | 1, z, h => pk_VerrorAddressString_to l z r ρ h
    | 2, z, h => pk_VLabel_to l z r ρ h
    | 3, z, h => pk_VRef_to l z r ρ h
    | 4, z, h => pk_VPoint_to l z r ρ h
    | 5, z, h => pk_VRecord_to l z r ρ h
    | 6, z, h => pk_Vreader_to l z r ρ h
    | 7, z, h => pk_VCursor_to l z r ρ h
    | _ + 8, z, h => by cases h
  et := [(22, (.sl (.nam 3))), (23, (.sl (.nam 4))), (39, (.sl .byte)), (41, (.sl (.nam 2)))]
  ct := [(22, [(.sl (.nam 3))]), (23, [(.sl (.nam 4))]), (24, [(.int .i64), (.sl (.nam 3)), (.sl (.nam 4))]), (25, [(.int .i64), (.sl (.nam 3)), (.sl (.nam 4))]), (39, [(.sl .byte)]), (41, [(.sl (.nam 2))]), (42, [(.int .i64), (.sl (.nam 2))]), (43, [(.int .i64), (.sl (.nam 2))])]
def EQT : List (Nat × List Ty) := [(45, [.str, .str]), (49, [(.int .i64), (.int .i64), (.int .u64)]), (58, [.str]), (62, [.str, .bool])]
theorem eqok_45 : EqOk Try.prog TT 45 [.str, .str] := ⟨by kernel_rfl, by kernel_rfl, by kernel_rfl, by kernel_rfl⟩
theorem eqok_49 : EqOk Try.prog TT 49 [(.int .i64), (.int .i64), (.int .u64)] := ⟨by kernel_rfl, by kernel_rfl, by kernel_rfl, by kernel_rfl⟩
theorem eqok_58 : EqOk Try.prog TT 58 [.str] := ⟨by kernel_rfl, by kernel_rfl, by kernel_rfl, by kernel_rfl⟩
theorem eqok_62 : EqOk Try.prog TT 62 [.str, .bool] := ⟨by kernel_rfl, by kernel_rfl, by kernel_rfl, by kernel_rfl⟩
theorem EQT_ok : ∀ p ∈ EQT, EqOk Try.prog TT p.1 p.2 := by
  simp only [EQT, List.forall_mem_cons]
  exact ⟨eqok_45, eqok_49, eqok_58, eqok_62, by simp⟩
end Go.Proofs.Ytgmbgbalcndohaa
