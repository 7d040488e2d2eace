-- slim: written by gen/slim.py from XP.lean.tpl
/- Plain mathematics of the wire's numbers: bytes of a number, and reading them again. No program in sight. -/
namespace Go.Proofs.Ytgmlkhfjhogdbaa.P

/-- A string of bytes. -/
def mkB (l : List UInt8) : ByteArray := ⟨l.toArray⟩
theorem size_mkB (l : List UInt8) : (mkB l).size = l.length := by show l.toArray.size = _; simp
theorem mkB_append (a b : List UInt8) : mkB (a ++ b) = mkB a ++ mkB b := by
  apply ByteArray.ext; show (a ++ b).toArray = (mkB a ++ mkB b).data; rw [ByteArray.data_append]; simp [mkB]
theorem size_bs (s : ByteArray) : s.data.toList.length = s.size := by rw [Array.length_toList]; rfl
/-- Seven bits each, the lowest first. -/
def hv : List UInt8 → Nat
  | [] => 0
  | c :: t => c.toNat % 128 + 128 * hv t
/-- Reading a number: (number, how many bytes, errno). -/
def rdF : Nat → Nat → List UInt8 → Nat × Nat × Nat
  | _, _, [] => (0, 0, 1)
  | i, n, c :: t => if i = 9 ∧ 1 < c.toNat then (0, 0, 3) else if c.toNat < 128 then (n + c.toNat * 128 ^ i, i + 1, 0) else rdF (i + 1) (n + (c.toNat - 128) * 128 ^ i) t
def rd (l : List UInt8) : Nat × Nat × Nat := rdF 0 0 l

end Go.Proofs.Ytgmlkhfjhogdbaa.P
