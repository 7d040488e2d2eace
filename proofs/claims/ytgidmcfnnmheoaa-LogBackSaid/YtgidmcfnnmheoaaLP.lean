-- slim: written by gen/slim.py from XLP.lean.tpl
/- Logs in plain Lean: the sum of a text, parts, what is appended, what is read. -/
import Derived.Test.YtgidmcfnnmheoaaP
namespace Go.Proofs.Ytgidmcfnnmheoaa
open P
set_option linter.unusedSimpArgs false
set_option linter.unusedVariables false

/-! ### Sums -/
def crcStep (c : Nat) : Nat := if c % 2 = 1 then (c / 2) ^^^ 2197175160 else c / 2
def crcN : Nat → Nat → Nat
  | 0, c => c
  | k + 1, c => crcN k (crcStep c)
def crcOne (c : Nat) (b : UInt8) : Nat := crcN 8 (c ^^^ b.toNat)
def crcR (c : Nat) (l : List UInt8) : Nat := l.foldl crcOne c
def crcB (l : List UInt8) : Nat := crcR 4294967295 l ^^^ 4294967295

theorem xor_lt32 {a b : Nat} (ha : a < 4294967296) (hb : b < 4294967296) : a ^^^ b < 4294967296 := Nat.xor_lt_two_pow (n := 32) ha hb
theorem crcStep_lt {c : Nat} (h : c < 4294967296) : crcStep c < 4294967296 := by
  unfold crcStep
  split
  · exact xor_lt32 (by omega) (by omega)
  · omega
theorem crcN_lt {k c : Nat} (h : c < 4294967296) : crcN k c < 4294967296 := by
  induction k generalizing c with
  | zero => exact h
  | succ k ih => exact ih (crcStep_lt h)
theorem crcN_succ (k c : Nat) : crcN (k + 1) c = crcStep (crcN k c) := by
  induction k generalizing c with
  | zero => rfl
  | succ k ih => exact ih (crcStep c)
theorem crcOne_lt {c : Nat} (h : c < 4294967296) (b : UInt8) : crcOne c b < 4294967296 := crcN_lt (xor_lt32 h (by have := b.toNat_lt; omega))
theorem crcR_lt {c : Nat} (h : c < 4294967296) (l : List UInt8) : crcR c l < 4294967296 := by
  induction l generalizing c with
  | nil => exact h
  | cons b l ih => exact ih (crcOne_lt h b)
theorem crcR_snoc (c : Nat) (l : List UInt8) (b : UInt8) : crcR c (l ++ [b]) = crcOne (crcR c l) b := by simp [crcR]
theorem crcR_take (c : Nat) (l : List UInt8) (i : Nat) (h : i < l.length) : crcR c (l.take (i + 1)) = crcOne (crcR c (l.take i)) (l.getD i 0) := by
  rw [List.take_succ_eq_append_getElem h, crcR_snoc, List.getD_eq_getElem?_getD, List.getElem?_eq_getElem h]
  rfl
theorem crcB_lt (l : List UInt8) : crcB l < 4294967296 := xor_lt32 (crcR_lt (by omega) l) (by omega)
/-! ### Parts -/
def byt (n : Nat) : UInt8 := UInt8.ofNat n
def headB (k : Nat) (s : List UInt8) : List UInt8 := [byt k, byt s.length, byt (s.length / 256), byt (crcB s), byt (crcB s / 256), byt (crcB s / 65536), byt (crcB s / 16777216)]
def partB (k : Nat) (s : List UInt8) : List UInt8 := headB k s ++ s
theorem partB_length (k : Nat) (s : List UInt8) : (partB k s).length = 7 + s.length := by simp [partB, headB]; omega
def padN (at_ : Nat) : Nat := if 121 < at_ % 128 then 128 - at_ % 128 else 0
theorem padN_le (a : Nat) : padN a ≤ 6 := by unfold padN; split <;> omega
theorem padN_mod (a : Nat) : (a + padN a) % 128 ≤ 121 := by unfold padN; split <;> omega
def zerosB (n : Nat) : List UInt8 := List.replicate n 0
theorem zerosB_length (n : Nat) : (zerosB n).length = n := by simp [zerosB]
/-- A part's kind. -/
def kindB (first : Bool) (last : Bool) : Nat := if first then (if last then 1 else 2) else (if last then 4 else 3)
/-- A record behind a log, part by part. -/
def lgAppR (log rec : List UInt8) (first : Bool) : Nat → List UInt8
  | 0 => log
  | fuel + 1 =>
    let l1 := log ++ zerosB (padN log.length)
    let n := min rec.length (121 - l1.length % 128)
    let l2 := l1 ++ partB (kindB first (n == rec.length)) (rec.take n)
    if n = rec.length then l2 else lgAppR l2 (rec.drop n) false fuel
def lgApp (log rec : List UInt8) : List UInt8 := lgAppR log rec true (2 * rec.length + 2)
def appendB (log rec : List UInt8) : List UInt8 × Nat :=
  if 20000 < rec.length then ([], 2) else if 1000000 < (lgApp log rec).length then ([], 2) else (lgApp log rec, 0)

/-! ### Reading -/
/-- What is read so far. -/
structure RdSt where
  out : List (List UInt8)
  ends : List Nat
  opn : List UInt8
  inn : Bool
  at_ : Nat
/-- One part: none: here it ends. -/
def rdStep (s : List UInt8) (x : RdSt) : Option RdSt :=
  let p := padN x.at_
  if (s.drop x.at_).take p ≠ zerosB p then none else
  let a := x.at_ + p
  if s.length < a + 7 then none else
  let k := (s.getD a 0).toNat
  let n := (s.getD (a + 1) 0).toNat + 256 * (s.getD (a + 2) 0).toNat
  if s.length < a + 7 + n ∨ 128 < a % 128 + 7 + n then none else
  if k < 1 ∨ 4 < k ∨ (x.inn = decide (k ≤ 2)) then none else
  let t := (s.drop (a + 7)).take n
  if partB k t ≠ (s.drop a).take (7 + n) then none else
  if k = 1 ∨ k = 4 then some ⟨x.out ++ [x.opn ++ t], x.ends ++ [a + 7 + n], [], false, a + 7 + n⟩
  else some ⟨x.out, x.ends, x.opn ++ t, true, a + 7 + n⟩
def rdLoop (s : List UInt8) (x : RdSt) : Nat → RdSt
  | 0 => x
  | fuel + 1 => match rdStep s x with | none => x | some y => rdLoop s y fuel
def rdB (s : List UInt8) : RdSt := rdLoop s ⟨[], [], [], false, 0⟩ (s.length + 1)
theorem rdStep_at {s : List UInt8} {x y : RdSt} (h : rdStep s x = some y) : x.at_ + 7 ≤ y.at_ ∧ y.at_ ≤ s.length := by
  unfold rdStep at h
  dsimp only at h
  repeat' split at h
  all_goals cases h
  all_goals dsimp only
  all_goals omega
theorem rdLoop_none {s : List UInt8} {x : RdSt} (h : rdStep s x = none) (n : Nat) : rdLoop s x n = x := by
  cases n with
  | zero => rfl
  | succ n => simp [rdLoop, h]
theorem rdLoop_some {s : List UInt8} {x y : RdSt} (h : rdStep s x = some y) (n : Nat) : rdLoop s x (n + 1) = rdLoop s y n := by simp [rdLoop, h]
end Go.Proofs.Ytgidmcfnnmheoaa
