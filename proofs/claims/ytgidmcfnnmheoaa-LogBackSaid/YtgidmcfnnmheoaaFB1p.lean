/- Plain functions, written by gen/tgl.py out of the program. -/
import Derived.Test.YtgidmcfnnmheoaaHT
import Derived.Test.YtgidmcfnnmheoaaLT
namespace Go.Proofs.Ytgidmcfnnmheoaa
open Go.RowKit P
set_option linter.unusedVariables false
set_option linter.unusedSimpArgs false
set_option maxRecDepth 100000
/-! ### gleaner/gleanerlaw.logOf -/
def law_logOf_L3 (N : Nat) : Nat → (List (List UInt8)) → (List UInt8) → Int → Option ((List UInt8) × Bool)
  | 0, _, _, _ => none
  | n + 1, x0, x4, x5 =>
    bif decide (x5 < (x0.length : Int)) then
      bif decide (x5 < 30) then
        (idxC x0 x5).bind fun z1 =>
        (log_Append N x4 z1).bind fun z2 =>
        bif z2.2 != 0 then
          some (([] : List UInt8), false)
        else
          law_logOf_L3 N n x0 z2.1 (w64 (x5 + 1))
      else
        some (x4, true)
    else
      some (x4, true)
def law_logOf (N : Nat) (x0 : List (List UInt8)) : Option ((List UInt8) × Bool) :=
  law_logOf_L3 N N x0 ([] : List UInt8) 0
/-! ### gleaner/gleanerref.SameTexts -/
def ref_SameTexts_L4 (N : Nat) : Nat → (List (List UInt8)) → (List (List UInt8)) → Int → Option Bool
  | 0, _, _, _ => none
  | n + 1, x0, x1, x5 =>
    bif decide (x5 < (x0.length : Int)) then
      (idxC x0 x5).bind fun z1 =>
      (idxC x1 x5).bind fun z2 =>
      bif !decide (z1 = z2) then
        some false
      else
        ref_SameTexts_L4 N n x0 x1 (w64 (x5 + 1))
    else
      some true
def ref_SameTexts (N : Nat) (x0 : List (List UInt8)) (x1 : List (List UInt8)) : Option Bool :=
  bif (x0.length : Int) != (x1.length : Int) then
    some false
  else
    ref_SameTexts_L4 N N x0 x1 0
/-! ### gleaner/gleanerlaw.choose -/
def law_choose (N : Nat) (x0 : Int) (x1 : Int) : Option Int :=
  bif decide (x0 < 0) then
    (remC (w64 (0 - (w64 (x0 + 1)))) x1).bind fun z1 =>
    some z1
  else
    (remC x0 x1).bind fun z2 =>
    some z2
/-! ### gleaner/gleanerlaw.LogBack -/
def law_LogBack_R5 (N : Nat) (n : Nat) (x0 : List (List UInt8)) (x1 : Int) : Option Bool :=
  (law_logOf N x0).bind fun z3 =>
  bif !z3.2 then
    some true
  else
    (log_Read N z3.1).bind fun z4 =>
    (ref_SameTexts N x0 z4.1).bind fun z5 =>
    bif !z5 then
      some false
    else
      bif z4.2 != (z3.1.length : Int) then
        some false
      else
        (law_choose N x1 (w64 ((z3.1.length : Int) + 1))).bind fun z6 =>
        (subC z3.1 0 z6).bind fun z7 =>
        (log_Read N z7).bind fun z8 =>
        bif decide (z8.2 < 0) then
          some false
        else
          bif decide (z8.2 > z6) then
            some false
          else
            bif decide ((z8.1.length : Int) > (x0.length : Int)) then
              some false
            else
              (subC x0 0 (z8.1.length : Int)).bind fun z9 =>
              (ref_SameTexts N z8.1 z9).bind fun z10 =>
              bif !z10 then
                some false
              else
                (law_logOf N z8.1).bind fun z11 =>
                bif !z11.2 then
                  some false
                else
                  (subC z3.1 0 z8.2).bind fun z12 =>
                  bif !decide (z11.1 = z12) then
                    some false
                  else
                    bif (z8.1.length : Int) == (x0.length : Int) then
                      some true
                    else
                      (subC x0 0 (w64 ((z8.1.length : Int) + 1))).bind fun z13 =>
                      (law_logOf N z13).bind fun z14 =>
                      bif z14.2 then
                        some (decide ((z14.1.length : Int) > z6))
                      else
                        some false
def law_LogBack (N : Nat) (x0 : List (List UInt8)) (x1 : Int) : Option Bool :=
  (law_logBegun N).bind fun z1 =>
  bif !z1 then
    some false
  else
    bif decide ((x0.length : Int) > 30) then
      (subC x0 0 30).bind fun z2 =>
      law_LogBack_R5 N N z2 x1
    else
      law_LogBack_R5 N N x0 x1
end Go.Proofs.Ytgidmcfnnmheoaa
