import Derived.Test.YtlhjbhgkhpbnfaaBk05
set_option linter.unusedSimpArgs false
set_option linter.unusedVariables false
namespace Go.Proofs.Ytlhjbhgkhpbnfaa
open Go.RowKit P
set_option linter.unusedVariables false
set_option linter.unusedSimpArgs false
set_option maxRecDepth 100000
abbrev bA := Int × (List UInt8) × Int × Int × Nat × (List Vstep)
def aC (N : Nat) (x1 : Vstep) (y0_0 : List UInt8) (y0_1 : Int) (y0_2 : Int) (y0_3 : Nat) (y1 : List Vstep) : Option (PR bA) :=
 (p8 32 y0_3 y1 ([x1] : List Vstep)).bind fun z1 =>
 some (.ok (w64 ((z1.length : Int) - 1),y0_0,y0_1,y0_2,z1.length,z1))
abbrev bv := UInt8 × Bool × (List UInt8) × Int × Int × Nat × (List Vstep)
def bd (N : Nat) (y0_0 : List UInt8) (y0_1 : Int) (y0_2 : Int) (y0_3 : Nat) (y1 : List Vstep) : Option (PR bv) :=
 bif decide (y0_1 < (y0_0.length : Int)) then
  (ap y0_0 y0_1).bind fun z1 =>
  some (.ok (z1,true,y0_0,y0_1,y0_2,y0_3,y1))
 else
  some (.ok (0,false,y0_0,y0_1,y0_2,y0_3,y1))
abbrev br := (List UInt8) × Int × Int × Nat × (List Vstep)
def aR (N : Nat) (x1 : Int) (x2 : Int) (y0_0 : List UInt8) (y0_1 : Int) (y0_2 : Int) (y0_3 : Nat) (y1 : List Vstep) : Option (PR br) :=
 some (.pan (Value.iface 28 (.agg #[.int .i64 x1,.int .i64 x2])))
abbrev fB := Option (List Bool)
def gB (N : Nat) (x0 : UInt8) : Option fB :=
 (eB 256 (b2i x0)).bind fun z1 =>
 (t8 ([false,false,false,false,false,false,false,false,false,false,false,false,false,false,false,false,false,false,false,false,false,false,false,false,false,false,false,false,false,false,false,false,false,false,false,false,false,false,false,false,false,false,false,false,false,false,false,false,false,false,false,false,false,false,false,false,false,false,false,false,false,false,false,false,false,false,false,false,false,false,false,false,false,false,false,false,false,false,false,false,false,false,false,false,false,false,false,false,false,false,false,false,false,false,false,false,false,false,false,false,false,false,false,false,false,false,false,false,false,false,false,false,false,false,false,false,false,false,false,false,false,false,false,false,false,false,false,false,false,false,false,false,false,false,false,false,false,false,false,false,false,false,false,false,false,false,false,false,false,false,false,false,false,false,false,false,false,false,false,false,false,false,false,false,false,false,false,false,false,false,false,false,false,false,false,false,false,false,false,false,false,false,false,false,false,false,false,false,false,false,false,false,false,false,false,false,false,false,false,false,false,false,false,false,false,false,false,false,false,false,false,false,false,false,false,false,false,false,false,false,false,false,false,false,false,false,false,false,false,false,false,false,false,false,false,false,false,false,false,false,false,false,false,false,false,false,false,false,false,false,false,false,false,false,false,false] : List Bool) (0 + z1) true).bind fun z2 =>
 (o5 256 z2).bind fun z3 =>
 some (some z3)
abbrev bE := Bool × (List UInt8) × Int × Int × Nat × (List Vstep)
def bg (N : Nat) (x1 : UInt8) (y0_0 : List UInt8) (y0_1 : Int) (y0_2 : Int) (y0_3 : Nat) (y1 : List Vstep) : Option (PR bE) :=
 (bd N y0_0 y0_1 y0_2 y0_3 y1).bind fun z1 =>
 match z1 with
 | .pan vz1 =>
   some (.pan vz1)
 | .ok z2 =>
   bif z2.2.1 then
    bif (b2i z2.1) == (b2i x1) then
     some (.ok (true,z2.2.2.1,w64 (z2.2.2.2.1 + 1),z2.2.2.2.2.1,z2.2.2.2.2.2.1,z2.2.2.2.2.2.2))
    else
     some (.ok (false,z2.2.2.1,z2.2.2.2.1,z2.2.2.2.2.1,z2.2.2.2.2.2.1,z2.2.2.2.2.2.2))
   else
    some (.ok (false,z2.2.2.1,z2.2.2.2.1,z2.2.2.2.2.1,z2.2.2.2.2.2.1,z2.2.2.2.2.2.2))
def co (N : Nat) (x0 : List UInt8) (x1 : UInt8) : Option Int :=
 (kY N x0 x1).bind fun z1 =>
 some z1
abbrev aY := UInt8 × (List UInt8) × Int × Int × Nat × (List Vstep)
def cB (N : Nat) (n : Nat) (x3 : UInt8) (b100000_0 : List UInt8) (b100000_1 : Int) (b100000_2 : Int) (b100000_3_n : Nat) (b200001 : List Vstep) : Option (PR aY) :=
 (aR N 1 b100000_1 b100000_0 b100000_1 b100000_2 b100000_3_n b200001).bind fun z4 =>
 match z4 with
 | .pan vz4 =>
   some (.pan vz4)
 | .ok z5 =>
   some (.ok (x3,z5.1,w64 (z5.2.1 + 1),z5.2.2.1,z5.2.2.2.1,z5.2.2.2.2))
def ca (N : Nat) (y0_0 : List UInt8) (y0_1 : Int) (y0_2 : Int) (y0_3 : Nat) (y1 : List Vstep) : Option (PR aY) :=
 (bd N y0_0 y0_1 y0_2 y0_3 y1).bind fun z1 =>
 match z1 with
 | .pan vz1 =>
   some (.pan vz1)
 | .ok z2 =>
   bif !z2.2.1 then
    cB N N z2.1 z2.2.2.1 z2.2.2.2.1 z2.2.2.2.2.1 z2.2.2.2.2.2.1 z2.2.2.2.2.2.2
   else
    (co N ([91,93,92,94,45] : List UInt8) z2.1).bind fun z3 =>
    bif decide (z3 ≥ 0) then
     cB N N z2.1 z2.2.2.1 z2.2.2.2.1 z2.2.2.2.2.1 z2.2.2.2.2.2.1 z2.2.2.2.2.2.2
    else
     some (.ok (z2.1,z2.2.2.1,w64 (z2.2.2.2.1 + 1),z2.2.2.2.2.1,z2.2.2.2.2.2.1,z2.2.2.2.2.2.2))
abbrev ax := (Option (List Bool)) × (List UInt8) × Int × Int × Nat × (List Vstep)
def cK (N : Nat) (k4 : Bool → Bool → (List Bool) → (List UInt8) → Int → Int → Nat → (List Vstep) → Option (PR ax)) : Nat → Bool → UInt8 → Int → (List Bool) → (List UInt8) → Int → Int → Nat → (List Vstep) → Option (PR ax)
 | 0,_,_,_,_,_,_,_,_,_ => none
 | n + 1, x3, x7, x9, b4, b100000_0, b100000_1, b100000_2, b100000_3_n, b200001 =>
   bif decide (x9 ≤ (w64 (b2i x7))) then
    (eB 256 x9).bind fun z18 =>
    (t8 b4 (0 + z18) true).bind fun z19 =>
    cK N k4 n x3 x7 (w64 (x9 + 1)) z19 b100000_0 b100000_1 b100000_2 b100000_3_n b200001
   else
    k4 x3 false b4 b100000_0 b100000_1 b100000_2 b100000_3_n b200001
def bQ (N : Nat) (k4 : Bool → Bool → (List Bool) → (List UInt8) → Int → Int → Nat → (List Vstep) → Option (PR ax)) (n : Nat) (x3 : Bool) (x6 : UInt8) (x7 : UInt8) (b4 : List Bool) (b100000_0 : List UInt8) (b100000_1 : Int) (b100000_2 : Int) (b100000_3_n : Nat) (b200001 : List Vstep) : Option (PR ax) :=
 cK N k4 n x3 x7 (w64 (b2i x6)) b4 b100000_0 b100000_1 b100000_2 b100000_3_n b200001
def cY (N : Nat) (k4 : Bool → Bool → (List Bool) → (List UInt8) → Int → Int → Nat → (List Vstep) → Option (PR ax)) (n : Nat) (x3 : Bool) (b4 : List Bool) (b100000_0 : List UInt8) (b100000_1 : Int) (b100000_2 : Int) (b100000_3_n : Nat) (b200001 : List Vstep) : Option (PR ax) :=
 (ca N b100000_0 b100000_1 b100000_2 b100000_3_n b200001).bind fun z5 =>
 match z5 with
 | .pan vz5 =>
   some (.pan vz5)
 | .ok z6 =>
   (bg N 45 z6.2.1 z6.2.2.1 z6.2.2.2.1 z6.2.2.2.2.1 z6.2.2.2.2.2).bind fun z7 =>
   match z7 with
   | .pan vz7 =>
     some (.pan vz7)
   | .ok z8 =>
     bif z8.1 then
      (ca N z8.2.1 z8.2.2.1 z8.2.2.2.1 z8.2.2.2.2.1 z8.2.2.2.2.2).bind fun z9 =>
      match z9 with
      | .pan vz9 =>
        some (.pan vz9)
      | .ok z10 =>
        bif decide ((b2i z10.1) < (b2i z6.1)) then
         (aR N 3 z8.2.2.1 z10.2.1 z10.2.2.1 z10.2.2.2.1 z10.2.2.2.2.1 z10.2.2.2.2.2).bind fun z11 =>
         match z11 with
         | .pan vz11 =>
           some (.pan vz11)
         | .ok z12 =>
           bQ N k4 n x3 z6.1 z10.1 b4 z12.1 z12.2.1 z12.2.2.1 z12.2.2.2.1 z12.2.2.2.2
        else
         bQ N k4 n x3 z6.1 z10.1 b4 z10.2.1 z10.2.2.1 z10.2.2.2.1 z10.2.2.2.2.1 z10.2.2.2.2.2
     else
      bQ N k4 n x3 z6.1 z6.1 b4 z8.2.1 z8.2.2.1 z8.2.2.2.1 z8.2.2.2.2.1 z8.2.2.2.2.2
def cN (N : Nat) : Nat → Bool → Int → (List Bool) → (List UInt8) → Int → Int → Nat → (List Vstep) → Option (PR ax)
 | 0,_,_,_,_,_,_,_,_ => none
 | n + 1, x3, x46, b4, b100000_0, b100000_1, b100000_2, b100000_3_n, b200001 =>
   bif decide (x46 < 256) then
    (eB 256 x46).bind fun z13 =>
    (b4[0 + z13]?).bind fun z14 =>
    (eB 256 x46).bind fun z15 =>
    (t8 b4 (0 + z15) (!(z14 == x3))).bind fun z16 =>
    cN N n x3 (w64 (x46 + 1)) z16 b100000_0 b100000_1 b100000_2 b100000_3_n b200001
   else
    (o5 256 b4).bind fun z17 =>
    some (.ok ((some z17),b100000_0,b100000_1,b100000_2,b100000_3_n,b200001))
def bY (N : Nat) : Nat → Bool → Bool → (List Bool) → (List UInt8) → Int → Int → Nat → (List Vstep) → Option (PR ax)
 | 0,_,_,_,_,_,_,_,_ => none
 | n + 1, x3, x5, b4, b100000_0, b100000_1, b100000_2, b100000_3_n, b200001 =>
   bif x5 then
    cY N (bY N n) n x3 b4 b100000_0 b100000_1 b100000_2 b100000_3_n b200001
   else
    (bg N 93 b100000_0 b100000_1 b100000_2 b100000_3_n b200001).bind fun z3 =>
    match z3 with
    | .pan vz3 =>
      some (.pan vz3)
    | .ok z4 =>
      bif !z4.1 then
       cY N (bY N n) n x3 b4 z4.2.1 z4.2.2.1 z4.2.2.2.1 z4.2.2.2.2.1 z4.2.2.2.2.2
      else
       cN N n x3 0 b4 z4.2.1 z4.2.2.1 z4.2.2.2.1 z4.2.2.2.2.1 z4.2.2.2.2.2
def dI (N : Nat) (y0_0 : List UInt8) (y0_1 : Int) (y0_2 : Int) (y0_3 : Nat) (y1 : List Vstep) : Option (PR ax) :=
 (bg N 94 y0_0 y0_1 y0_2 y0_3 y1).bind fun z1 =>
 match z1 with
 | .pan vz1 =>
   some (.pan vz1)
 | .ok z2 =>
   bY N N z2.1 true ([false,false,false,false,false,false,false,false,false,false,false,false,false,false,false,false,false,false,false,false,false,false,false,false,false,false,false,false,false,false,false,false,false,false,false,false,false,false,false,false,false,false,false,false,false,false,false,false,false,false,false,false,false,false,false,false,false,false,false,false,false,false,false,false,false,false,false,false,false,false,false,false,false,false,false,false,false,false,false,false,false,false,false,false,false,false,false,false,false,false,false,false,false,false,false,false,false,false,false,false,false,false,false,false,false,false,false,false,false,false,false,false,false,false,false,false,false,false,false,false,false,false,false,false,false,false,false,false,false,false,false,false,false,false,false,false,false,false,false,false,false,false,false,false,false,false,false,false,false,false,false,false,false,false,false,false,false,false,false,false,false,false,false,false,false,false,false,false,false,false,false,false,false,false,false,false,false,false,false,false,false,false,false,false,false,false,false,false,false,false,false,false,false,false,false,false,false,false,false,false,false,false,false,false,false,false,false,false,false,false,false,false,false,false,false,false,false,false,false,false,false,false,false,false,false,false,false,false,false,false,false,false,false,false,false,false,false,false,false,false,false,false,false,false,false,false,false,false,false,false,false,false,false,false,false,false] : List Bool) z2.2.1 z2.2.2.1 z2.2.2.2.1 z2.2.2.2.2.1 z2.2.2.2.2.2
abbrev aP := (List Vstep) × (List Vstep)
def bz (N : Nat) (x0_o : Nat) (x0_n : Nat) (y0 : List Vstep) : Option (PR aP) :=
 (CZ x0_o x0_n y0).bind fun z1 =>
 (jD 32 ([] : List Vstep) z1).bind fun z2 =>
 some (.ok (z2,y0))
abbrev bD := (List Vstep) × (List UInt8) × Int × Int × Nat × (List Vstep)
def cv (N : Nat) (x1 : Int) (y0_0 : List UInt8) (y0_1 : Int) (y0_2 : Int) (y0_3 : Nat) (y1 : List Vstep) : Option (PR bD) :=
 (AP y0_3 x1 (y0_3 : Int)).bind fun z1 =>
 (bz N z1.1 (y0_3 - z1.1) y1).bind fun z2 =>
 match z2 with
 | .pan vz2 =>
   some (.pan vz2)
 | .ok z3 =>
   (DZ y0_3 z3.2 x1).bind fun z4 =>
   some (.ok (z3.1,y0_0,y0_1,y0_2,z4.length,z4))
abbrev aI := (List UInt8) × Int × Int × Nat × (List Vstep)
def bW (N : Nat) (k2 : Int → (List Vstep) → Int → Int → (List UInt8) → Int → Int → Nat → (List Vstep) → Option (PR aI)) (n : Nat) (x6 : Int) (x16 : List Vstep) (x17 : Int) (x18 : Int) (b8 : Vstep) (b100000_0 : List UInt8) (b100000_1 : Int) (b100000_2 : Int) (b100000_3_n : Nat) (b200001 : List Vstep) : Option (PR aI) :=
 (aC N b8 b100000_0 b100000_1 b100000_2 b100000_3_n b200001).bind fun z2 =>
 match z2 with
 | .pan vz2 =>
   some (.pan vz2)
 | .ok z3 =>
   k2 x6 x16 x17 (w64 (x18 + 1)) z3.2.1 z3.2.2.1 z3.2.2.2.1 z3.2.2.2.2.1 z3.2.2.2.2.2
def bu (N : Nat) : Nat → Int → (List Vstep) → Int → Int → (List UInt8) → Int → Int → Nat → (List Vstep) → Option (PR aI)
 | 0,_,_,_,_,_,_,_,_,_ => none
 | n + 1, x6, x16, x17, x18, b100000_0, b100000_1, b100000_2, b100000_3_n, b200001 =>
   bif decide (x18 < x17) then
    (ap x16 x18).bind fun z1 =>
    bif z1.kind == 1 then
     bW N (bu N n) n x6 x16 x17 x18 ({ kind := z1.kind,a := w64 (z1.a + x6),b := w64 (z1.b + x6),set_ := z1.set_ } : Vstep) b100000_0 b100000_1 b100000_2 b100000_3_n b200001
    else
     bif z1.kind == 2 then
      bW N (bu N n) n x6 x16 x17 x18 ({ kind := z1.kind,a := w64 (z1.a + x6),b := z1.b,set_ := z1.set_ } : Vstep) b100000_0 b100000_1 b100000_2 b100000_3_n b200001
     else
      bW N (bu N n) n x6 x16 x17 x18 z1 b100000_0 b100000_1 b100000_2 b100000_3_n b200001
   else
    some (.ok (b100000_0,b100000_1,b100000_2,b100000_3_n,b200001))
def bp (N : Nat) (x1 : List Vstep) (x2 : Int) (y0_0 : List UInt8) (y0_1 : Int) (y0_2 : Int) (y0_3 : Nat) (y1 : List Vstep) : Option (PR aI) :=
 bu N N (w64 ((y0_3 : Int) - x2)) x1 (x1.length : Int) 0 y0_0 y0_1 y0_2 y0_3 y1
structure RecC where
 n : Nat
 k : (List UInt8) → Int → Int → Nat → (List Vstep) → Option (PR (Bool × (List UInt8) × Int × Int × Nat × (List Vstep)))
def dE (N : RecC) (y0_0 : List UInt8) (y0_1 : Int) (y0_2 : Int) (y0_3 : Nat) (y1 : List Vstep) : Option (PR (Bool × (List UInt8) × Int × Int × Nat × (List Vstep))) := N.k y0_0 y0_1 y0_2 y0_3 y1
abbrev az := Bool × (List UInt8) × Int × Int × Nat × (List Vstep)
def cE (N : RecC) : Nat → Int → (List Bool) → (List UInt8) → Int → Int → Nat → (List Vstep) → Option (PR az)
 | 0,_,_,_,_,_,_,_ => none
 | n + 1, x51, b4, b100000_0, b100000_1, b100000_2, b100000_3_n, b200001 =>
   bif decide (x51 < 256) then
    (eB 256 x51).bind fun z13 =>
    (t8 b4 (0 + z13) true).bind fun z14 =>
    cE N n (w64 (x51 + 1)) z14 b100000_0 b100000_1 b100000_2 b100000_3_n b200001
   else
    (o5 256 b4).bind fun z15 =>
    (aC N.n ({ kind := 0,a := 0,b := 0,set_ := (some z15) } : Vstep) b100000_0 b100000_1 b100000_2 b100000_3_n b200001).bind fun z16 =>
    match z16 with
    | .pan vz16 =>
      some (.pan vz16)
    | .ok z17 =>
      some (.ok (false,z17.2.1,z17.2.2.1,z17.2.2.2.1,z17.2.2.2.2.1,z17.2.2.2.2.2))
def cA (N : RecC) (n : Nat) (x6 : UInt8) (b100000_0 : List UInt8) (b100000_1 : Int) (b100000_2 : Int) (b100000_3_n : Nat) (b200001 : List Vstep) : Option (PR az) :=
 (aR N.n 1 b100000_1 b100000_0 b100000_1 b100000_2 b100000_3_n b200001).bind fun z34 =>
 match z34 with
 | .pan vz34 =>
   some (.pan vz34)
 | .ok z35 =>
   (gB N.n x6).bind fun z36 =>
   (aC N.n ({ kind := 0,a := 0,b := 0,set_ := z36 } : Vstep) z35.1 (w64 (z35.2.1 + 1)) z35.2.2.1 z35.2.2.2.1 z35.2.2.2.2).bind fun z37 =>
   match z37 with
   | .pan vz37 =>
     some (.pan vz37)
   | .ok z38 =>
     some (.ok (false,z38.2.1,z38.2.2.1,z38.2.2.2.1,z38.2.2.2.2.1,z38.2.2.2.2.2))
def aF (N : RecC) (n : Nat) (x6 : UInt8) (x7 : Bool) (x8 : Bool) (b100000_0 : List UInt8) (b100000_1 : Int) (b100000_2 : Int) (b100000_3_n : Nat) (b200001 : List Vstep) : Option (PR az) :=
 bif !x7 then
  cA N n x6 b100000_0 b100000_1 b100000_2 b100000_3_n b200001
 else
  bif x8 then
   cA N n x6 b100000_0 b100000_1 b100000_2 b100000_3_n b200001
  else
   (gB N.n x6).bind fun z18 =>
   (aC N.n ({ kind := 0,a := 0,b := 0,set_ := z18 } : Vstep) b100000_0 (w64 (b100000_1 + 1)) b100000_2 b100000_3_n b200001).bind fun z19 =>
   match z19 with
   | .pan vz19 =>
     some (.pan vz19)
   | .ok z20 =>
     some (.ok (false,z20.2.1,z20.2.2.1,z20.2.2.2.1,z20.2.2.2.2.1,z20.2.2.2.2.2))
def cC (N : RecC) (n : Nat) (b100000_0 : List UInt8) (b100000_1 : Int) (b100000_2 : Int) (b100000_3_n : Nat) (b200001 : List Vstep) : Option (PR az) :=
 (aC N.n ({ kind := 3,a := w64 (2 * (w64 (b100000_2 + 1))),b := 0,set_ := (none : Option (List Bool)) } : Vstep) b100000_0 (w64 (b100000_1 + 1)) (w64 (b100000_2 + 1)) b100000_3_n b200001).bind fun z21 =>
 match z21 with
 | .pan vz21 =>
   some (.pan vz21)
 | .ok z22 =>
   (dE N z22.2.1 z22.2.2.1 z22.2.2.2.1 z22.2.2.2.2.1 z22.2.2.2.2.2).bind fun z23 =>
   match z23 with
   | .pan vz23 =>
     some (.pan vz23)
   | .ok z24 =>
     (aC N.n ({ kind := 3,a := w64 ((w64 (2 * (w64 (b100000_2 + 1)))) + 1),b := 0,set_ := (none : Option (List Bool)) } : Vstep) z24.2.1 z24.2.2.1 z24.2.2.2.1 z24.2.2.2.2.1 z24.2.2.2.2.2).bind fun z25 =>
     match z25 with
     | .pan vz25 =>
       some (.pan vz25)
     | .ok z26 =>
       (bg N.n 41 z26.2.1 z26.2.2.1 z26.2.2.2.1 z26.2.2.2.2.1 z26.2.2.2.2.2).bind fun z27 =>
       match z27 with
       | .pan vz27 =>
         some (.pan vz27)
       | .ok z28 =>
         bif !z28.1 then
          (aR N.n 1 z28.2.2.1 z28.2.1 z28.2.2.1 z28.2.2.2.1 z28.2.2.2.2.1 z28.2.2.2.2.2).bind fun z29 =>
          match z29 with
          | .pan vz29 =>
            some (.pan vz29)
          | .ok z30 =>
            some (.ok (z24.1,z30.1,z30.2.1,z30.2.2.1,z30.2.2.2.1,z30.2.2.2.2))
         else
          some (.ok (z24.1,z28.2.1,z28.2.2.1,z28.2.2.2.1,z28.2.2.2.2.1,z28.2.2.2.2.2))
def cL (N : RecC) (n : Nat) (x3 : UInt8) (b100000_0 : List UInt8) (b100000_1 : Int) (b100000_2 : Int) (b100000_3_n : Nat) (b200001 : List Vstep) : Option (PR az) :=
 (gB N.n x3).bind fun z31 =>
 (aC N.n ({ kind := 0,a := 0,b := 0,set_ := z31 } : Vstep) b100000_0 (w64 (b100000_1 + 1)) b100000_2 b100000_3_n b200001).bind fun z32 =>
 match z32 with
 | .pan vz32 =>
   some (.pan vz32)
 | .ok z33 =>
   some (.ok (false,z33.2.1,z33.2.2.1,z33.2.2.2.1,z33.2.2.2.2.1,z33.2.2.2.2.2))
def dt (N : RecC) (y0_0 : List UInt8) (y0_1 : Int) (y0_2 : Int) (y0_3 : Nat) (y1 : List Vstep) : Option (PR az) :=
 (ap y0_0 y0_1).bind fun z1 =>
 bif (b2i z1) == (b2i 46) then
  cE N N.n 0 ([false,false,false,false,false,false,false,false,false,false,false,false,false,false,false,false,false,false,false,false,false,false,false,false,false,false,false,false,false,false,false,false,false,false,false,false,false,false,false,false,false,false,false,false,false,false,false,false,false,false,false,false,false,false,false,false,false,false,false,false,false,false,false,false,false,false,false,false,false,false,false,false,false,false,false,false,false,false,false,false,false,false,false,false,false,false,false,false,false,false,false,false,false,false,false,false,false,false,false,false,false,false,false,false,false,false,false,false,false,false,false,false,false,false,false,false,false,false,false,false,false,false,false,false,false,false,false,false,false,false,false,false,false,false,false,false,false,false,false,false,false,false,false,false,false,false,false,false,false,false,false,false,false,false,false,false,false,false,false,false,false,false,false,false,false,false,false,false,false,false,false,false,false,false,false,false,false,false,false,false,false,false,false,false,false,false,false,false,false,false,false,false,false,false,false,false,false,false,false,false,false,false,false,false,false,false,false,false,false,false,false,false,false,false,false,false,false,false,false,false,false,false,false,false,false,false,false,false,false,false,false,false,false,false,false,false,false,false,false,false,false,false,false,false,false,false,false,false,false,false,false,false,false,false,false,false] : List Bool) y0_0 (w64 (y0_1 + 1)) y0_2 y0_3 y1
 else
  bif (b2i z1) == (b2i 92) then
   (bd N.n y0_0 (w64 (y0_1 + 1)) y0_2 y0_3 y1).bind fun z2 =>
   match z2 with
   | .pan vz2 =>
     some (.pan vz2)
   | .ok z3 =>
     bif decide ((b2i z3.1) ≥ (b2i 97)) then
      bif decide ((b2i z3.1) ≤ (b2i 122)) then
       aF N N.n z3.1 z3.2.1 true z3.2.2.1 z3.2.2.2.1 z3.2.2.2.2.1 z3.2.2.2.2.2.1 z3.2.2.2.2.2.2
      else
       bif decide ((b2i z3.1) ≥ (b2i 65)) then
        bif decide ((b2i z3.1) ≤ (b2i 90)) then
         aF N N.n z3.1 z3.2.1 true z3.2.2.1 z3.2.2.2.1 z3.2.2.2.2.1 z3.2.2.2.2.2.1 z3.2.2.2.2.2.2
        else
         bif decide ((b2i z3.1) ≥ (b2i 48)) then
          aF N N.n z3.1 z3.2.1 (decide ((b2i z3.1) ≤ (b2i 57))) z3.2.2.1 z3.2.2.2.1 z3.2.2.2.2.1 z3.2.2.2.2.2.1 z3.2.2.2.2.2.2
         else
          aF N N.n z3.1 z3.2.1 false z3.2.2.1 z3.2.2.2.1 z3.2.2.2.2.1 z3.2.2.2.2.2.1 z3.2.2.2.2.2.2
       else
        bif decide ((b2i z3.1) ≥ (b2i 48)) then
         aF N N.n z3.1 z3.2.1 (decide ((b2i z3.1) ≤ (b2i 57))) z3.2.2.1 z3.2.2.2.1 z3.2.2.2.2.1 z3.2.2.2.2.2.1 z3.2.2.2.2.2.2
        else
         aF N N.n z3.1 z3.2.1 false z3.2.2.1 z3.2.2.2.1 z3.2.2.2.2.1 z3.2.2.2.2.2.1 z3.2.2.2.2.2.2
     else
      bif decide ((b2i z3.1) ≥ (b2i 65)) then
       bif decide ((b2i z3.1) ≤ (b2i 90)) then
        aF N N.n z3.1 z3.2.1 true z3.2.2.1 z3.2.2.2.1 z3.2.2.2.2.1 z3.2.2.2.2.2.1 z3.2.2.2.2.2.2
       else
        bif decide ((b2i z3.1) ≥ (b2i 48)) then
         aF N N.n z3.1 z3.2.1 (decide ((b2i z3.1) ≤ (b2i 57))) z3.2.2.1 z3.2.2.2.1 z3.2.2.2.2.1 z3.2.2.2.2.2.1 z3.2.2.2.2.2.2
        else
         aF N N.n z3.1 z3.2.1 false z3.2.2.1 z3.2.2.2.1 z3.2.2.2.2.1 z3.2.2.2.2.2.1 z3.2.2.2.2.2.2
      else
       bif decide ((b2i z3.1) ≥ (b2i 48)) then
        aF N N.n z3.1 z3.2.1 (decide ((b2i z3.1) ≤ (b2i 57))) z3.2.2.1 z3.2.2.2.1 z3.2.2.2.2.1 z3.2.2.2.2.2.1 z3.2.2.2.2.2.2
       else
        aF N N.n z3.1 z3.2.1 false z3.2.2.1 z3.2.2.2.1 z3.2.2.2.2.1 z3.2.2.2.2.2.1 z3.2.2.2.2.2.2
  else
   bif (b2i z1) == (b2i 91) then
    (dI N.n y0_0 (w64 (y0_1 + 1)) y0_2 y0_3 y1).bind fun z4 =>
    match z4 with
    | .pan vz4 =>
      some (.pan vz4)
    | .ok z5 =>
      (aC N.n ({ kind := 0,a := 0,b := 0,set_ := z5.1 } : Vstep) z5.2.1 z5.2.2.1 z5.2.2.2.1 z5.2.2.2.2.1 z5.2.2.2.2.2).bind fun z6 =>
      match z6 with
      | .pan vz6 =>
        some (.pan vz6)
      | .ok z7 =>
        some (.ok (false,z7.2.1,z7.2.2.1,z7.2.2.2.1,z7.2.2.2.2.1,z7.2.2.2.2.2))
   else
    bif (b2i z1) == (b2i 40) then
     bif y0_2 == 9 then
      (aR N.n 2 y0_1 y0_0 y0_1 y0_2 y0_3 y1).bind fun z8 =>
      match z8 with
      | .pan vz8 =>
        some (.pan vz8)
      | .ok z9 =>
        cC N N.n z9.1 z9.2.1 z9.2.2.1 z9.2.2.2.1 z9.2.2.2.2
     else
      cC N N.n y0_0 y0_1 y0_2 y0_3 y1
    else
     (co N.n ([42,43,63,41,124,93] : List UInt8) z1).bind fun z10 =>
     bif decide (z10 ≥ 0) then
      (aR N.n 1 y0_1 y0_0 y0_1 y0_2 y0_3 y1).bind fun z11 =>
      match z11 with
      | .pan vz11 =>
        some (.pan vz11)
      | .ok z12 =>
        cL N N.n z1 z12.1 z12.2.1 z12.2.2.1 z12.2.2.2.1 z12.2.2.2.2
     else
      cL N N.n z1 y0_0 y0_1 y0_2 y0_3 y1
abbrev aJ := Bool × (List UInt8) × Int × Int × Nat × (List Vstep)
def bl (N : RecC) (n : Nat) (x3 : Int) (x6 : UInt8) (b100000_0 : List UInt8) (b100000_1 : Int) (b100000_2 : Int) (b100000_3_n : Nat) (b200001 : List Vstep) : Option (PR aJ) :=
 (cv N.n x3 b100000_0 (w64 (b100000_1 + 1)) b100000_2 b100000_3_n b200001).bind fun z8 =>
 match z8 with
 | .pan vz8 =>
   some (.pan vz8)
 | .ok z9 =>
   bif (b2i x6) == (b2i 42) then
    (aC N.n ({ kind := 1,a := 0,b := 0,set_ := (none : Option (List Bool)) } : Vstep) z9.2.1 z9.2.2.1 z9.2.2.2.1 z9.2.2.2.2.1 z9.2.2.2.2.2).bind fun z10 =>
    match z10 with
    | .pan vz10 =>
      some (.pan vz10)
    | .ok z11 =>
      (eB z11.2.2.2.2.1 z11.1).bind fun z12 =>
      (z11.2.2.2.2.2[z12]?).bind fun z13 =>
      (bp N.n z9.1 x3 z11.2.1 z11.2.2.1 z11.2.2.2.1 z11.2.2.2.2.1 (List.set z11.2.2.2.2.2 z12 ({ kind := z13.kind,a := (z11.2.2.2.2.1 : Int),b := z13.b,set_ := z13.set_ } : Vstep))).bind fun z14 =>
      match z14 with
      | .pan vz14 =>
        some (.pan vz14)
      | .ok z15 =>
        (aC N.n ({ kind := 2,a := z11.1,b := 0,set_ := (none : Option (List Bool)) } : Vstep) z15.1 z15.2.1 z15.2.2.1 z15.2.2.2.1 z15.2.2.2.2).bind fun z16 =>
        match z16 with
        | .pan vz16 =>
          some (.pan vz16)
        | .ok z17 =>
          (eB z17.2.2.2.2.1 z11.1).bind fun z18 =>
          (z17.2.2.2.2.2[z18]?).bind fun z19 =>
          some (.ok (true,z17.2.1,z17.2.2.1,z17.2.2.2.1,z17.2.2.2.2.1,List.set z17.2.2.2.2.2 z18 ({ kind := z19.kind,a := z19.a,b := (z17.2.2.2.2.1 : Int),set_ := z19.set_ } : Vstep)))
   else
    bif (b2i x6) == (b2i 43) then
     (bp N.n z9.1 x3 z9.2.1 z9.2.2.1 z9.2.2.2.1 z9.2.2.2.2.1 z9.2.2.2.2.2).bind fun z20 =>
     match z20 with
     | .pan vz20 =>
       some (.pan vz20)
     | .ok z21 =>
       (aC N.n ({ kind := 1,a := x3,b := 0,set_ := (none : Option (List Bool)) } : Vstep) z21.1 z21.2.1 z21.2.2.1 z21.2.2.2.1 z21.2.2.2.2).bind fun z22 =>
       match z22 with
       | .pan vz22 =>
         some (.pan vz22)
       | .ok z23 =>
         (eB z23.2.2.2.2.1 z23.1).bind fun z24 =>
         (z23.2.2.2.2.2[z24]?).bind fun z25 =>
         some (.ok (false,z23.2.1,z23.2.2.1,z23.2.2.2.1,z23.2.2.2.2.1,List.set z23.2.2.2.2.2 z24 ({ kind := z25.kind,a := z25.a,b := (z23.2.2.2.2.1 : Int),set_ := z25.set_ } : Vstep)))
    else
     (aC N.n ({ kind := 1,a := 0,b := 0,set_ := (none : Option (List Bool)) } : Vstep) z9.2.1 z9.2.2.1 z9.2.2.2.1 z9.2.2.2.2.1 z9.2.2.2.2.2).bind fun z26 =>
     match z26 with
     | .pan vz26 =>
       some (.pan vz26)
     | .ok z27 =>
       (eB z27.2.2.2.2.1 z27.1).bind fun z28 =>
       (z27.2.2.2.2.2[z28]?).bind fun z29 =>
       (bp N.n z9.1 x3 z27.2.1 z27.2.2.1 z27.2.2.2.1 z27.2.2.2.2.1 (List.set z27.2.2.2.2.2 z28 ({ kind := z29.kind,a := (z27.2.2.2.2.1 : Int),b := z29.b,set_ := z29.set_ } : Vstep))).bind fun z30 =>
       match z30 with
       | .pan vz30 =>
         some (.pan vz30)
       | .ok z31 =>
         (eB z31.2.2.2.1 z27.1).bind fun z32 =>
         (z31.2.2.2.2[z32]?).bind fun z33 =>
         some (.ok (true,z31.1,z31.2.1,z31.2.2.1,z31.2.2.2.1,List.set z31.2.2.2.2 z32 ({ kind := z33.kind,a := z33.a,b := (z31.2.2.2.1 : Int),set_ := z33.set_ } : Vstep)))
def bH (N : RecC) (n : Nat) (x3 : Int) (x4 : Bool) (x5 : Bool) (x6 : UInt8) (b100000_0 : List UInt8) (b100000_1 : Int) (b100000_2 : Int) (b100000_3_n : Nat) (b200001 : List Vstep) : Option (PR aJ) :=
 bif x5 then
  bif x4 then
   bif (b2i x6) != (b2i 63) then
    (aR N.n 4 b100000_1 b100000_0 b100000_1 b100000_2 b100000_3_n b200001).bind fun z6 =>
    match z6 with
    | .pan vz6 =>
      some (.pan vz6)
    | .ok z7 =>
      bl N n x3 x6 z7.1 z7.2.1 z7.2.2.1 z7.2.2.2.1 z7.2.2.2.2
   else
    bl N n x3 x6 b100000_0 b100000_1 b100000_2 b100000_3_n b200001
  else
   bl N n x3 x6 b100000_0 b100000_1 b100000_2 b100000_3_n b200001
 else
  bl N n x3 x6 b100000_0 b100000_1 b100000_2 b100000_3_n b200001
def dh (N : RecC) (y0_0 : List UInt8) (y0_1 : Int) (y0_2 : Int) (y0_3 : Nat) (y1 : List Vstep) : Option (PR aJ) :=
 (ap y0_0 y0_1).bind fun z1 =>
 (dt N y0_0 y0_1 y0_2 y0_3 y1).bind fun z2 =>
 match z2 with
 | .pan vz2 =>
   some (.pan vz2)
 | .ok z3 =>
   (bd N.n z3.2.1 z3.2.2.1 z3.2.2.2.1 z3.2.2.2.2.1 z3.2.2.2.2.2).bind fun z4 =>
   match z4 with
   | .pan vz4 =>
     some (.pan vz4)
   | .ok z5 =>
     bif !z5.2.1 then
      some (.ok (z3.1,z5.2.2.1,z5.2.2.2.1,z5.2.2.2.2.1,z5.2.2.2.2.2.1,z5.2.2.2.2.2.2))
     else
      bif (b2i z5.1) != (b2i 42) then
       bif (b2i z5.1) != (b2i 43) then
        bif (b2i z5.1) != (b2i 63) then
         some (.ok (z3.1,z5.2.2.1,z5.2.2.2.1,z5.2.2.2.2.1,z5.2.2.2.2.2.1,z5.2.2.2.2.2.2))
        else
         bH N N.n (y0_3 : Int) ((b2i z1) == (b2i 40)) z3.1 z5.1 z5.2.2.1 z5.2.2.2.1 z5.2.2.2.2.1 z5.2.2.2.2.2.1 z5.2.2.2.2.2.2
       else
        bH N N.n (y0_3 : Int) ((b2i z1) == (b2i 40)) z3.1 z5.1 z5.2.2.1 z5.2.2.2.1 z5.2.2.2.2.1 z5.2.2.2.2.2.1 z5.2.2.2.2.2.2
      else
       bH N N.n (y0_3 : Int) ((b2i z1) == (b2i 40)) z3.1 z5.1 z5.2.2.1 z5.2.2.2.1 z5.2.2.2.2.1 z5.2.2.2.2.2.1 z5.2.2.2.2.2.2
abbrev ba := Bool × (List UInt8) × Int × Int × Nat × (List Vstep)
def bU (N : RecC) : Nat → Bool → (List UInt8) → Int → Int → Nat → (List Vstep) → Option (PR ba)
 | 0,_,_,_,_,_,_ => none
 | n + 1, x3, b100000_0, b100000_1, b100000_2, b100000_3_n, b200001 =>
   (bd N.n b100000_0 b100000_1 b100000_2 b100000_3_n b200001).bind fun z1 =>
   match z1 with
   | .pan vz1 =>
     some (.pan vz1)
   | .ok z2 =>
     bif !z2.2.1 then
      some (.ok (x3,z2.2.2.1,z2.2.2.2.1,z2.2.2.2.2.1,z2.2.2.2.2.2.1,z2.2.2.2.2.2.2))
     else
      bif (b2i z2.1) == (b2i 124) then
       some (.ok (x3,z2.2.2.1,z2.2.2.2.1,z2.2.2.2.2.1,z2.2.2.2.2.2.1,z2.2.2.2.2.2.2))
      else
       bif (b2i z2.1) == (b2i 41) then
        some (.ok (x3,z2.2.2.1,z2.2.2.2.1,z2.2.2.2.2.1,z2.2.2.2.2.2.1,z2.2.2.2.2.2.2))
       else
        (dh N z2.2.2.1 z2.2.2.2.1 z2.2.2.2.2.1 z2.2.2.2.2.2.1 z2.2.2.2.2.2.2).bind fun z3 =>
        match z3 with
        | .pan vz3 =>
          some (.pan vz3)
        | .ok z4 =>
          bif !z4.1 then
           bU N n false z4.2.1 z4.2.2.1 z4.2.2.2.1 z4.2.2.2.2.1 z4.2.2.2.2.2
          else
           bU N n x3 z4.2.1 z4.2.2.1 z4.2.2.2.1 z4.2.2.2.2.1 z4.2.2.2.2.2
def dJ (N : RecC) (y0_0 : List UInt8) (y0_1 : Int) (y0_2 : Int) (y0_3 : Nat) (y1 : List Vstep) : Option (PR ba) :=
 bU N N.n true y0_0 y0_1 y0_2 y0_3 y1
abbrev bt := Bool × (List UInt8) × Int × Int × Nat × (List Vstep)
def dr (N : RecC) (y0_0 : List UInt8) (y0_1 : Int) (y0_2 : Int) (y0_3 : Nat) (y1 : List Vstep) : Option (PR bt) :=
 (dE N y0_0 y0_1 y0_2 y0_3 y1).bind fun z1 =>
 match z1 with
 | .pan vz1 =>
   some (.pan vz1)
 | .ok z2 =>
   some (.ok (z2.1,z2.2.1,z2.2.2.1,z2.2.2.2.1,z2.2.2.2.2.1,z2.2.2.2.2.2))
abbrev aG := Bool × (List UInt8) × Int × Int × Nat × (List Vstep)
def cF (N : RecC) (k3 : Int → Bool → (List UInt8) → Int → Int → Nat → (List Vstep) → Option (PR aG)) (n : Nat) (x4 : Bool) (x7 : Int) (b100000_0 : List UInt8) (b100000_1 : Int) (b100000_2 : Int) (b100000_3_n : Nat) (b200001 : List Vstep) : Option (PR aG) :=
 (eB b100000_3_n x7).bind fun z19 =>
 (b200001[z19]?).bind fun z20 =>
 some (.ok (x4,b100000_0,b100000_1,b100000_2,b100000_3_n,List.set b200001 z19 ({ kind := z20.kind,a := (b100000_3_n : Int),b := z20.b,set_ := z20.set_ } : Vstep)))
def bN (N : RecC) : Nat → Int → Bool → (List UInt8) → Int → Int → Nat → (List Vstep) → Option (PR aG)
 | 0,_,_,_,_,_,_,_ => none
 | n + 1, x3, x4, b100000_0, b100000_1, b100000_2, b100000_3_n, b200001 =>
   (bg N.n 124 b100000_0 b100000_1 b100000_2 b100000_3_n b200001).bind fun z3 =>
   match z3 with
   | .pan vz3 =>
     some (.pan vz3)
   | .ok z4 =>
     bif z4.1 then
      (cv N.n x3 z4.2.1 z4.2.2.1 z4.2.2.2.1 z4.2.2.2.2.1 z4.2.2.2.2.2).bind fun z5 =>
      match z5 with
      | .pan vz5 =>
        some (.pan vz5)
      | .ok z6 =>
        (aC N.n ({ kind := 1,a := 0,b := 0,set_ := (none : Option (List Bool)) } : Vstep) z6.2.1 z6.2.2.1 z6.2.2.2.1 z6.2.2.2.2.1 z6.2.2.2.2.2).bind fun z7 =>
        match z7 with
        | .pan vz7 =>
          some (.pan vz7)
        | .ok z8 =>
          (eB z8.2.2.2.2.1 z8.1).bind fun z9 =>
          (z8.2.2.2.2.2[z9]?).bind fun z10 =>
          (bp N.n z6.1 x3 z8.2.1 z8.2.2.1 z8.2.2.2.1 z8.2.2.2.2.1 (List.set z8.2.2.2.2.2 z9 ({ kind := z10.kind,a := (z8.2.2.2.2.1 : Int),b := z10.b,set_ := z10.set_ } : Vstep))).bind fun z11 =>
          match z11 with
          | .pan vz11 =>
            some (.pan vz11)
          | .ok z12 =>
            (aC N.n ({ kind := 2,a := 0,b := 0,set_ := (none : Option (List Bool)) } : Vstep) z12.1 z12.2.1 z12.2.2.1 z12.2.2.2.1 z12.2.2.2.2).bind fun z13 =>
            match z13 with
            | .pan vz13 =>
              some (.pan vz13)
            | .ok z14 =>
              (eB z14.2.2.2.2.1 z8.1).bind fun z15 =>
              (z14.2.2.2.2.2[z15]?).bind fun z16 =>
              (dr N z14.2.1 z14.2.2.1 z14.2.2.2.1 z14.2.2.2.2.1 (List.set z14.2.2.2.2.2 z15 ({ kind := z16.kind,a := z16.a,b := (z14.2.2.2.2.1 : Int),set_ := z16.set_ } : Vstep))).bind fun z17 =>
              match z17 with
              | .pan vz17 =>
                some (.pan vz17)
              | .ok z18 =>
                bif z18.1 then
                 cF N (bN N n) n true z14.1 z18.2.1 z18.2.2.1 z18.2.2.2.1 z18.2.2.2.2.1 z18.2.2.2.2.2
                else
                 cF N (bN N n) n x4 z14.1 z18.2.1 z18.2.2.1 z18.2.2.2.1 z18.2.2.2.2.1 z18.2.2.2.2.2
     else
      some (.ok (x4,z4.2.1,z4.2.2.1,z4.2.2.2.1,z4.2.2.2.2.1,z4.2.2.2.2.2))
def dp (N : RecC) (y0_0 : List UInt8) (y0_1 : Int) (y0_2 : Int) (y0_3 : Nat) (y1 : List Vstep) : Option (PR aG) :=
 (dJ N y0_0 y0_1 y0_2 y0_3 y1).bind fun z1 =>
 match z1 with
 | .pan vz1 =>
   some (.pan vz1)
 | .ok z2 =>
   bN N N.n (y0_3 : Int) z2.1 z2.2.1 z2.2.2.1 z2.2.2.2.1 z2.2.2.2.2.1 z2.2.2.2.2.2
def eu (n0 : Nat) : Nat → (List UInt8) → Int → Int → Nat → (List Vstep) → Option (PR (Bool × (List UInt8) × Int × Int × Nat × (List Vstep)))
 | 0,_,_,_,_,_ => none
 | m + 1,y0_0,y0_1,y0_2,y0_3,y1 => dp ⟨n0,eu n0 m⟩ y0_0 y0_1 y0_2 y0_3 y1
abbrev aK := (List (List UInt8)) × VMask
def cg (N : Nat) (k3 : (List UInt8) → (List Int) → (List (List UInt8)) → Int → VMask → Option aK) (n : Nat) (x1 : List UInt8) (x2 : List Int) (x7 : List (List UInt8)) (x8 : Int) (x9 : List UInt8) (b100000 : VMask) : Option aK :=
 (jD 16 x7 ([x9] : List (List UInt8))).bind fun z7 =>
 k3 x1 x2 z7 (w64 (x8 + 1)) b100000
def bB (N : Nat) : Nat → (List UInt8) → (List Int) → (List (List UInt8)) → Int → VMask → Option aK
 | 0,_,_,_,_,_ => none
 | n + 1, x1, x2, x7, x8, b100000 =>
   bif decide (x8 ≤ b100000.Groups) then
    (ap x2 (w64 (2 * x8))).bind fun z1 =>
    bif decide (z1 ≥ 0) then
     (ap x2 (w64 ((w64 (2 * x8)) + 1))).bind fun z2 =>
     (ap x2 (w64 (2 * x8))).bind fun z3 =>
     bif decide (z2 ≥ z3) then
      (ap x2 (w64 (2 * x8))).bind fun z4 =>
      (ap x2 (w64 ((w64 (2 * x8)) + 1))).bind fun z5 =>
      (lI x1 z4 z5).bind fun z6 =>
      cg N (bB N n) n x1 x2 x7 x8 z6 b100000
     else
      cg N (bB N n) n x1 x2 x7 x8 ([] : List UInt8) b100000
    else
     cg N (bB N n) n x1 x2 x7 x8 ([] : List UInt8) b100000
   else
    some (x7,b100000)
def dX (N : Nat) (x1 : List UInt8) (x2 : List Int) (y0 : VMask) : Option aK :=
 bB N N x1 x2 ([] : List (List UInt8)) 1 y0
def eU (N : Nat) (x0 : UInt8) : Option Bool :=
 bif decide ((b2i x0) ≥ (b2i 48)) then
  some (decide ((b2i x0) ≤ (b2i 57)))
 else
  some false
abbrev cw := (List Vpiece) × Bool
def cu (N : Nat) : Nat → (List UInt8) → (List Vpiece) → Option cw
 | 0,_,_ => none
 | n + 1, x0, x4 =>
   bif !decide (x0 = ([] : List UInt8)) then
    (ap x0 0).bind fun z1 =>
    bif (b2i z1) != (b2i 36) then
     (nD x0 ([36] : List UInt8)).bind fun z2 =>
     (co N z2 36).bind fun z3 =>
     (lI x0 0 z3).bind fun z4 =>
     (jD 24 x4 ([({ text := z4,group := (-1) } : Vpiece)] : List Vpiece)).bind fun z5 =>
     (lI x0 z3 (x0.length : Int)).bind fun z6 =>
     cu N n z6 z5
    else
     (lI x0 1 (x0.length : Int)).bind fun z7 =>
     bif decide (z7 = ([] : List UInt8)) then
      some (([] : List Vpiece),false)
     else
      (ap z7 0).bind fun z8 =>
      bif (b2i z8) == (b2i 36) then
       (jD 24 x4 ([({ text := ([36] : List UInt8),group := (-1) } : Vpiece)] : List Vpiece)).bind fun z9 =>
       (lI z7 1 (z7.length : Int)).bind fun z10 =>
       cu N n z10 z9
      else
       (ap z7 0).bind fun z11 =>
       (eU N z11).bind fun z12 =>
       bif z12 then
        (ap z7 0).bind fun z13 =>
        (jD 24 x4 ([({ text := ([] : List UInt8),group := w64 (b2i (toB (IntKind.wrap .u8 ((b2i z13) - (b2i 48))))) } : Vpiece)] : List Vpiece)).bind fun z14 =>
        (lI z7 1 (z7.length : Int)).bind fun z15 =>
        cu N n z15 z14
       else
        bif decide ((z7.length : Int) > 2) then
         (ap z7 0).bind fun z16 =>
         bif (b2i z16) == (b2i 123) then
          (ap z7 1).bind fun z17 =>
          (eU N z17).bind fun z18 =>
          bif z18 then
           (ap z7 2).bind fun z19 =>
           bif (b2i z19) == (b2i 125) then
            (ap z7 1).bind fun z20 =>
            (jD 24 x4 ([({ text := ([] : List UInt8),group := w64 (b2i (toB (IntKind.wrap .u8 ((b2i z20) - (b2i 48))))) } : Vpiece)] : List Vpiece)).bind fun z21 =>
            (lI z7 3 (z7.length : Int)).bind fun z22 =>
            cu N n z22 z21
           else
            some (([] : List Vpiece),false)
          else
           some (([] : List Vpiece),false)
         else
          some (([] : List Vpiece),false)
        else
         some (([] : List Vpiece),false)
   else
    some (x4,true)
def ip (N : Nat) (x0 : List UInt8) : Option cw :=
 cu N N x0 ([] : List Vpiece)
structure RecC2 where
 n : Nat
 k : Nat → Vthread → Int → VMask → (List Vthread) → (List (Int × Bool)) → Option (PR (Nat × VMask × (List Vthread) × (List (Int × Bool))))
def cO (N : RecC2) (x1_n : Nat) (x3 : Vthread) (x4 : Int) (y0 : VMask) (y1 : List Vthread) (y2 : List (Int × Bool)) : Option (PR (Nat × VMask × (List Vthread) × (List (Int × Bool)))) := N.k x1_n x3 x4 y0 y1 y2
abbrev bm := Nat × VMask × (List Vthread) × (List (Int × Bool))
def ah (N : RecC2) (n : Nat) (x1_n : Nat) (x4 : Int) (b8 : Vthread) (b11 : Vstep) (b100000 : VMask) (b100002 : List (Int × Bool)) (b200001 : List Vthread) : Option (PR bm) :=
 bif b11.kind == 2 then
  (cO N x1_n ({ at_ := b11.a,slots := b8.slots } : Vthread) x4 b100000 b200001 b100002).bind fun z121 =>
  match z121 with
  | .pan vz121 =>
    some (.pan vz121)
  | .ok z122 =>
    some (.ok (z122.1,z122.2.1,z122.2.2.1,z122.2.2.2))
 else
  bif b11.kind == 1 then
   (cO N x1_n ({ at_ := b11.a,slots := b8.slots } : Vthread) x4 b100000 b200001 b100002).bind fun z123 =>
   match z123 with
   | .pan vz123 =>
     some (.pan vz123)
   | .ok z124 =>
     (cO N z124.1 ({ at_ := b11.b,slots := b8.slots } : Vthread) x4 z124.2.1 z124.2.2.1 z124.2.2.2).bind fun z125 =>
     match z125 with
     | .pan vz125 =>
       some (.pan vz125)
     | .ok z126 =>
       some (.ok (z126.1,z126.2.1,z126.2.2.1,z126.2.2.2))
  else
   bif b11.kind == 3 then
    (iT N.n b8.slots).bind fun z127 =>
    match z127 with
    | .pan vz127 =>
      some (.pan vz127)
    | .ok z128 =>
      (eB z128.1 b11.a).bind fun z129 =>
      (z128.2[z129]?).bind fun z130 =>
      (o5 z128.1 (List.set z128.2 z129 x4)).bind fun z131 =>
      (cO N x1_n ({ at_ := w64 (b8.at_ + 1),slots := z131 } : Vthread) x4 b100000 b200001 b100002).bind fun z132 =>
      match z132 with
      | .pan vz132 =>
        some (.pan vz132)
      | .ok z133 =>
        some (.ok (z133.1,z133.2.1,z133.2.2.1,z133.2.2.2))
   else
    (p8 32 x1_n b200001 ([b8] : List Vthread)).bind fun z134 =>
    some (.ok (z134.length,b100000,z134,b100002))
def fM (N : RecC2) (x1_n : Nat) (x3 : Vthread) (x4 : Int) (y0 : VMask) (y1 : List Vthread) (y2 : List (Int × Bool)) : Option (PR bm) :=
 bif (rb y2 x3.at_).getD false then
  some (.ok (x1_n,y0,y1,y2))
 else
  (ap y0.steps x3.at_).bind fun z120 =>
  ah N N.n x1_n x4 x3 z120 y0 (aE y2 x3.at_ true) y1
def eZ (n0 : Nat) : Nat → Nat → Vthread → Int → VMask → (List Vthread) → (List (Int × Bool)) → Option (PR (Nat × VMask × (List Vthread) × (List (Int × Bool))))
 | 0,_,_,_,_,_,_ => none
 | m + 1,x1_n,x3,x4,y0,y1,y2 => fM ⟨n0,eZ n0 m⟩ x1_n x3 x4 y0 y1 y2
def bw (N : Nat) (x1_n : Nat) (x3 : Vthread) (x4 : Int) (y0 : VMask) (y1 : List Vthread) (y2 : List (Int × Bool)) : Option (PR (Nat × VMask × (List Vthread) × (List (Int × Bool)))) := eZ N N x1_n x3 x4 y0 y1 y2
end Go.Proofs.Ytlhjbhgkhpbnfaa
namespace Go.Proofs.Ytlhjbhgkhpbnfaa
open Go.RowKit P
set_option linter.unusedVariables false
set_option linter.unusedSimpArgs false
set_option maxRecDepth 100000
def eb (i0 : Nat) (i1 : Nat) (r : bA) : TV EE.T := .a (.d (.int .i64) r.1)
def rV (i0 : Nat) (i1 : Nat) (r : bA) : List (Nat × TB EE.T) := [(i0,.cs [.d .str r.2.1,.d (.int .i64) r.2.2.1,.d (.int .i64) r.2.2.2.1,.vec (.nam 7) i1 r.2.2.2.2.1]),(i1,.vec i1 (.nam 7) r.2.2.2.2.2)]
def pc (r : PR bA) : RL EE.T := mi (eb 100000 200001) (rV 100000 200001) r
def Ip : Lvs := ⟨[(1,⟨[(0,false),(3,false)],[],[(3,(some 7,[])),(100000,(none,[])),(200001,(none,[]))],[]⟩)],[],[],[],false,[(100000,(none,[]))],[100000,200001],[],[(12,200001)]⟩
def G2 : List ResultVar := [.tmp 4]
def GH (N : Nat) : Gam EE := ⟨[],EQT,[],[]⟩
theorem Gn (N : Nat) : GOk Try.prog TT EE (GH N) := GOk.nil dv
def GF (c : Code) : List It2 := [.c c]
def Eu (x1 : Vstep) (y0_0 : List UInt8) (y0_1 : Int) (y0_2 : Int) (y0_3 : Nat) (y1 : List Vstep) : TS EE.T := ⟨21,[(0,.a (.box 100000 0)),(1,.ag (ev EE (.nam 7) x1))],[(100000,.cs [.d .str y0_0,.d (.int .i64) y0_1,.d (.int .i64) y0_2,.vec (.nam 7) 200001 y0_3]),(200001,.vec 200001 (.nam 7) y1)],[]⟩
abbrev GT (N : Nat) (r : PR bA) (k : List It2) (s : TS EE.T) : Prop := fT (Y := TT) EE (GH N) Ip G2 (fun u => u = pc r) k s
def IB (x : PR bA) : Tree (Lf EE.T × Option (PR bA)) := .leaf (.done (pc x),some x)
theorem Gu {N : Nat} {r : PR bA} (x1 : Vstep) (y0_0 : List UInt8) (y0_1 : Int) (y0_2 : Int) (y0_3 : Nat) (y1 : List Vstep) (h : aC N x1 y0_0 y0_1 y0_2 y0_3 y1 = some r) : GT N r (GF (ai 0 Try.f36)) (Eu x1 y0_0 y0_1 y0_2 y0_3 y1) :=
 aQ (m := 4000) (t :=
 .bnd (p8 32 y0_3 y1 ([x1] : List Vstep)) fun z1 =>
 IB (.ok (w64 ((z1.length : Int) - 1),y0_0,y0_1,y0_2,z1.length,z1))) (by kernel_rfl) (by kernel_rfl) h (fun _ => bc (enc := pc) rfl)
def Bx (x1 : Vstep) (y0_0 : List UInt8) (y0_1 : Int) (y0_2 : Int) (y0_3 : Nat) (y1 : List Vstep) : List (TV EE.T) := [.a (.box 100000 0),.ag (ev EE (.nam 7) x1)]
def xw (x1 : Vstep) (y0_0 : List UInt8) (y0_1 : Int) (y0_2 : Int) (y0_3 : Nat) (y1 : List Vstep) : List (Nat × TB EE.T) := [(100000,.cs [.d .str y0_0,.d (.int .i64) y0_1,.d (.int .i64) y0_2,.vec (.nam 7) 200001 y0_3]),(200001,.vec 200001 (.nam 7) y1)]
theorem gp {N : Nat} (x1 : Vstep) (y0_0 : List UInt8) (y0_1 : Int) (y0_2 : Int) (y0_3 : Nat) (y1 : List Vstep) {r : PR bA} (h : aC N x1 y0_0 y0_1 y0_2 y0_3 y1 = some r) (ρ : Rn) (hi : Inj ρ (xw x1 y0_0 y0_1 y0_2 y0_3 y1)) : aT Try.prog 36 ((Bx x1 y0_0 y0_1 y0_2 y0_3 y1).map (TV.to EE.toEnc ρ)) (hTo EE.toEnc ρ (xw x1 y0_0 y0_1 y0_2 y0_3 y1)) (da EE ρ fun u => u = pc r) :=
 eW (ai 0 Try.f36) 21 mixed (Gn N) Try.func36 (by kernel_rfl) rfl rfl rfl rfl (Gu x1 y0_0 y0_1 y0_2 y0_3 y1 h) ρ hi
def de (N : Nat) (us : List (TV EE.T)) (hs : List (Nat × TB EE.T)) : XR EE.T :=
 gdX (fx us 2) <|
 bnX (aB us 0) fun i0 =>
 bnX (aS EE 7 us 1) fun x1 =>
 bnX (bC hs i0) fun l0 =>
 gdX (fx l0 4) <|
 bnX (cD .str l0 0) fun y0_0 =>
 bnX (cD (.int .i64) l0 1) fun y0_1 =>
 bnX (cD (.int .i64) l0 2) fun y0_2 =>
 bnX (cVi (.nam 7) l0 3) fun i1 =>
 bnX (cVn (.nam 7) l0 3) fun y0_3 =>
 bnX (bV (.nam 7) hs i1) fun y1 =>
 gdX (bR hs [i0,i1]) <|
 gdX (gV [i0,i1]) <|
 .mv (aC N x1 y0_0 y0_1 y0_2 y0_3 y1) [i0,i1] (mvL [i0,i1] [100000,200001]) 0 (eb i0 i1) (rV i0 i1)
theorem dB (N : Nat) : XOk Try.prog EE 36 (de N) := fun us hs =>
 a7 fun h1 => aA fun i0 h2 => aA fun x1 h3 => aA fun l0 h4 => a7 fun h5 => aA fun y0_0 h6 => aA fun y0_1 h7 => aA fun y0_2 h8 => aA fun i1 h9 => aA fun y0_3 h10 => aA fun y1 h11 => a7 fun h12 => a7 fun h13 => fun p hz ρ hi => fN (ex := []) (ks := [100000,200001]) (us' := Bx x1 y0_0 y0_1 y0_2 y0_3 y1) (h0 := xw x1 y0_0 y0_1 y0_2 y0_3 y1) (ρ' := lO ρ [i0,i1]) (uc := eb 100000 200001) (u := eb i0 i1) (hc := rV 100000 200001) (h := rV i0 i1) hi h12 (by kernel_rfl) ⟨iF h2 (by kernel_rfl),FW h3,ce h1⟩ ⟨(by kernel_rfl),ko h4 ⟨df h6,df h7,df h8,g8 h9 h10 (by kernel_rfl),ce h5⟩,(by kernel_rfl),i6 h11 (by kernel_rfl),trivial⟩ ⟨.inr rfl,.inl rfl,trivial⟩ h13 (fun hj => gp x1 y0_0 y0_1 y0_2 y0_3 y1 hz _ hj) (fun z => ⟨by kernel_rfl,by kernel_rfl,by kernel_rfl,by kernel_rfl⟩)
def dS (i0 : Nat) (i1 : Nat) (r : bv) : TV EE.T := .tu [.a (.d .byte r.1),.a (.d .bool r.2.1)]
def rJ (i0 : Nat) (i1 : Nat) (r : bv) : List (Nat × TB EE.T) := [(i0,.cs [.d .str r.2.2.1,.d (.int .i64) r.2.2.2.1,.d (.int .i64) r.2.2.2.2.1,.vec (.nam 7) i1 r.2.2.2.2.2.1]),(i1,.vec i1 (.nam 7) r.2.2.2.2.2.2)]
def ml (r : PR bv) : RL EE.T := mi (dS 100000 200001) (rJ 100000 200001) r
def IG : Lvs := ⟨[(1,⟨[(0,false)],[],[(100000,(none,[])),(200001,(none,[]))],[]⟩),(2,⟨[(0,false)],[],[(100000,(none,[])),(200001,(none,[]))],[]⟩)],[],[],[],false,[(100000,(none,[]))],[100000,200001],[],[]⟩
def GR : List ResultVar := [.tmp 2,.tmp 3]
def DN (N : Nat) : Gam EE := ⟨[],EQT,[],[]⟩
theorem Gg (N : Nat) : GOk Try.prog TT EE (DN N) := GOk.nil dv
def EM (c : Code) : List It2 := [.c c]
def FO (y0_0 : List UInt8) (y0_1 : Int) (y0_2 : Int) (y0_3 : Nat) (y1 : List Vstep) : TS EE.T := ⟨23,[(0,.a (.box 100000 0))],[(100000,.cs [.d .str y0_0,.d (.int .i64) y0_1,.d (.int .i64) y0_2,.vec (.nam 7) 200001 y0_3]),(200001,.vec 200001 (.nam 7) y1)],[]⟩
abbrev Hz (N : Nat) (r : PR bv) (k : List It2) (s : TS EE.T) : Prop := fT (Y := TT) EE (DN N) IG GR (fun u => u = ml r) k s
def BY (x : PR bv) : Tree (Lf EE.T × Option (PR bv)) := .leaf (.done (ml x),some x)
theorem Ey {N : Nat} {r : PR bv} (y0_0 : List UInt8) (y0_1 : Int) (y0_2 : Int) (y0_3 : Nat) (y1 : List Vstep) (h : bd N y0_0 y0_1 y0_2 y0_3 y1 = some r) : Hz N r (EM (ai 0 Try.f61)) (FO y0_0 y0_1 y0_2 y0_3 y1) :=
 aQ (m := 4000) (t :=
 .cond (decide (y0_1 < (y0_0.length : Int)))
 (
  .bnd (ap y0_0 y0_1) fun z1 =>
  BY (.ok (z1,true,y0_0,y0_1,y0_2,y0_3,y1)))
 (
  BY (.ok (0,false,y0_0,y0_1,y0_2,y0_3,y1)))) (by kernel_rfl) (by kernel_rfl) h (⟨fun _ => bc (enc := ml) rfl,bc (enc := ml) rfl⟩)
def Bo (y0_0 : List UInt8) (y0_1 : Int) (y0_2 : Int) (y0_3 : Nat) (y1 : List Vstep) : List (TV EE.T) := [.a (.box 100000 0)]
def w6 (y0_0 : List UInt8) (y0_1 : Int) (y0_2 : Int) (y0_3 : Nat) (y1 : List Vstep) : List (Nat × TB EE.T) := [(100000,.cs [.d .str y0_0,.d (.int .i64) y0_1,.d (.int .i64) y0_2,.vec (.nam 7) 200001 y0_3]),(200001,.vec 200001 (.nam 7) y1)]
theorem jV {N : Nat} (y0_0 : List UInt8) (y0_1 : Int) (y0_2 : Int) (y0_3 : Nat) (y1 : List Vstep) {r : PR bv} (h : bd N y0_0 y0_1 y0_2 y0_3 y1 = some r) (ρ : Rn) (hi : Inj ρ (w6 y0_0 y0_1 y0_2 y0_3 y1)) : aT Try.prog 61 ((Bo y0_0 y0_1 y0_2 y0_3 y1).map (TV.to EE.toEnc ρ)) (hTo EE.toEnc ρ (w6 y0_0 y0_1 y0_2 y0_3 y1)) (da EE ρ fun u => u = ml r) :=
 eW (ai 0 Try.f61) 23 mixed (Gg N) Try.func61 (by kernel_rfl) rfl rfl rfl rfl (Ey y0_0 y0_1 y0_2 y0_3 y1 h) ρ hi
def cr (N : Nat) (us : List (TV EE.T)) (hs : List (Nat × TB EE.T)) : XR EE.T :=
 gdX (fx us 1) <|
 bnX (aB us 0) fun i0 =>
 bnX (bC hs i0) fun l0 =>
 gdX (fx l0 4) <|
 bnX (cD .str l0 0) fun y0_0 =>
 bnX (cD (.int .i64) l0 1) fun y0_1 =>
 bnX (cD (.int .i64) l0 2) fun y0_2 =>
 bnX (cVi (.nam 7) l0 3) fun i1 =>
 bnX (cVn (.nam 7) l0 3) fun y0_3 =>
 bnX (bV (.nam 7) hs i1) fun y1 =>
 gdX (bR hs [i0,i1]) <|
 gdX (gV [i0,i1]) <|
 .mv (bd N y0_0 y0_1 y0_2 y0_3 y1) [i0,i1] (mvL [i0,i1] [100000,200001]) 0 (dS i0 i1) (rJ i0 i1)
theorem cG (N : Nat) : XOk Try.prog EE 61 (cr N) := fun us hs =>
 a7 fun h1 => aA fun i0 h2 => aA fun l0 h3 => a7 fun h4 => aA fun y0_0 h5 => aA fun y0_1 h6 => aA fun y0_2 h7 => aA fun i1 h8 => aA fun y0_3 h9 => aA fun y1 h10 => a7 fun h11 => a7 fun h12 => fun p hz ρ hi => fN (ex := []) (ks := [100000,200001]) (us' := Bo y0_0 y0_1 y0_2 y0_3 y1) (h0 := w6 y0_0 y0_1 y0_2 y0_3 y1) (ρ' := lO ρ [i0,i1]) (uc := dS 100000 200001) (u := dS i0 i1) (hc := rJ 100000 200001) (h := rJ i0 i1) hi h11 (by kernel_rfl) ⟨iF h2 (by kernel_rfl),ce h1⟩ ⟨(by kernel_rfl),ko h3 ⟨df h5,df h6,df h7,g8 h8 h9 (by kernel_rfl),ce h4⟩,(by kernel_rfl),i6 h10 (by kernel_rfl),trivial⟩ ⟨.inr rfl,.inl rfl,trivial⟩ h12 (fun hj => jV y0_0 y0_1 y0_2 y0_3 y1 hz _ hj) (fun z => ⟨by kernel_rfl,by kernel_rfl,by kernel_rfl,by kernel_rfl⟩)
def dK (i0 : Nat) (i1 : Nat) (r : br) : TV EE.T := .tu []
def ro (i0 : Nat) (i1 : Nat) (r : br) : List (Nat × TB EE.T) := [(i0,.cs [.d .str r.1,.d (.int .i64) r.2.1,.d (.int .i64) r.2.2.1,.vec (.nam 7) i1 r.2.2.2.1]),(i1,.vec i1 (.nam 7) r.2.2.2.2)]
def o9 (r : PR br) : RL EE.T := mi (dK 100000 200001) (ro 100000 200001) r
def HF : Lvs := ⟨[],[],[],[],false,[],[100000,200001],[],[]⟩
def He : List ResultVar := []
def Dp (N : Nat) : Gam EE := ⟨[],EQT,[],[]⟩
theorem En (N : Nat) : GOk Try.prog TT EE (Dp N) := GOk.nil dv
def GL (c : Code) : List It2 := [.c c]
def FF (x1 : Int) (x2 : Int) (y0_0 : List UInt8) (y0_1 : Int) (y0_2 : Int) (y0_3 : Nat) (y1 : List Vstep) : TS EE.T := ⟨10,[(0,.a (.box 100000 0)),(1,.a (.d (.int .i64) x1)),(2,.a (.d (.int .i64) x2))],[(100000,.cs [.d .str y0_0,.d (.int .i64) y0_1,.d (.int .i64) y0_2,.vec (.nam 7) 200001 y0_3]),(200001,.vec 200001 (.nam 7) y1)],[]⟩
abbrev qIO (N : Nat) (r : PR br) (k : List It2) (s : TS EE.T) : Prop := fT (Y := TT) EE (Dp N) HF He (fun u => u = o9 r) k s
def GX (x : PR br) : Tree (Lf EE.T × Option (PR br)) := .leaf (.done (o9 x),some x)
theorem Fb {N : Nat} {r : PR br} (x1 : Int) (x2 : Int) (y0_0 : List UInt8) (y0_1 : Int) (y0_2 : Int) (y0_3 : Nat) (y1 : List Vstep) (h : aR N x1 x2 y0_0 y0_1 y0_2 y0_3 y1 = some r) : qIO N r (GL (ai 0 Try.f35)) (FF x1 x2 y0_0 y0_1 y0_2 y0_3 y1) :=
 aQ (m := 4000) (t :=
 GX (.pan (Value.iface 28 (.agg #[.int .i64 x1,.int .i64 x2])))) (by kernel_rfl) (by kernel_rfl) h (bc (enc := o9) rfl)
def BX (x1 : Int) (x2 : Int) (y0_0 : List UInt8) (y0_1 : Int) (y0_2 : Int) (y0_3 : Nat) (y1 : List Vstep) : List (TV EE.T) := [.a (.box 100000 0),.a (.d (.int .i64) x1),.a (.d (.int .i64) x2)]
def wz (x1 : Int) (x2 : Int) (y0_0 : List UInt8) (y0_1 : Int) (y0_2 : Int) (y0_3 : Nat) (y1 : List Vstep) : List (Nat × TB EE.T) := [(100000,.cs [.d .str y0_0,.d (.int .i64) y0_1,.d (.int .i64) y0_2,.vec (.nam 7) 200001 y0_3]),(200001,.vec 200001 (.nam 7) y1)]
theorem fZ {N : Nat} (x1 : Int) (x2 : Int) (y0_0 : List UInt8) (y0_1 : Int) (y0_2 : Int) (y0_3 : Nat) (y1 : List Vstep) {r : PR br} (h : aR N x1 x2 y0_0 y0_1 y0_2 y0_3 y1 = some r) (ρ : Rn) (hi : Inj ρ (wz x1 x2 y0_0 y0_1 y0_2 y0_3 y1)) : aT Try.prog 35 ((BX x1 x2 y0_0 y0_1 y0_2 y0_3 y1).map (TV.to EE.toEnc ρ)) (hTo EE.toEnc ρ (wz x1 x2 y0_0 y0_1 y0_2 y0_3 y1)) (da EE ρ fun u => u = o9 r) :=
 eW (ai 0 Try.f35) 10 mixed (En N) Try.func35 (by kernel_rfl) rfl rfl rfl rfl (Fb x1 x2 y0_0 y0_1 y0_2 y0_3 y1 h) ρ hi
def cS (N : Nat) (us : List (TV EE.T)) (hs : List (Nat × TB EE.T)) : XR EE.T :=
 gdX (fx us 3) <|
 bnX (aB us 0) fun i0 =>
 bnX (aD (.int .i64) us 1) fun x1 =>
 bnX (aD (.int .i64) us 2) fun x2 =>
 bnX (bC hs i0) fun l0 =>
 gdX (fx l0 4) <|
 bnX (cD .str l0 0) fun y0_0 =>
 bnX (cD (.int .i64) l0 1) fun y0_1 =>
 bnX (cD (.int .i64) l0 2) fun y0_2 =>
 bnX (cVi (.nam 7) l0 3) fun i1 =>
 bnX (cVn (.nam 7) l0 3) fun y0_3 =>
 bnX (bV (.nam 7) hs i1) fun y1 =>
 gdX (bR hs [i0,i1]) <|
 gdX (gV [i0,i1]) <|
 .mv (aR N x1 x2 y0_0 y0_1 y0_2 y0_3 y1) [i0,i1] (mvL [i0,i1] [100000,200001]) 0 (dK i0 i1) (ro i0 i1)
theorem dn (N : Nat) : XOk Try.prog EE 35 (cS N) := fun us hs =>
 a7 fun h1 => aA fun i0 h2 => aA fun x1 h3 => aA fun x2 h4 => aA fun l0 h5 => a7 fun h6 => aA fun y0_0 h7 => aA fun y0_1 h8 => aA fun y0_2 h9 => aA fun i1 h10 => aA fun y0_3 h11 => aA fun y1 h12 => a7 fun h13 => a7 fun h14 => fun p hz ρ hi => fN (ex := []) (ks := [100000,200001]) (us' := BX x1 x2 y0_0 y0_1 y0_2 y0_3 y1) (h0 := wz x1 x2 y0_0 y0_1 y0_2 y0_3 y1) (ρ' := lO ρ [i0,i1]) (uc := dK 100000 200001) (u := dK i0 i1) (hc := ro 100000 200001) (h := ro i0 i1) hi h13 (by kernel_rfl) ⟨iF h2 (by kernel_rfl),lZ h3,lZ h4,ce h1⟩ ⟨(by kernel_rfl),ko h5 ⟨df h7,df h8,df h9,g8 h10 h11 (by kernel_rfl),ce h6⟩,(by kernel_rfl),i6 h12 (by kernel_rfl),trivial⟩ ⟨.inr rfl,.inl rfl,trivial⟩ h14 (fun hj => fZ x1 x2 y0_0 y0_1 y0_2 y0_3 y1 hz _ hj) (fun z => ⟨by kernel_rfl,by kernel_rfl,by kernel_rfl,by kernel_rfl⟩)
def oF (r : fB) : TV EE.T := .a (.d (.ptr (.bits 256)) r)
def Ai (r : fB) : RL EE.T := .ret (oF r) []
def LD : Lvs := ⟨[],[],[],[],false,[],[],[(3,[.cl 3 (.a 256) (.s 3)])],[]⟩
def Lr : List ResultVar := [.tmp 2]
def KW (N : Nat) : Gam EE := ⟨[],EQT,[],[]⟩
theorem Kj (N : Nat) : GOk Try.prog TT EE (KW N) := GOk.nil dv
def JM (c : Code) : List It2 := [.c c]
def Kc (x0 : UInt8) : TS EE.T := ⟨6,[(0,.a (.d .byte x0))],[],[]⟩
abbrev Lk (N : Nat) (r : fB) (k : List It2) (s : TS EE.T) : Prop := fT (Y := TT) EE (KW N) LD Lr (fun u => u = Ai r) k s
def Lq (x : fB) : Tree (Lf EE.T × Option fB) := .leaf (.done (Ai x),some x)
theorem Jw {N : Nat} {r : fB} (x0 : UInt8) (h : gB N x0 = some r) : Lk N r (JM (ai 0 Try.f68)) (Kc x0) :=
 aQ (m := 4000) (t :=
 .bnd (eB 256 (b2i x0)) fun z1 =>
 .bnd (t8 ([false,false,false,false,false,false,false,false,false,false,false,false,false,false,false,false,false,false,false,false,false,false,false,false,false,false,false,false,false,false,false,false,false,false,false,false,false,false,false,false,false,false,false,false,false,false,false,false,false,false,false,false,false,false,false,false,false,false,false,false,false,false,false,false,false,false,false,false,false,false,false,false,false,false,false,false,false,false,false,false,false,false,false,false,false,false,false,false,false,false,false,false,false,false,false,false,false,false,false,false,false,false,false,false,false,false,false,false,false,false,false,false,false,false,false,false,false,false,false,false,false,false,false,false,false,false,false,false,false,false,false,false,false,false,false,false,false,false,false,false,false,false,false,false,false,false,false,false,false,false,false,false,false,false,false,false,false,false,false,false,false,false,false,false,false,false,false,false,false,false,false,false,false,false,false,false,false,false,false,false,false,false,false,false,false,false,false,false,false,false,false,false,false,false,false,false,false,false,false,false,false,false,false,false,false,false,false,false,false,false,false,false,false,false,false,false,false,false,false,false,false,false,false,false,false,false,false,false,false,false,false,false,false,false,false,false,false,false,false,false,false,false,false,false,false,false,false,false,false,false,false,false,false,false,false,false] : List Bool) (0 + z1) true) fun z2 =>
 .bnd (o5 256 z2) fun z3 =>
 Lq (some z3)) (by kernel_rfl) (by kernel_rfl) h (fun _ => fun _ => fun _ => bc (enc := Ai) rfl)
theorem zc {N : Nat} (x0 : UInt8) {r : fB} (h : gB N x0 = some r) (ρ : Rn) : aT Try.prog 68 (([.a (.d .byte x0)] : List (TV EE.T)).map (TV.to EE.toEnc ρ)) [] (fun out H => out = .ret ((oF r).to EE.toEnc ρ) ∧ H = []) :=
 (qK (ai 0 Try.f68) 6 mixed (Kj N) Try.func68 (by kernel_rfl) rfl rfl rfl rfl (Jw x0 h) ρ).mono fun out H h => da.ret rfl h
def oe (N : Nat) : List (TV EE.T) → PV EE.T
 | [u0] => match kT .byte u0 with
   | some x0 => .opt (gB N x0) oF
   | _ => .bad
 | _ => .bad
theorem vX (N : Nat) (us : List (TV EE.T)) : (oe N us).ok fun u => ∀ ρ, aT Try.prog 68 (us.map (TV.to EE.toEnc ρ)) [] (fun out H => out = .ret (u.to EE.toEnc ρ) ∧ H = []) := by
 unfold oe
 split
 ·split
  ·rename_i h0
   intro z hz ρ; refine fH ?_ (zc _ hz ρ); exact ⟨eo h0 ρ,trivial⟩
  ·trivial
 ·trivial
def d7 (i0 : Nat) (i1 : Nat) (r : bE) : TV EE.T := .a (.d .bool r.1)
def rS (i0 : Nat) (i1 : Nat) (r : bE) : List (Nat × TB EE.T) := [(i0,.cs [.d .str r.2.1,.d (.int .i64) r.2.2.1,.d (.int .i64) r.2.2.2.1,.vec (.nam 7) i1 r.2.2.2.2.1]),(i1,.vec i1 (.nam 7) r.2.2.2.2.2)]
def i7 (r : PR bE) : RL EE.T := mi (d7 100000 200001) (rS 100000 200001) r
def Hd : Lvs := ⟨[],[],[],[],false,[(100000,(none,[]))],[100000,200001],[],[]⟩
def Hn : List ResultVar := [.tmp 4]
def Dm (N : Nat) : Gam EE := ⟨[],EQT,[⟨61,cr N⟩],[]⟩
theorem F4 (N : Nat) : GOk Try.prog TT EE (Dm N) := GOk.consx (cG N) (GOk.nil dv)
def FL (c : Code) : List It2 := [.c c]
def Et (x1 : UInt8) (y0_0 : List UInt8) (y0_1 : Int) (y0_2 : Int) (y0_3 : Nat) (y1 : List Vstep) : TS EE.T := ⟨25,[(0,.a (.box 100000 0)),(1,.a (.d .byte x1))],[(100000,.cs [.d .str y0_0,.d (.int .i64) y0_1,.d (.int .i64) y0_2,.vec (.nam 7) 200001 y0_3]),(200001,.vec 200001 (.nam 7) y1)],[]⟩
abbrev Hl (N : Nat) (r : PR bE) (k : List It2) (s : TS EE.T) : Prop := fT (Y := TT) EE (Dm N) Hd Hn (fun u => u = i7 r) k s
def rx (x : PR bE) : Tree (Lf EE.T × Option (PR bE)) := .leaf (.done (i7 x),some x)
theorem FG {N : Nat} {r : PR bE} (x1 : UInt8) (y0_0 : List UInt8) (y0_1 : Int) (y0_2 : Int) (y0_3 : Nat) (y1 : List Vstep) (h : bg N x1 y0_0 y0_1 y0_2 y0_3 y1 = some r) : Hl N r (FL (ai 0 Try.f50)) (Et x1 y0_0 y0_1 y0_2 y0_3 y1) :=
 aQ (m := 4000) (t :=
 .bnd (bd N y0_0 y0_1 y0_2 y0_3 y1) fun z1 =>
 .sm z1 (fun z2 =>
  .cond (z2.2.1)
  (
   .cond ((b2i z2.1) == (b2i x1))
   (
    rx (.ok (true,z2.2.2.1,w64 (z2.2.2.2.1 + 1),z2.2.2.2.2.1,z2.2.2.2.2.2.1,z2.2.2.2.2.2.2)))
   (
    rx (.ok (false,z2.2.2.1,z2.2.2.2.1,z2.2.2.2.2.1,z2.2.2.2.2.2.1,z2.2.2.2.2.2.2))))
  (
   rx (.ok (false,z2.2.2.1,z2.2.2.2.1,z2.2.2.2.2.1,z2.2.2.2.2.2.1,z2.2.2.2.2.2.2)))) (fun vz1 =>
  rx (.pan vz1))) (by kernel_rfl) (by kernel_rfl) h (fun _ => ⟨fun _ => ⟨⟨bc (enc := i7) rfl,bc (enc := i7) rfl⟩,bc (enc := i7) rfl⟩,fun _ => bc (enc := i7) rfl⟩)
def BH (x1 : UInt8) (y0_0 : List UInt8) (y0_1 : Int) (y0_2 : Int) (y0_3 : Nat) (y1 : List Vstep) : List (TV EE.T) := [.a (.box 100000 0),.a (.d .byte x1)]
def wh (x1 : UInt8) (y0_0 : List UInt8) (y0_1 : Int) (y0_2 : Int) (y0_3 : Nat) (y1 : List Vstep) : List (Nat × TB EE.T) := [(100000,.cs [.d .str y0_0,.d (.int .i64) y0_1,.d (.int .i64) y0_2,.vec (.nam 7) 200001 y0_3]),(200001,.vec 200001 (.nam 7) y1)]
theorem kD {N : Nat} (x1 : UInt8) (y0_0 : List UInt8) (y0_1 : Int) (y0_2 : Int) (y0_3 : Nat) (y1 : List Vstep) {r : PR bE} (h : bg N x1 y0_0 y0_1 y0_2 y0_3 y1 = some r) (ρ : Rn) (hi : Inj ρ (wh x1 y0_0 y0_1 y0_2 y0_3 y1)) : aT Try.prog 50 ((BH x1 y0_0 y0_1 y0_2 y0_3 y1).map (TV.to EE.toEnc ρ)) (hTo EE.toEnc ρ (wh x1 y0_0 y0_1 y0_2 y0_3 y1)) (da EE ρ fun u => u = i7 r) :=
 eW (ai 0 Try.f50) 25 mixed (F4 N) Try.func50 (by kernel_rfl) rfl rfl rfl rfl (FG x1 y0_0 y0_1 y0_2 y0_3 y1 h) ρ hi
def d8 (N : Nat) (us : List (TV EE.T)) (hs : List (Nat × TB EE.T)) : XR EE.T :=
 gdX (fx us 2) <|
 bnX (aB us 0) fun i0 =>
 bnX (aD .byte us 1) fun x1 =>
 bnX (bC hs i0) fun l0 =>
 gdX (fx l0 4) <|
 bnX (cD .str l0 0) fun y0_0 =>
 bnX (cD (.int .i64) l0 1) fun y0_1 =>
 bnX (cD (.int .i64) l0 2) fun y0_2 =>
 bnX (cVi (.nam 7) l0 3) fun i1 =>
 bnX (cVn (.nam 7) l0 3) fun y0_3 =>
 bnX (bV (.nam 7) hs i1) fun y1 =>
 gdX (bR hs [i0,i1]) <|
 gdX (gV [i0,i1]) <|
 .mv (bg N x1 y0_0 y0_1 y0_2 y0_3 y1) [i0,i1] (mvL [i0,i1] [100000,200001]) 0 (d7 i0 i1) (rS i0 i1)
theorem eA (N : Nat) : XOk Try.prog EE 50 (d8 N) := fun us hs =>
 a7 fun h1 => aA fun i0 h2 => aA fun x1 h3 => aA fun l0 h4 => a7 fun h5 => aA fun y0_0 h6 => aA fun y0_1 h7 => aA fun y0_2 h8 => aA fun i1 h9 => aA fun y0_3 h10 => aA fun y1 h11 => a7 fun h12 => a7 fun h13 => fun p hz ρ hi => fN (ex := []) (ks := [100000,200001]) (us' := BH x1 y0_0 y0_1 y0_2 y0_3 y1) (h0 := wh x1 y0_0 y0_1 y0_2 y0_3 y1) (ρ' := lO ρ [i0,i1]) (uc := d7 100000 200001) (u := d7 i0 i1) (hc := rS 100000 200001) (h := rS i0 i1) hi h12 (by kernel_rfl) ⟨iF h2 (by kernel_rfl),lZ h3,ce h1⟩ ⟨(by kernel_rfl),ko h4 ⟨df h6,df h7,df h8,g8 h9 h10 (by kernel_rfl),ce h5⟩,(by kernel_rfl),i6 h11 (by kernel_rfl),trivial⟩ ⟨.inr rfl,.inl rfl,trivial⟩ h13 (fun hj => kD x1 y0_0 y0_1 y0_2 y0_3 y1 hz _ hj) (fun z => ⟨by kernel_rfl,by kernel_rfl,by kernel_rfl,by kernel_rfl⟩)
def fO (r : Int) : TV EE.T := .a (.d (.int .i64) r)
def Av (r : Int) : RL EE.T := .ret (fO r) []
def K2 : Lvs := ⟨[],[],[],[],false,[],[],[],[]⟩
def LK : List ResultVar := [.tmp 4]
def Ld (N : Nat) : Gam EE := ⟨[⟨59,jg N⟩],EQT,[],[]⟩
theorem J3 (N : Nat) : GOk Try.prog TT EE (Ld N) := GOk.cons (pH N) (GOk.nil dv)
def Jm (c : Code) : List It2 := [.c c]
def J6 (x0 : List UInt8) (x1 : UInt8) : TS EE.T := ⟨8,[(0,.a (.d .str x0)),(1,.a (.d .byte x1))],[],[]⟩
abbrev KU (N : Nat) (r : Int) (k : List It2) (s : TS EE.T) : Prop := fT (Y := TT) EE (Ld N) K2 LK (fun u => u = Av r) k s
def LI (x : Int) : Tree (Lf EE.T × Option Int) := .leaf (.done (Av x),some x)
theorem JS {N : Nat} {r : Int} (x0 : List UInt8) (x1 : UInt8) (h : co N x0 x1 = some r) : KU N r (Jm (ai 0 Try.f46)) (J6 x0 x1) :=
 aQ (m := 4000) (t :=
 .bnd (kY N x0 x1) fun z1 =>
 LI z1) (by kernel_rfl) (by kernel_rfl) h (fun _ => bc (enc := Av) rfl)
theorem mj {N : Nat} (x0 : List UInt8) (x1 : UInt8) {r : Int} (h : co N x0 x1 = some r) (ρ : Rn) : aT Try.prog 46 (([.a (.d .str x0), .a (.d .byte x1)] : List (TV EE.T)).map (TV.to EE.toEnc ρ)) [] (fun out H => out = .ret ((fO r).to EE.toEnc ρ) ∧ H = []) :=
 (qK (ai 0 Try.f46) 8 mixed (J3 N) Try.func46 (by kernel_rfl) rfl rfl rfl rfl (JS x0 x1 h) ρ).mono fun out H h => da.ret rfl h
def dV (N : Nat) : List (TV EE.T) → PV EE.T
 | [u0, u1] => match kT .str u0, kT .byte u1 with
   | some x0,some x1 => .opt (co N x0 x1) fO
   | _,_ => .bad
 | _ => .bad
theorem fh (N : Nat) (us : List (TV EE.T)) : (dV N us).ok fun u => ∀ ρ, aT Try.prog 46 (us.map (TV.to EE.toEnc ρ)) [] (fun out H => out = .ret (u.to EE.toEnc ρ) ∧ H = []) := by
 unfold dV
 split
 ·split
  ·rename_i h0 h1
   intro z hz ρ; refine fH ?_ (mj _ _ hz ρ); exact ⟨eo h0 ρ,eo h1 ρ,trivial⟩
  ·trivial
 ·trivial
def dD (i0 : Nat) (i1 : Nat) (r : aY) : TV EE.T := .a (.d .byte r.1)
def rk (i0 : Nat) (i1 : Nat) (r : aY) : List (Nat × TB EE.T) := [(i0,.cs [.d .str r.2.1,.d (.int .i64) r.2.2.1,.d (.int .i64) r.2.2.2.1,.vec (.nam 7) i1 r.2.2.2.2.1]),(i1,.vec i1 (.nam 7) r.2.2.2.2.2)]
def jv (r : PR aY) : RL EE.T := mi (dD 100000 200001) (rk 100000 200001) r
def GU : Lvs := ⟨[(3,⟨[(0,false),(3,false)],[],[(100000,(none,[])),(200001,(none,[]))],[]⟩)],[],[3],[],false,[(100000,(none,[]))],[100000,200001],[],[]⟩
def Il : List ResultVar := [.tmp 2]
def Fi (N : Nat) : Gam EE := ⟨[⟨46,dV N⟩],EQT,[⟨35,cS N⟩,⟨61,cr N⟩],[]⟩
theorem Fd (N : Nat) : GOk Try.prog TT EE (Fi N) := GOk.cons (fh N) (GOk.consx (dn N) (GOk.consx (cG N) (GOk.nil dv)))
def zB (c : Code) : List It2 := atR 3 c
def zp (x3 : UInt8) (b100000_0 : List UInt8) (b100000_1 : Int) (b100000_2 : Int) (b100000_3_n : Nat) (b200001 : List Vstep) : TS EE.T := ⟨31,[(0,.a (.box 100000 0)),(3,.a (.d .byte x3))],[(100000,.cs [.d .str b100000_0,.d (.int .i64) b100000_1,.d (.int .i64) b100000_2,.vec (.nam 7) 200001 b100000_3_n]),(200001,.vec 200001 (.nam 7) b200001)],[]⟩
def FA (c : Code) : List It2 := [.c c]
def DP (y0_0 : List UInt8) (y0_1 : Int) (y0_2 : Int) (y0_3 : Nat) (y1 : List Vstep) : TS EE.T := ⟨31,[(0,.a (.box 100000 0))],[(100000,.cs [.d .str y0_0,.d (.int .i64) y0_1,.d (.int .i64) y0_2,.vec (.nam 7) 200001 y0_3]),(200001,.vec 200001 (.nam 7) y1)],[]⟩
def yz (c : Code) (f : UInt8 → (List UInt8) → Int → Int → Nat → (List Vstep) → Option (PR aY)) (x3 : UInt8) (b100000_0 : List UInt8) (b100000_1 : Int) (b100000_2 : Int) (b100000_3_n : Nat) (b200001 : List Vstep) : Tree (Lf EE.T × Option (PR aY)) := .leaf (.go (zB c) (zp x3 b100000_0 b100000_1 b100000_2 b100000_3_n b200001),f x3 b100000_0 b100000_1 b100000_2 b100000_3_n b200001)
abbrev BU (N : Nat) (r : PR aY) (k : List It2) (s : TS EE.T) : Prop := fT (Y := TT) EE (Fi N) GU Il (fun u => u = jv r) k s
def rz (x : PR aY) : Tree (Lf EE.T × Option (PR aY)) := .leaf (.done (jv x),some x)
theorem ye {N : Nat} {r : PR aY} (n : Nat) (x3 : UInt8) (b100000_0 : List UInt8) (b100000_1 : Int) (b100000_2 : Int) (b100000_3_n : Nat) (b200001 : List Vstep) (h : cB N n x3 b100000_0 b100000_1 b100000_2 b100000_3_n b200001 = some r) : BU N r (zB (ai 0 Try.f70)) (zp x3 b100000_0 b100000_1 b100000_2 b100000_3_n b200001) :=
 aQ (m := 4000) (t :=
 .bnd (aR N 1 b100000_1 b100000_0 b100000_1 b100000_2 b100000_3_n b200001) fun z4 =>
 .sm z4 (fun z5 =>
  rz (.ok (x3,z5.1,w64 (z5.2.1 + 1),z5.2.2.1,z5.2.2.2.1,z5.2.2.2.2))) (fun vz4 =>
  rz (.pan vz4))) (by kernel_rfl) (by kernel_rfl) h (fun _ => ⟨fun _ => bc (enc := jv) rfl,fun _ => bc (enc := jv) rfl⟩)
theorem GG {N : Nat} {r : PR aY} (y0_0 : List UInt8) (y0_1 : Int) (y0_2 : Int) (y0_3 : Nat) (y1 : List Vstep) (h : ca N y0_0 y0_1 y0_2 y0_3 y1 = some r) : BU N r (FA (ai 0 Try.f70)) (DP y0_0 y0_1 y0_2 y0_3 y1) :=
 aQ (m := 4000) (t :=
 .bnd (bd N y0_0 y0_1 y0_2 y0_3 y1) fun z1 =>
 .sm z1 (fun z2 =>
  .cond (!z2.2.1)
  (
   yz (ai 0 Try.f70) (cB N N) z2.1 z2.2.2.1 z2.2.2.2.1 z2.2.2.2.2.1 z2.2.2.2.2.2.1 z2.2.2.2.2.2.2)
  (
   .bnd (co N ([91,93,92,94,45] : List UInt8) z2.1) fun z3 =>
   .cond (decide (z3 ≥ 0))
   (
    yz (ai 0 Try.f70) (cB N N) z2.1 z2.2.2.1 z2.2.2.2.1 z2.2.2.2.2.1 z2.2.2.2.2.2.1 z2.2.2.2.2.2.2)
   (
    rz (.ok (z2.1,z2.2.2.1,w64 (z2.2.2.2.1 + 1),z2.2.2.2.2.1,z2.2.2.2.2.2.1,z2.2.2.2.2.2.2))))) (fun vz1 =>
  rz (.pan vz1))) (by kernel_rfl) (by kernel_rfl) h (fun _ => ⟨fun _ => ⟨fun h => ye N _ _ _ _ _ _ h,fun _ => ⟨fun h => ye N _ _ _ _ _ _ h,bc (enc := jv) rfl⟩⟩,fun _ => bc (enc := jv) rfl⟩)
def A7 (y0_0 : List UInt8) (y0_1 : Int) (y0_2 : Int) (y0_3 : Nat) (y1 : List Vstep) : List (TV EE.T) := [.a (.box 100000 0)]
def xm (y0_0 : List UInt8) (y0_1 : Int) (y0_2 : Int) (y0_3 : Nat) (y1 : List Vstep) : List (Nat × TB EE.T) := [(100000,.cs [.d .str y0_0,.d (.int .i64) y0_1,.d (.int .i64) y0_2,.vec (.nam 7) 200001 y0_3]),(200001,.vec 200001 (.nam 7) y1)]
theorem jy {N : Nat} (y0_0 : List UInt8) (y0_1 : Int) (y0_2 : Int) (y0_3 : Nat) (y1 : List Vstep) {r : PR aY} (h : ca N y0_0 y0_1 y0_2 y0_3 y1 = some r) (ρ : Rn) (hi : Inj ρ (xm y0_0 y0_1 y0_2 y0_3 y1)) : aT Try.prog 70 ((A7 y0_0 y0_1 y0_2 y0_3 y1).map (TV.to EE.toEnc ρ)) (hTo EE.toEnc ρ (xm y0_0 y0_1 y0_2 y0_3 y1)) (da EE ρ fun u => u = jv r) :=
 eW (ai 0 Try.f70) 31 mixed (Fd N) Try.func70 (by kernel_rfl) rfl rfl rfl rfl (GG y0_0 y0_1 y0_2 y0_3 y1 h) ρ hi
def fS (N : Nat) (us : List (TV EE.T)) (hs : List (Nat × TB EE.T)) : XR EE.T :=
 gdX (fx us 1) <|
 bnX (aB us 0) fun i0 =>
 bnX (bC hs i0) fun l0 =>
 gdX (fx l0 4) <|
 bnX (cD .str l0 0) fun y0_0 =>
 bnX (cD (.int .i64) l0 1) fun y0_1 =>
 bnX (cD (.int .i64) l0 2) fun y0_2 =>
 bnX (cVi (.nam 7) l0 3) fun i1 =>
 bnX (cVn (.nam 7) l0 3) fun y0_3 =>
 bnX (bV (.nam 7) hs i1) fun y1 =>
 gdX (bR hs [i0,i1]) <|
 gdX (gV [i0,i1]) <|
 .mv (ca N y0_0 y0_1 y0_2 y0_3 y1) [i0,i1] (mvL [i0,i1] [100000,200001]) 0 (dD i0 i1) (rk i0 i1)
theorem jw (N : Nat) : XOk Try.prog EE 70 (fS N) := fun us hs =>
 a7 fun h1 => aA fun i0 h2 => aA fun l0 h3 => a7 fun h4 => aA fun y0_0 h5 => aA fun y0_1 h6 => aA fun y0_2 h7 => aA fun i1 h8 => aA fun y0_3 h9 => aA fun y1 h10 => a7 fun h11 => a7 fun h12 => fun p hz ρ hi => fN (ex := []) (ks := [100000,200001]) (us' := A7 y0_0 y0_1 y0_2 y0_3 y1) (h0 := xm y0_0 y0_1 y0_2 y0_3 y1) (ρ' := lO ρ [i0,i1]) (uc := dD 100000 200001) (u := dD i0 i1) (hc := rk 100000 200001) (h := rk i0 i1) hi h11 (by kernel_rfl) ⟨iF h2 (by kernel_rfl),ce h1⟩ ⟨(by kernel_rfl),ko h3 ⟨df h5,df h6,df h7,g8 h8 h9 (by kernel_rfl),ce h4⟩,(by kernel_rfl),i6 h10 (by kernel_rfl),trivial⟩ ⟨.inr rfl,.inl rfl,trivial⟩ h12 (fun hj => jy y0_0 y0_1 y0_2 y0_3 y1 hz _ hj) (fun z => ⟨by kernel_rfl,by kernel_rfl,by kernel_rfl,by kernel_rfl⟩)
def dY (i0 : Nat) (i1 : Nat) (r : ax) : TV EE.T := .a (.d (.ptr (.bits 256)) r.1)
def rE (i0 : Nat) (i1 : Nat) (r : ax) : List (Nat × TB EE.T) := [(i0,.cs [.d .str r.2.1,.d (.int .i64) r.2.2.1,.d (.int .i64) r.2.2.2.1,.vec (.nam 7) i1 r.2.2.2.2.1]),(i1,.vec i1 (.nam 7) r.2.2.2.2.2)]
def fY (r : PR ax) : RL EE.T := mi (dY 100000 200001) (rE 100000 200001) r
def Iy : Lvs := ⟨[(6,⟨[(0,false),(3,false),(4,false)],[],[(4,(none,[])),(100000,(none,[])),(200001,(none,[]))],[]⟩),(13,⟨[(0,false),(3,false),(4,false),(6,false),(7,false)],[],[(4,(none,[])),(100000,(none,[])),(200001,(none,[]))],[]⟩)],[(4,⟨[(0,false),(3,false),(4,false),(5,false)],[],[(4,(none,[])),(100000,(none,[])),(200001,(none,[]))],[]⟩),(14,⟨[(0,false),(3,false),(4,false),(7,false),(9,false)],[],[(4,(none,[])),(100000,(none,[])),(200001,(none,[]))],[]⟩),(18,⟨[(3,false),(4,false),(46,false)],[],[(4,(none,[])),(100000,(none,[])),(200001,(none,[]))],[]⟩)],[6,13],[],false,[(100000,(none,[]))],[100000,200001],[(22,[.cl 4 (.a 256) (.s 4)])],[]⟩
def HX : List ResultVar := [.tmp 2]
def EA (N : Nat) : Gam EE := ⟨[],EQT,[⟨35,cS N⟩,⟨50,d8 N⟩,⟨70,fS N⟩],[]⟩
theorem EN (N : Nat) : GOk Try.prog TT EE (EA N) := GOk.consx (dn N) (GOk.consx (eA N) (GOk.consx (jw N) (GOk.nil dv)))
def ve (c : Code) : List It2 := atL 14 c
def uG (x3 : Bool) (x7 : UInt8) (x9 : Int) (b4 : List Bool) (b100000_0 : List UInt8) (b100000_1 : Int) (b100000_2 : Int) (b100000_3_n : Nat) (b200001 : List Vstep) : TS EE.T := ⟨57,[(0,.a (.box 100000 0)),(3,.a (.d .bool x3)),(4,.a (.box 4 0)),(7,.a (.d .byte x7)),(9,.a (.d (.int .i64) x9))],[(4,.row .bool b4),(100000,.cs [.d .str b100000_0,.d (.int .i64) b100000_1,.d (.int .i64) b100000_2,.vec (.nam 7) 200001 b100000_3_n]),(200001,.vec 200001 (.nam 7) b200001)],[]⟩
def vC (c : Code) : List It2 := atR 13 c
def vm (x3 : Bool) (x6 : UInt8) (x7 : UInt8) (b4 : List Bool) (b100000_0 : List UInt8) (b100000_1 : Int) (b100000_2 : Int) (b100000_3_n : Nat) (b200001 : List Vstep) : TS EE.T := ⟨57,[(0,.a (.box 100000 0)),(3,.a (.d .bool x3)),(4,.a (.box 4 0)),(6,.a (.d .byte x6)),(7,.a (.d .byte x7))],[(4,.row .bool b4),(100000,.cs [.d .str b100000_0,.d (.int .i64) b100000_1,.d (.int .i64) b100000_2,.vec (.nam 7) 200001 b100000_3_n]),(200001,.vec 200001 (.nam 7) b200001)],[]⟩
def yY (c : Code) : List It2 := atR 6 c
def xF (x3 : Bool) (b4 : List Bool) (b100000_0 : List UInt8) (b100000_1 : Int) (b100000_2 : Int) (b100000_3_n : Nat) (b200001 : List Vstep) : TS EE.T := ⟨57,[(0,.a (.box 100000 0)),(3,.a (.d .bool x3)),(4,.a (.box 4 0))],[(4,.row .bool b4),(100000,.cs [.d .str b100000_0,.d (.int .i64) b100000_1,.d (.int .i64) b100000_2,.vec (.nam 7) 200001 b100000_3_n]),(200001,.vec 200001 (.nam 7) b200001)],[]⟩
def vS (c : Code) : List It2 := atL 18 c
def u6 (x3 : Bool) (x46 : Int) (b4 : List Bool) (b100000_0 : List UInt8) (b100000_1 : Int) (b100000_2 : Int) (b100000_3_n : Nat) (b200001 : List Vstep) : TS EE.T := ⟨57,[(3,.a (.d .bool x3)),(4,.a (.box 4 0)),(46,.a (.d (.int .i64) x46))],[(4,.row .bool b4),(100000,.cs [.d .str b100000_0,.d (.int .i64) b100000_1,.d (.int .i64) b100000_2,.vec (.nam 7) 200001 b100000_3_n]),(200001,.vec 200001 (.nam 7) b200001)],[]⟩
def mw (c : Code) : List It2 := atL 4 c
def mE (x3 : Bool) (x5 : Bool) (b4 : List Bool) (b100000_0 : List UInt8) (b100000_1 : Int) (b100000_2 : Int) (b100000_3_n : Nat) (b200001 : List Vstep) : TS EE.T := ⟨57,[(0,.a (.box 100000 0)),(3,.a (.d .bool x3)),(4,.a (.box 4 0)),(5,.a (.d .bool x5))],[(4,.row .bool b4),(100000,.cs [.d .str b100000_0,.d (.int .i64) b100000_1,.d (.int .i64) b100000_2,.vec (.nam 7) 200001 b100000_3_n]),(200001,.vec 200001 (.nam 7) b200001)],[]⟩
def Fa (c : Code) : List It2 := [.c c]
def DT (y0_0 : List UInt8) (y0_1 : Int) (y0_2 : Int) (y0_3 : Nat) (y1 : List Vstep) : TS EE.T := ⟨57,[(0,.a (.box 100000 0))],[(100000,.cs [.d .str y0_0,.d (.int .i64) y0_1,.d (.int .i64) y0_2,.vec (.nam 7) 200001 y0_3]),(200001,.vec 200001 (.nam 7) y1)],[]⟩
def vT (c : Code) (f : Bool → UInt8 → Int → (List Bool) → (List UInt8) → Int → Int → Nat → (List Vstep) → Option (PR ax)) (x3 : Bool) (x7 : UInt8) (x9 : Int) (b4 : List Bool) (b100000_0 : List UInt8) (b100000_1 : Int) (b100000_2 : Int) (b100000_3_n : Nat) (b200001 : List Vstep) : Tree (Lf EE.T × Option (PR ax)) := .leaf (.go (ve c) (uG x3 x7 x9 b4 b100000_0 b100000_1 b100000_2 b100000_3_n b200001),f x3 x7 x9 b4 b100000_0 b100000_1 b100000_2 b100000_3_n b200001)
def pT (c : Code) (f : Bool → UInt8 → UInt8 → (List Bool) → (List UInt8) → Int → Int → Nat → (List Vstep) → Option (PR ax)) (x3 : Bool) (x6 : UInt8) (x7 : UInt8) (b4 : List Bool) (b100000_0 : List UInt8) (b100000_1 : Int) (b100000_2 : Int) (b100000_3_n : Nat) (b200001 : List Vstep) : Tree (Lf EE.T × Option (PR ax)) := .leaf (.go (vC c) (vm x3 x6 x7 b4 b100000_0 b100000_1 b100000_2 b100000_3_n b200001),f x3 x6 x7 b4 b100000_0 b100000_1 b100000_2 b100000_3_n b200001)
def zd (c : Code) (f : Bool → (List Bool) → (List UInt8) → Int → Int → Nat → (List Vstep) → Option (PR ax)) (x3 : Bool) (b4 : List Bool) (b100000_0 : List UInt8) (b100000_1 : Int) (b100000_2 : Int) (b100000_3_n : Nat) (b200001 : List Vstep) : Tree (Lf EE.T × Option (PR ax)) := .leaf (.go (yY c) (xF x3 b4 b100000_0 b100000_1 b100000_2 b100000_3_n b200001),f x3 b4 b100000_0 b100000_1 b100000_2 b100000_3_n b200001)
def vR (c : Code) (f : Bool → Int → (List Bool) → (List UInt8) → Int → Int → Nat → (List Vstep) → Option (PR ax)) (x3 : Bool) (x46 : Int) (b4 : List Bool) (b100000_0 : List UInt8) (b100000_1 : Int) (b100000_2 : Int) (b100000_3_n : Nat) (b200001 : List Vstep) : Tree (Lf EE.T × Option (PR ax)) := .leaf (.go (vS c) (u6 x3 x46 b4 b100000_0 b100000_1 b100000_2 b100000_3_n b200001),f x3 x46 b4 b100000_0 b100000_1 b100000_2 b100000_3_n b200001)
def zK (c : Code) (f : Bool → Bool → (List Bool) → (List UInt8) → Int → Int → Nat → (List Vstep) → Option (PR ax)) (x3 : Bool) (x5 : Bool) (b4 : List Bool) (b100000_0 : List UInt8) (b100000_1 : Int) (b100000_2 : Int) (b100000_3_n : Nat) (b200001 : List Vstep) : Tree (Lf EE.T × Option (PR ax)) := .leaf (.go (mw c) (mE x3 x5 b4 b100000_0 b100000_1 b100000_2 b100000_3_n b200001),f x3 x5 b4 b100000_0 b100000_1 b100000_2 b100000_3_n b200001)
abbrev iQ (N : Nat) (r : PR ax) (k : List It2) (s : TS EE.T) : Prop := fT (Y := TT) EE (EA N) Iy HX (fun u => u = fY r) k s
def ll (x : PR ax) : Tree (Lf EE.T × Option (PR ax)) := .leaf (.done (fY x),some x)
theorem vz {N : Nat} {r : PR ax} {k4 : Bool → Bool → (List Bool) → (List UInt8) → Int → Int → Nat → (List Vstep) → Option (PR ax)} (hk4 : ∀ x3 x5 b4 b100000_0 b100000_1 b100000_2 b100000_3_n b200001, k4 x3 x5 b4 b100000_0 b100000_1 b100000_2 b100000_3_n b200001 = some r → iQ N r (mw (ai 0 Try.f69)) (mE x3 x5 b4 b100000_0 b100000_1 b100000_2 b100000_3_n b200001)) : ∀ (n : Nat) (x3 : Bool) (x7 : UInt8) (x9 : Int) (b4 : List Bool) (b100000_0 : List UInt8) (b100000_1 : Int) (b100000_2 : Int) (b100000_3_n : Nat) (b200001 : List Vstep), cK N k4 n x3 x7 x9 b4 b100000_0 b100000_1 b100000_2 b100000_3_n b200001 = some r → iQ N r (ve (ai 0 Try.f69)) (uG x3 x7 x9 b4 b100000_0 b100000_1 b100000_2 b100000_3_n b200001)
 | 0,_,_,_,_,_,_,_,_,_,h => by cases h
 | n + 1, x3, x7, x9, b4, b100000_0, b100000_1, b100000_2, b100000_3_n, b200001, h => aQ (m := 4000) (t :=
   .cond (decide (x9 ≤ (w64 (b2i x7))))
   (
    .bnd (eB 256 x9) fun z18 =>
    .bnd (t8 b4 (0 + z18) true) fun z19 =>
    vT (ai 0 Try.f69) (cK N k4 n) x3 x7 (w64 (x9 + 1)) z19 b100000_0 b100000_1 b100000_2 b100000_3_n b200001)
   (
    zK (ai 0 Try.f69) k4 x3 false b4 b100000_0 b100000_1 b100000_2 b100000_3_n b200001)) (by kernel_rfl) (by kernel_rfl) h (⟨fun _ => fun _ => fun h => (vz hk4 n) _ _ _ _ _ _ _ _ _ h,fun h => hk4 _ _ _ _ _ _ _ _ h⟩)
theorem qd {N : Nat} {r : PR ax} {k4 : Bool → Bool → (List Bool) → (List UInt8) → Int → Int → Nat → (List Vstep) → Option (PR ax)} (hk4 : ∀ x3 x5 b4 b100000_0 b100000_1 b100000_2 b100000_3_n b200001, k4 x3 x5 b4 b100000_0 b100000_1 b100000_2 b100000_3_n b200001 = some r → iQ N r (mw (ai 0 Try.f69)) (mE x3 x5 b4 b100000_0 b100000_1 b100000_2 b100000_3_n b200001)) (n : Nat) (x3 : Bool) (x6 : UInt8) (x7 : UInt8) (b4 : List Bool) (b100000_0 : List UInt8) (b100000_1 : Int) (b100000_2 : Int) (b100000_3_n : Nat) (b200001 : List Vstep) (h : bQ N k4 n x3 x6 x7 b4 b100000_0 b100000_1 b100000_2 b100000_3_n b200001 = some r) : iQ N r (vC (ai 0 Try.f69)) (vm x3 x6 x7 b4 b100000_0 b100000_1 b100000_2 b100000_3_n b200001) :=
 aQ (m := 4000) (t :=
 vT (ai 0 Try.f69) (cK N k4 n) x3 x7 (w64 (b2i x6)) b4 b100000_0 b100000_1 b100000_2 b100000_3_n b200001) (by kernel_rfl) (by kernel_rfl) h (fun h => vz hk4 n _ _ _ _ _ _ _ _ _ h)
theorem xK {N : Nat} {r : PR ax} {k4 : Bool → Bool → (List Bool) → (List UInt8) → Int → Int → Nat → (List Vstep) → Option (PR ax)} (hk4 : ∀ x3 x5 b4 b100000_0 b100000_1 b100000_2 b100000_3_n b200001, k4 x3 x5 b4 b100000_0 b100000_1 b100000_2 b100000_3_n b200001 = some r → iQ N r (mw (ai 0 Try.f69)) (mE x3 x5 b4 b100000_0 b100000_1 b100000_2 b100000_3_n b200001)) (n : Nat) (x3 : Bool) (b4 : List Bool) (b100000_0 : List UInt8) (b100000_1 : Int) (b100000_2 : Int) (b100000_3_n : Nat) (b200001 : List Vstep) (h : cY N k4 n x3 b4 b100000_0 b100000_1 b100000_2 b100000_3_n b200001 = some r) : iQ N r (yY (ai 0 Try.f69)) (xF x3 b4 b100000_0 b100000_1 b100000_2 b100000_3_n b200001) :=
 aQ (m := 4000) (t :=
 .bnd (ca N b100000_0 b100000_1 b100000_2 b100000_3_n b200001) fun z5 =>
 .sm z5 (fun z6 =>
  .bnd (bg N 45 z6.2.1 z6.2.2.1 z6.2.2.2.1 z6.2.2.2.2.1 z6.2.2.2.2.2) fun z7 =>
  .sm z7 (fun z8 =>
   .cond (z8.1)
   (
    .bnd (ca N z8.2.1 z8.2.2.1 z8.2.2.2.1 z8.2.2.2.2.1 z8.2.2.2.2.2) fun z9 =>
    .sm z9 (fun z10 =>
     .cond (decide ((b2i z10.1) < (b2i z6.1)))
     (
      .bnd (aR N 3 z8.2.2.1 z10.2.1 z10.2.2.1 z10.2.2.2.1 z10.2.2.2.2.1 z10.2.2.2.2.2) fun z11 =>
      .sm z11 (fun z12 =>
       pT (ai 0 Try.f69) (bQ N k4 n) x3 z6.1 z10.1 b4 z12.1 z12.2.1 z12.2.2.1 z12.2.2.2.1 z12.2.2.2.2) (fun vz11 =>
       ll (.pan vz11)))
     (
      pT (ai 0 Try.f69) (bQ N k4 n) x3 z6.1 z10.1 b4 z10.2.1 z10.2.2.1 z10.2.2.2.1 z10.2.2.2.2.1 z10.2.2.2.2.2)) (fun vz9 =>
     ll (.pan vz9)))
   (
    pT (ai 0 Try.f69) (bQ N k4 n) x3 z6.1 z6.1 b4 z8.2.1 z8.2.2.1 z8.2.2.2.1 z8.2.2.2.2.1 z8.2.2.2.2.2)) (fun vz7 =>
   ll (.pan vz7))) (fun vz5 =>
  ll (.pan vz5))) (by kernel_rfl) (by kernel_rfl) h (fun _ => ⟨fun _ => fun _ => ⟨fun _ => ⟨fun _ => ⟨fun _ => ⟨fun _ => ⟨fun _ => fun h => qd hk4 n _ _ _ _ _ _ _ _ _ h,fun _ => bc (enc := fY) rfl⟩,fun h => qd hk4 n _ _ _ _ _ _ _ _ _ h⟩,fun _ => bc (enc := fY) rfl⟩,fun h => qd hk4 n _ _ _ _ _ _ _ _ _ h⟩,fun _ => bc (enc := fY) rfl⟩,fun _ => bc (enc := fY) rfl⟩)
theorem uZ {N : Nat} {r : PR ax} : ∀ (n : Nat) (x3 : Bool) (x46 : Int) (b4 : List Bool) (b100000_0 : List UInt8) (b100000_1 : Int) (b100000_2 : Int) (b100000_3_n : Nat) (b200001 : List Vstep), cN N n x3 x46 b4 b100000_0 b100000_1 b100000_2 b100000_3_n b200001 = some r → iQ N r (vS (ai 0 Try.f69)) (u6 x3 x46 b4 b100000_0 b100000_1 b100000_2 b100000_3_n b200001)
 | 0,_,_,_,_,_,_,_,_,h => by cases h
 | n + 1, x3, x46, b4, b100000_0, b100000_1, b100000_2, b100000_3_n, b200001, h => aQ (m := 4000) (t :=
   .cond (decide (x46 < 256))
   (
    .bnd (eB 256 x46) fun z13 =>
    .bnd (b4[0 + z13]?) fun z14 =>
    .bnd (eB 256 x46) fun z15 =>
    .bnd (t8 b4 (0 + z15) (!(z14 == x3))) fun z16 =>
    vR (ai 0 Try.f69) (cN N n) x3 (w64 (x46 + 1)) z16 b100000_0 b100000_1 b100000_2 b100000_3_n b200001)
   (
    .bnd (o5 256 b4) fun z17 =>
    ll (.ok ((some z17),b100000_0,b100000_1,b100000_2,b100000_3_n,b200001)))) (by kernel_rfl) (by kernel_rfl) h (⟨fun _ => fun _ => fun _ => fun _ => fun h => (uZ n) _ _ _ _ _ _ _ _ h,fun _ => bc (enc := fY) rfl⟩)
theorem ti {N : Nat} {r : PR ax} : ∀ (n : Nat) (x3 : Bool) (x5 : Bool) (b4 : List Bool) (b100000_0 : List UInt8) (b100000_1 : Int) (b100000_2 : Int) (b100000_3_n : Nat) (b200001 : List Vstep), bY N n x3 x5 b4 b100000_0 b100000_1 b100000_2 b100000_3_n b200001 = some r → iQ N r (mw (ai 0 Try.f69)) (mE x3 x5 b4 b100000_0 b100000_1 b100000_2 b100000_3_n b200001)
 | 0,_,_,_,_,_,_,_,_,h => by cases h
 | n + 1, x3, x5, b4, b100000_0, b100000_1, b100000_2, b100000_3_n, b200001, h => aQ (m := 4000) (t :=
   .cond (x5)
   (
    zd (ai 0 Try.f69) (cY N (bY N n) n) x3 b4 b100000_0 b100000_1 b100000_2 b100000_3_n b200001)
   (
    .bnd (bg N 93 b100000_0 b100000_1 b100000_2 b100000_3_n b200001) fun z3 =>
    .sm z3 (fun z4 =>
     .cond (!z4.1)
     (
      zd (ai 0 Try.f69) (cY N (bY N n) n) x3 b4 z4.2.1 z4.2.2.1 z4.2.2.2.1 z4.2.2.2.2.1 z4.2.2.2.2.2)
     (
      vR (ai 0 Try.f69) (cN N n) x3 0 b4 z4.2.1 z4.2.2.1 z4.2.2.2.1 z4.2.2.2.2.1 z4.2.2.2.2.2)) (fun vz3 =>
     ll (.pan vz3)))) (by kernel_rfl) (by kernel_rfl) h (⟨fun h => xK (ti n) n _ _ _ _ _ _ _ h,fun _ => ⟨fun _ => ⟨fun h => xK (ti n) n _ _ _ _ _ _ _ h,fun h => uZ n _ _ _ _ _ _ _ _ h⟩,fun _ => bc (enc := fY) rfl⟩⟩)
theorem C8 {N : Nat} {r : PR ax} (y0_0 : List UInt8) (y0_1 : Int) (y0_2 : Int) (y0_3 : Nat) (y1 : List Vstep) (h : dI N y0_0 y0_1 y0_2 y0_3 y1 = some r) : iQ N r (Fa (ai 0 Try.f69)) (DT y0_0 y0_1 y0_2 y0_3 y1) :=
 aQ (m := 4000) (t :=
 .bnd (bg N 94 y0_0 y0_1 y0_2 y0_3 y1) fun z1 =>
 .sm z1 (fun z2 =>
  zK (ai 0 Try.f69) (bY N N) z2.1 true ([false,false,false,false,false,false,false,false,false,false,false,false,false,false,false,false,false,false,false,false,false,false,false,false,false,false,false,false,false,false,false,false,false,false,false,false,false,false,false,false,false,false,false,false,false,false,false,false,false,false,false,false,false,false,false,false,false,false,false,false,false,false,false,false,false,false,false,false,false,false,false,false,false,false,false,false,false,false,false,false,false,false,false,false,false,false,false,false,false,false,false,false,false,false,false,false,false,false,false,false,false,false,false,false,false,false,false,false,false,false,false,false,false,false,false,false,false,false,false,false,false,false,false,false,false,false,false,false,false,false,false,false,false,false,false,false,false,false,false,false,false,false,false,false,false,false,false,false,false,false,false,false,false,false,false,false,false,false,false,false,false,false,false,false,false,false,false,false,false,false,false,false,false,false,false,false,false,false,false,false,false,false,false,false,false,false,false,false,false,false,false,false,false,false,false,false,false,false,false,false,false,false,false,false,false,false,false,false,false,false,false,false,false,false,false,false,false,false,false,false,false,false,false,false,false,false,false,false,false,false,false,false,false,false,false,false,false,false,false,false,false,false,false,false,false,false,false,false,false,false,false,false,false,false,false,false] : List Bool) z2.2.1 z2.2.2.1 z2.2.2.2.1 z2.2.2.2.2.1 z2.2.2.2.2.2) (fun vz1 =>
  ll (.pan vz1))) (by kernel_rfl) (by kernel_rfl) h (fun _ => ⟨fun _ => fun h => ti N _ _ _ _ _ _ _ _ h,fun _ => bc (enc := fY) rfl⟩)
def A3 (y0_0 : List UInt8) (y0_1 : Int) (y0_2 : Int) (y0_3 : Nat) (y1 : List Vstep) : List (TV EE.T) := [.a (.box 100000 0)]
def xr (y0_0 : List UInt8) (y0_1 : Int) (y0_2 : Int) (y0_3 : Nat) (y1 : List Vstep) : List (Nat × TB EE.T) := [(100000,.cs [.d .str y0_0,.d (.int .i64) y0_1,.d (.int .i64) y0_2,.vec (.nam 7) 200001 y0_3]),(200001,.vec 200001 (.nam 7) y1)]
theorem kc {N : Nat} (y0_0 : List UInt8) (y0_1 : Int) (y0_2 : Int) (y0_3 : Nat) (y1 : List Vstep) {r : PR ax} (h : dI N y0_0 y0_1 y0_2 y0_3 y1 = some r) (ρ : Rn) (hi : Inj ρ (xr y0_0 y0_1 y0_2 y0_3 y1)) : aT Try.prog 69 ((A3 y0_0 y0_1 y0_2 y0_3 y1).map (TV.to EE.toEnc ρ)) (hTo EE.toEnc ρ (xr y0_0 y0_1 y0_2 y0_3 y1)) (da EE ρ fun u => u = fY r) :=
 eW (ai 0 Try.f69) 57 mixed (EN N) Try.func69 (by kernel_rfl) rfl rfl rfl rfl (C8 y0_0 y0_1 y0_2 y0_3 y1 h) ρ hi
def gG (N : Nat) (us : List (TV EE.T)) (hs : List (Nat × TB EE.T)) : XR EE.T :=
 gdX (fx us 1) <|
 bnX (aB us 0) fun i0 =>
 bnX (bC hs i0) fun l0 =>
 gdX (fx l0 4) <|
 bnX (cD .str l0 0) fun y0_0 =>
 bnX (cD (.int .i64) l0 1) fun y0_1 =>
 bnX (cD (.int .i64) l0 2) fun y0_2 =>
 bnX (cVi (.nam 7) l0 3) fun i1 =>
 bnX (cVn (.nam 7) l0 3) fun y0_3 =>
 bnX (bV (.nam 7) hs i1) fun y1 =>
 gdX (bR hs [i0,i1]) <|
 gdX (gV [i0,i1]) <|
 .mv (dI N y0_0 y0_1 y0_2 y0_3 y1) [i0,i1] (mvL [i0,i1] [100000,200001]) 0 (dY i0 i1) (rE i0 i1)
theorem jP (N : Nat) : XOk Try.prog EE 69 (gG N) := fun us hs =>
 a7 fun h1 => aA fun i0 h2 => aA fun l0 h3 => a7 fun h4 => aA fun y0_0 h5 => aA fun y0_1 h6 => aA fun y0_2 h7 => aA fun i1 h8 => aA fun y0_3 h9 => aA fun y1 h10 => a7 fun h11 => a7 fun h12 => fun p hz ρ hi => fN (ex := []) (ks := [100000,200001]) (us' := A3 y0_0 y0_1 y0_2 y0_3 y1) (h0 := xr y0_0 y0_1 y0_2 y0_3 y1) (ρ' := lO ρ [i0,i1]) (uc := dY 100000 200001) (u := dY i0 i1) (hc := rE 100000 200001) (h := rE i0 i1) hi h11 (by kernel_rfl) ⟨iF h2 (by kernel_rfl),ce h1⟩ ⟨(by kernel_rfl),ko h3 ⟨df h5,df h6,df h7,g8 h8 h9 (by kernel_rfl),ce h4⟩,(by kernel_rfl),i6 h10 (by kernel_rfl),trivial⟩ ⟨.inr rfl,.inl rfl,trivial⟩ h12 (fun hj => kc y0_0 y0_1 y0_2 y0_3 y1 hz _ hj) (fun z => ⟨by kernel_rfl,by kernel_rfl,by kernel_rfl,by kernel_rfl⟩)
def bL (i0 : Nat) (r : aP) : TV EE.T := .a (.d (.sl (.nam 7)) r.1)
def rf (i0 : Nat) (r : aP) : List (Nat × TB EE.T) := [(i0,.vec i0 (.nam 7) r.2)]
def my (r : PR aP) : RL EE.T := mi (bL 100000) (rf 100000) r
def IA : Lvs := ⟨[],[],[],[],false,[],[100000],[],[]⟩
def G4 : List ResultVar := [.tmp 2]
def Gy (N : Nat) : Gam EE := ⟨[],EQT,[],[]⟩
theorem DO (N : Nat) : GOk Try.prog TT EE (Gy N) := GOk.nil dv
def D7 (c : Code) : List It2 := [.c c]
def Ed (x0_o : Nat) (x0_n : Nat) (y0 : List Vstep) : TS EE.T := ⟨8,[(0,.a (.vsl (.nam 7) 100000 x0_o x0_n))],[(100000,.vec 100000 (.nam 7) y0)],[]⟩
abbrev G8 (N : Nat) (r : PR aP) (k : List It2) (s : TS EE.T) : Prop := fT (Y := TT) EE (Gy N) IA G4 (fun u => u = my r) k s
def Bv (x : PR aP) : Tree (Lf EE.T × Option (PR aP)) := .leaf (.done (my x),some x)
theorem DM {N : Nat} {r : PR aP} (x0_o : Nat) (x0_n : Nat) (y0 : List Vstep) (h : bz N x0_o x0_n y0 = some r) : G8 N r (D7 (ai 0 Try.f63)) (Ed x0_o x0_n y0) :=
 aQ (m := 4000) (t :=
 .nl ((List.drop x0_o y0).take x0_n)
 (
  Bv (.ok (([] : List Vstep),y0)))
 (
  .bnd (CZ x0_o x0_n y0) fun z1 =>
  .bnd (jD 32 ([] : List Vstep) z1) fun z2 =>
  Bv (.ok (z2,y0)))) (by kernel_rfl) (by kernel_rfl) h (⟨fun e _ h => JX e h,bc (enc := my) rfl,fun _ => fun _ => bc (enc := my) rfl⟩)
def AT (x0_o : Nat) (x0_n : Nat) (y0 : List Vstep) : List (TV EE.T) := [.a (.vsl (.nam 7) 100000 x0_o x0_n)]
def wW (x0_o : Nat) (x0_n : Nat) (y0 : List Vstep) : List (Nat × TB EE.T) := [(100000,.vec 100000 (.nam 7) y0)]
theorem fo {N : Nat} (x0_o : Nat) (x0_n : Nat) (y0 : List Vstep) {r : PR aP} (h : bz N x0_o x0_n y0 = some r) (ρ : Rn) (hi : Inj ρ (wW x0_o x0_n y0)) : aT Try.prog 63 ((AT x0_o x0_n y0).map (TV.to EE.toEnc ρ)) (hTo EE.toEnc ρ (wW x0_o x0_n y0)) (da EE ρ fun u => u = my r) :=
 eW (ai 0 Try.f63) 8 mixed (DO N) Try.func63 (by kernel_rfl) rfl rfl rfl rfl (DM x0_o x0_n y0 h) ρ hi
def dF (N : Nat) (us : List (TV EE.T)) (hs : List (Nat × TB EE.T)) : XR EE.T :=
 gdX (fx us 1) <|
 bnX (aUi (.nam 7) us 0) fun i0 =>
 bnX (aUo (.nam 7) us 0) fun x0_o =>
 bnX (aUn (.nam 7) us 0) fun x0_n =>
 bnX (bV (.nam 7) hs i0) fun y0 =>
 gdX (bR hs [i0]) <|
 gdX (gV [i0]) <|
 .mv (bz N x0_o x0_n y0) [i0] (mvL [i0] [100000]) 0 (bL i0) (rf i0)
theorem fj (N : Nat) : XOk Try.prog EE 63 (dF N) := fun us hs =>
 a7 fun h1 => aA fun i0 h2 => aA fun x0_o h3 => aA fun x0_n h4 => aA fun y0 h5 => a7 fun h6 => a7 fun h7 => fun p hz ρ hi => fN (ex := []) (ks := [100000]) (us' := AT x0_o x0_n y0) (h0 := wW x0_o x0_n y0) (ρ' := lO ρ [i0]) (uc := bL 100000) (u := bL i0) (hc := rf 100000) (h := rf i0) hi h6 (by kernel_rfl) ⟨KI h2 h3 h4 (by kernel_rfl),ce h1⟩ ⟨(by kernel_rfl),i6 h5 (by kernel_rfl),trivial⟩ ⟨.inr rfl,trivial⟩ h7 (fun hj => fo x0_o x0_n y0 hz _ hj) (fun z => ⟨by kernel_rfl,by kernel_rfl,by kernel_rfl,by kernel_rfl⟩)
def ea (i0 : Nat) (i1 : Nat) (r : bD) : TV EE.T := .a (.d (.sl (.nam 7)) r.1)
def rh (i0 : Nat) (i1 : Nat) (r : bD) : List (Nat × TB EE.T) := [(i0,.cs [.d .str r.2.1,.d (.int .i64) r.2.2.1,.d (.int .i64) r.2.2.2.1,.vec (.nam 7) i1 r.2.2.2.2.1]),(i1,.vec i1 (.nam 7) r.2.2.2.2.2)]
def l5 (r : PR bD) : RL EE.T := mi (ea 100000 200001) (rh 100000 200001) r
def Hf : Lvs := ⟨[],[],[],[],false,[(100000,(none,[]))],[100000,200001],[],[(19,200001)]⟩
def G0 : List ResultVar := [.tmp 4]
def De (N : Nat) : Gam EE := ⟨[],EQT,[⟨63,dF N⟩],[]⟩
theorem EG (N : Nat) : GOk Try.prog TT EE (De N) := GOk.consx (fj N) (GOk.nil dv)
def D4 (c : Code) : List It2 := [.c c]
def FK (x1 : Int) (y0_0 : List UInt8) (y0_1 : Int) (y0_2 : Int) (y0_3 : Nat) (y1 : List Vstep) : TS EE.T := ⟨23,[(0,.a (.box 100000 0)),(1,.a (.d (.int .i64) x1))],[(100000,.cs [.d .str y0_0,.d (.int .i64) y0_1,.d (.int .i64) y0_2,.vec (.nam 7) 200001 y0_3]),(200001,.vec 200001 (.nam 7) y1)],[]⟩
abbrev IE (N : Nat) (r : PR bD) (k : List It2) (s : TS EE.T) : Prop := fT (Y := TT) EE (De N) Hf G0 (fun u => u = l5 r) k s
def Be (x : PR bD) : Tree (Lf EE.T × Option (PR bD)) := .leaf (.done (l5 x),some x)
theorem EY {N : Nat} {r : PR bD} (x1 : Int) (y0_0 : List UInt8) (y0_1 : Int) (y0_2 : Int) (y0_3 : Nat) (y1 : List Vstep) (h : cv N x1 y0_0 y0_1 y0_2 y0_3 y1 = some r) : IE N r (D4 (ai 0 Try.f51)) (FK x1 y0_0 y0_1 y0_2 y0_3 y1) :=
 aQ (m := 4000) (t :=
 .bnd (AP y0_3 x1 (y0_3 : Int)) fun z1 =>
 .bnd (bz N z1.1 (y0_3 - z1.1) y1) fun z2 =>
 .sm z2 (fun z3 =>
  .bnd (DZ y0_3 z3.2 x1) fun z4 =>
  Be (.ok (z3.1,y0_0,y0_1,y0_2,z4.length,z4))) (fun vz2 =>
  Be (.pan vz2))) (by kernel_rfl) (by kernel_rfl) h (fun _ => fun _ => ⟨fun _ => fun _ => bc (enc := l5) rfl,fun _ => bc (enc := l5) rfl⟩)
def A5 (x1 : Int) (y0_0 : List UInt8) (y0_1 : Int) (y0_2 : Int) (y0_3 : Nat) (y1 : List Vstep) : List (TV EE.T) := [.a (.box 100000 0),.a (.d (.int .i64) x1)]
def wm (x1 : Int) (y0_0 : List UInt8) (y0_1 : Int) (y0_2 : Int) (y0_3 : Nat) (y1 : List Vstep) : List (Nat × TB EE.T) := [(100000,.cs [.d .str y0_0,.d (.int .i64) y0_1,.d (.int .i64) y0_2,.vec (.nam 7) 200001 y0_3]),(200001,.vec 200001 (.nam 7) y1)]
theorem kJ {N : Nat} (x1 : Int) (y0_0 : List UInt8) (y0_1 : Int) (y0_2 : Int) (y0_3 : Nat) (y1 : List Vstep) {r : PR bD} (h : cv N x1 y0_0 y0_1 y0_2 y0_3 y1 = some r) (ρ : Rn) (hi : Inj ρ (wm x1 y0_0 y0_1 y0_2 y0_3 y1)) : aT Try.prog 51 ((A5 x1 y0_0 y0_1 y0_2 y0_3 y1).map (TV.to EE.toEnc ρ)) (hTo EE.toEnc ρ (wm x1 y0_0 y0_1 y0_2 y0_3 y1)) (da EE ρ fun u => u = l5 r) :=
 eW (ai 0 Try.f51) 23 mixed (EG N) Try.func51 (by kernel_rfl) rfl rfl rfl rfl (EY x1 y0_0 y0_1 y0_2 y0_3 y1 h) ρ hi
def eV (N : Nat) (us : List (TV EE.T)) (hs : List (Nat × TB EE.T)) : XR EE.T :=
 gdX (fx us 2) <|
 bnX (aB us 0) fun i0 =>
 bnX (aD (.int .i64) us 1) fun x1 =>
 bnX (bC hs i0) fun l0 =>
 gdX (fx l0 4) <|
 bnX (cD .str l0 0) fun y0_0 =>
 bnX (cD (.int .i64) l0 1) fun y0_1 =>
 bnX (cD (.int .i64) l0 2) fun y0_2 =>
 bnX (cVi (.nam 7) l0 3) fun i1 =>
 bnX (cVn (.nam 7) l0 3) fun y0_3 =>
 bnX (bV (.nam 7) hs i1) fun y1 =>
 gdX (bR hs [i0,i1]) <|
 gdX (gV [i0,i1]) <|
 .mv (cv N x1 y0_0 y0_1 y0_2 y0_3 y1) [i0,i1] (mvL [i0,i1] [100000,200001]) 0 (ea i0 i1) (rh i0 i1)
theorem fX (N : Nat) : XOk Try.prog EE 51 (eV N) := fun us hs =>
 a7 fun h1 => aA fun i0 h2 => aA fun x1 h3 => aA fun l0 h4 => a7 fun h5 => aA fun y0_0 h6 => aA fun y0_1 h7 => aA fun y0_2 h8 => aA fun i1 h9 => aA fun y0_3 h10 => aA fun y1 h11 => a7 fun h12 => a7 fun h13 => fun p hz ρ hi => fN (ex := []) (ks := [100000,200001]) (us' := A5 x1 y0_0 y0_1 y0_2 y0_3 y1) (h0 := wm x1 y0_0 y0_1 y0_2 y0_3 y1) (ρ' := lO ρ [i0,i1]) (uc := ea 100000 200001) (u := ea i0 i1) (hc := rh 100000 200001) (h := rh i0 i1) hi h12 (by kernel_rfl) ⟨iF h2 (by kernel_rfl),lZ h3,ce h1⟩ ⟨(by kernel_rfl),ko h4 ⟨df h6,df h7,df h8,g8 h9 h10 (by kernel_rfl),ce h5⟩,(by kernel_rfl),i6 h11 (by kernel_rfl),trivial⟩ ⟨.inr rfl,.inl rfl,trivial⟩ h13 (fun hj => kJ x1 y0_0 y0_1 y0_2 y0_3 y1 hz _ hj) (fun z => ⟨by kernel_rfl,by kernel_rfl,by kernel_rfl,by kernel_rfl⟩)
def dZ (i0 : Nat) (i1 : Nat) (r : aI) : TV EE.T := .tu []
def ry (i0 : Nat) (i1 : Nat) (r : aI) : List (Nat × TB EE.T) := [(i0,.cs [.d .str r.1,.d (.int .i64) r.2.1,.d (.int .i64) r.2.2.1,.vec (.nam 7) i1 r.2.2.2.1]),(i1,.vec i1 (.nam 7) r.2.2.2.2)]
def mn (r : PR aI) : RL EE.T := mi (dZ 100000 200001) (ry 100000 200001) r
def ID : Lvs := ⟨[(9,⟨[(0,false),(6,false),(8,false),(16,false),(17,false),(18,false)],[],[(8,(some 7,[])),(100000,(none,[])),(200001,(none,[]))],[]⟩)],[(2,⟨[(0,false),(6,false),(16,false),(17,false),(18,false)],[],[(100000,(none,[])),(200001,(none,[]))],[]⟩)],[9],[],false,[(100000,(none,[]))],[100000,200001],[],[]⟩
def IP : List ResultVar := []
def FY (N : Nat) : Gam EE := ⟨[],EQT,[⟨36,de N⟩],[]⟩
theorem E5 (N : Nat) : GOk Try.prog TT EE (FY N) := GOk.consx (dB N) (GOk.nil dv)
def yC (c : Code) : List It2 := atR 9 c
def yr (x6 : Int) (x16 : List Vstep) (x17 : Int) (x18 : Int) (b8 : Vstep) (b100000_0 : List UInt8) (b100000_1 : Int) (b100000_2 : Int) (b100000_3_n : Nat) (b200001 : List Vstep) : TS EE.T := ⟨47,[(0,.a (.box 100000 0)),(6,.a (.d (.int .i64) x6)),(8,.a (.box 8 0)),(16,.a (.d (.sl (.nam 7)) x16)),(17,.a (.d (.int .i64) x17)),(18,.a (.d (.int .i64) x18))],[(8,.cs (ev EE (.nam 7) b8)),(100000,.cs [.d .str b100000_0,.d (.int .i64) b100000_1,.d (.int .i64) b100000_2,.vec (.nam 7) 200001 b100000_3_n]),(200001,.vec 200001 (.nam 7) b200001)],[]⟩
def ta (c : Code) : List It2 := atL 2 c
def tS (x6 : Int) (x16 : List Vstep) (x17 : Int) (x18 : Int) (b100000_0 : List UInt8) (b100000_1 : Int) (b100000_2 : Int) (b100000_3_n : Nat) (b200001 : List Vstep) : TS EE.T := ⟨47,[(0,.a (.box 100000 0)),(6,.a (.d (.int .i64) x6)),(16,.a (.d (.sl (.nam 7)) x16)),(17,.a (.d (.int .i64) x17)),(18,.a (.d (.int .i64) x18))],[(100000,.cs [.d .str b100000_0,.d (.int .i64) b100000_1,.d (.int .i64) b100000_2,.vec (.nam 7) 200001 b100000_3_n]),(200001,.vec 200001 (.nam 7) b200001)],[]⟩
def Dw (c : Code) : List It2 := [.c c]
def Eo (x1 : List Vstep) (x2 : Int) (y0_0 : List UInt8) (y0_1 : Int) (y0_2 : Int) (y0_3 : Nat) (y1 : List Vstep) : TS EE.T := ⟨47,[(0,.a (.box 100000 0)),(1,.a (.d (.sl (.nam 7)) x1)),(2,.a (.d (.int .i64) x2))],[(100000,.cs [.d .str y0_0,.d (.int .i64) y0_1,.d (.int .i64) y0_2,.vec (.nam 7) 200001 y0_3]),(200001,.vec 200001 (.nam 7) y1)],[]⟩
def sk (c : Code) (f : Int → (List Vstep) → Int → Int → Vstep → (List UInt8) → Int → Int → Nat → (List Vstep) → Option (PR aI)) (x6 : Int) (x16 : List Vstep) (x17 : Int) (x18 : Int) (b8 : Vstep) (b100000_0 : List UInt8) (b100000_1 : Int) (b100000_2 : Int) (b100000_3_n : Nat) (b200001 : List Vstep) : Tree (Lf EE.T × Option (PR aI)) := .leaf (.go (yC c) (yr x6 x16 x17 x18 b8 b100000_0 b100000_1 b100000_2 b100000_3_n b200001),f x6 x16 x17 x18 b8 b100000_0 b100000_1 b100000_2 b100000_3_n b200001)
def y6 (c : Code) (f : Int → (List Vstep) → Int → Int → (List UInt8) → Int → Int → Nat → (List Vstep) → Option (PR aI)) (x6 : Int) (x16 : List Vstep) (x17 : Int) (x18 : Int) (b100000_0 : List UInt8) (b100000_1 : Int) (b100000_2 : Int) (b100000_3_n : Nat) (b200001 : List Vstep) : Tree (Lf EE.T × Option (PR aI)) := .leaf (.go (ta c) (tS x6 x16 x17 x18 b100000_0 b100000_1 b100000_2 b100000_3_n b200001),f x6 x16 x17 x18 b100000_0 b100000_1 b100000_2 b100000_3_n b200001)
abbrev rj (N : Nat) (r : PR aI) (k : List It2) (s : TS EE.T) : Prop := fT (Y := TT) EE (FY N) ID IP (fun u => u = mn r) k s
def By (x : PR aI) : Tree (Lf EE.T × Option (PR aI)) := .leaf (.done (mn x),some x)
theorem sr {N : Nat} {r : PR aI} {k2 : Int → (List Vstep) → Int → Int → (List UInt8) → Int → Int → Nat → (List Vstep) → Option (PR aI)} (hk2 : ∀ x6 x16 x17 x18 b100000_0 b100000_1 b100000_2 b100000_3_n b200001, k2 x6 x16 x17 x18 b100000_0 b100000_1 b100000_2 b100000_3_n b200001 = some r → rj N r (ta (ai 0 Try.f52)) (tS x6 x16 x17 x18 b100000_0 b100000_1 b100000_2 b100000_3_n b200001)) (n : Nat) (x6 : Int) (x16 : List Vstep) (x17 : Int) (x18 : Int) (b8 : Vstep) (b100000_0 : List UInt8) (b100000_1 : Int) (b100000_2 : Int) (b100000_3_n : Nat) (b200001 : List Vstep) (h : bW N k2 n x6 x16 x17 x18 b8 b100000_0 b100000_1 b100000_2 b100000_3_n b200001 = some r) : rj N r (yC (ai 0 Try.f52)) (yr x6 x16 x17 x18 b8 b100000_0 b100000_1 b100000_2 b100000_3_n b200001) :=
 aQ (m := 4000) (t :=
 .bnd (aC N b8 b100000_0 b100000_1 b100000_2 b100000_3_n b200001) fun z2 =>
 .sm z2 (fun z3 =>
  y6 (ai 0 Try.f52) k2 x6 x16 x17 (w64 (x18 + 1)) z3.2.1 z3.2.2.1 z3.2.2.2.1 z3.2.2.2.2.1 z3.2.2.2.2.2) (fun vz2 =>
  By (.pan vz2))) (by kernel_rfl) (by kernel_rfl) h (fun _ => ⟨fun _ => fun h => hk2 _ _ _ _ _ _ _ _ _ h,fun _ => bc (enc := mn) rfl⟩)
theorem pC {N : Nat} {r : PR aI} : ∀ (n : Nat) (x6 : Int) (x16 : List Vstep) (x17 : Int) (x18 : Int) (b100000_0 : List UInt8) (b100000_1 : Int) (b100000_2 : Int) (b100000_3_n : Nat) (b200001 : List Vstep), bu N n x6 x16 x17 x18 b100000_0 b100000_1 b100000_2 b100000_3_n b200001 = some r → rj N r (ta (ai 0 Try.f52)) (tS x6 x16 x17 x18 b100000_0 b100000_1 b100000_2 b100000_3_n b200001)
 | 0,_,_,_,_,_,_,_,_,_,h => by cases h
 | n + 1, x6, x16, x17, x18, b100000_0, b100000_1, b100000_2, b100000_3_n, b200001, h => aQ (m := 4000) (t :=
   .cond (decide (x18 < x17))
   (
    .bnd (ap x16 x18) fun z1 =>
    .cond (z1.kind == 1)
    (
     sk (ai 0 Try.f52) (bW N (bu N n) n) x6 x16 x17 x18 ({ kind := z1.kind,a := w64 (z1.a + x6),b := w64 (z1.b + x6),set_ := z1.set_ } : Vstep) b100000_0 b100000_1 b100000_2 b100000_3_n b200001)
    (
     .cond (z1.kind == 2)
     (
      sk (ai 0 Try.f52) (bW N (bu N n) n) x6 x16 x17 x18 ({ kind := z1.kind,a := w64 (z1.a + x6),b := z1.b,set_ := z1.set_ } : Vstep) b100000_0 b100000_1 b100000_2 b100000_3_n b200001)
     (
      sk (ai 0 Try.f52) (bW N (bu N n) n) x6 x16 x17 x18 z1 b100000_0 b100000_1 b100000_2 b100000_3_n b200001)))
   (
    By (.ok (b100000_0,b100000_1,b100000_2,b100000_3_n,b200001)))) (by kernel_rfl) (by kernel_rfl) h (⟨fun _ => ⟨fun h => sr (pC n) n _ _ _ _ _ _ _ _ _ _ h,⟨fun h => sr (pC n) n _ _ _ _ _ _ _ _ _ _ h,fun h => sr (pC n) n _ _ _ _ _ _ _ _ _ _ h⟩⟩,bc (enc := mn) rfl⟩)
theorem Dn {N : Nat} {r : PR aI} (x1 : List Vstep) (x2 : Int) (y0_0 : List UInt8) (y0_1 : Int) (y0_2 : Int) (y0_3 : Nat) (y1 : List Vstep) (h : bp N x1 x2 y0_0 y0_1 y0_2 y0_3 y1 = some r) : rj N r (Dw (ai 0 Try.f52)) (Eo x1 x2 y0_0 y0_1 y0_2 y0_3 y1) :=
 aQ (m := 4000) (t :=
 y6 (ai 0 Try.f52) (bu N N) (w64 ((y0_3 : Int) - x2)) x1 (x1.length : Int) 0 y0_0 y0_1 y0_2 y0_3 y1) (by kernel_rfl) (by kernel_rfl) h (fun h => pC N _ _ _ _ _ _ _ _ _ h)
def BO (x1 : List Vstep) (x2 : Int) (y0_0 : List UInt8) (y0_1 : Int) (y0_2 : Int) (y0_3 : Nat) (y1 : List Vstep) : List (TV EE.T) := [.a (.box 100000 0),.a (.d (.sl (.nam 7)) x1),.a (.d (.int .i64) x2)]
def w7 (x1 : List Vstep) (x2 : Int) (y0_0 : List UInt8) (y0_1 : Int) (y0_2 : Int) (y0_3 : Nat) (y1 : List Vstep) : List (Nat × TB EE.T) := [(100000,.cs [.d .str y0_0,.d (.int .i64) y0_1,.d (.int .i64) y0_2,.vec (.nam 7) 200001 y0_3]),(200001,.vec 200001 (.nam 7) y1)]
theorem kS {N : Nat} (x1 : List Vstep) (x2 : Int) (y0_0 : List UInt8) (y0_1 : Int) (y0_2 : Int) (y0_3 : Nat) (y1 : List Vstep) {r : PR aI} (h : bp N x1 x2 y0_0 y0_1 y0_2 y0_3 y1 = some r) (ρ : Rn) (hi : Inj ρ (w7 x1 x2 y0_0 y0_1 y0_2 y0_3 y1)) : aT Try.prog 52 ((BO x1 x2 y0_0 y0_1 y0_2 y0_3 y1).map (TV.to EE.toEnc ρ)) (hTo EE.toEnc ρ (w7 x1 x2 y0_0 y0_1 y0_2 y0_3 y1)) (da EE ρ fun u => u = mn r) :=
 eW (ai 0 Try.f52) 47 mixed (E5 N) Try.func52 (by kernel_rfl) rfl rfl rfl rfl (Dn x1 x2 y0_0 y0_1 y0_2 y0_3 y1 h) ρ hi
def eR (N : Nat) (us : List (TV EE.T)) (hs : List (Nat × TB EE.T)) : XR EE.T :=
 gdX (fx us 3) <|
 bnX (aB us 0) fun i0 =>
 bnX (aD (.sl (.nam 7)) us 1) fun x1 =>
 bnX (aD (.int .i64) us 2) fun x2 =>
 bnX (bC hs i0) fun l0 =>
 gdX (fx l0 4) <|
 bnX (cD .str l0 0) fun y0_0 =>
 bnX (cD (.int .i64) l0 1) fun y0_1 =>
 bnX (cD (.int .i64) l0 2) fun y0_2 =>
 bnX (cVi (.nam 7) l0 3) fun i1 =>
 bnX (cVn (.nam 7) l0 3) fun y0_3 =>
 bnX (bV (.nam 7) hs i1) fun y1 =>
 gdX (bR hs [i0,i1]) <|
 gdX (gV [i0,i1]) <|
 .mv (bp N x1 x2 y0_0 y0_1 y0_2 y0_3 y1) [i0,i1] (mvL [i0,i1] [100000,200001]) 0 (dZ i0 i1) (ry i0 i1)
theorem fU (N : Nat) : XOk Try.prog EE 52 (eR N) := fun us hs =>
 a7 fun h1 => aA fun i0 h2 => aA fun x1 h3 => aA fun x2 h4 => aA fun l0 h5 => a7 fun h6 => aA fun y0_0 h7 => aA fun y0_1 h8 => aA fun y0_2 h9 => aA fun i1 h10 => aA fun y0_3 h11 => aA fun y1 h12 => a7 fun h13 => a7 fun h14 => fun p hz ρ hi => fN (ex := []) (ks := [100000,200001]) (us' := BO x1 x2 y0_0 y0_1 y0_2 y0_3 y1) (h0 := w7 x1 x2 y0_0 y0_1 y0_2 y0_3 y1) (ρ' := lO ρ [i0,i1]) (uc := dZ 100000 200001) (u := dZ i0 i1) (hc := ry 100000 200001) (h := ry i0 i1) hi h13 (by kernel_rfl) ⟨iF h2 (by kernel_rfl),lZ h3,lZ h4,ce h1⟩ ⟨(by kernel_rfl),ko h5 ⟨df h7,df h8,df h9,g8 h10 h11 (by kernel_rfl),ce h6⟩,(by kernel_rfl),i6 h12 (by kernel_rfl),trivial⟩ ⟨.inr rfl,.inl rfl,trivial⟩ h14 (fun hj => kS x1 x2 y0_0 y0_1 y0_2 y0_3 y1 hz _ hj) (fun z => ⟨by kernel_rfl,by kernel_rfl,by kernel_rfl,by kernel_rfl⟩)
def lf (i0 : Nat) (i1 : Nat) (r : Bool × (List UInt8) × Int × Int × Nat × (List Vstep)) : TV EE.T := .a (.d .bool r.1)
def kK (i0 : Nat) (i1 : Nat) (r : Bool × (List UInt8) × Int × Int × Nat × (List Vstep)) : List (Nat × TB EE.T) := [(i0,.cs [.d .str r.2.1,.d (.int .i64) r.2.2.1,.d (.int .i64) r.2.2.2.1,.vec (.nam 7) i1 r.2.2.2.2.1]),(i1,.vec i1 (.nam 7) r.2.2.2.2.2)]
def ed (N : RecC) (us : List (TV EE.T)) (hs : List (Nat × TB EE.T)) : XR EE.T :=
 gdX (fx us 1) <|
 bnX (aB us 0) fun i0 =>
 bnX (bC hs i0) fun l0 =>
 gdX (fx l0 4) <|
 bnX (cD .str l0 0) fun y0_0 =>
 bnX (cD (.int .i64) l0 1) fun y0_1 =>
 bnX (cD (.int .i64) l0 2) fun y0_2 =>
 bnX (cVi (.nam 7) l0 3) fun i1 =>
 bnX (cVn (.nam 7) l0 3) fun y0_3 =>
 bnX (bV (.nam 7) hs i1) fun y1 =>
 gdX (bR hs [i0,i1]) <|
 gdX (gV [i0,i1]) <|
 .mv (dE N y0_0 y0_1 y0_2 y0_3 y1) [i0,i1] (mvL [i0,i1] [100000,200001]) 0 (lf i0 i1) (kK i0 i1)
def gZ (N : RecC) : Prop := XOk Try.prog EE 34 (ed N)
theorem fW (N : RecC) (hN : gZ N) : XOk Try.prog EE 34 (ed N) := hN
theorem F9 (n : Nat) : gZ ⟨n, fun _ _ _ _ _ => none⟩ := fun us hs =>
 a7 fun h1 => aA fun i0 h2 => aA fun l0 h3 => a7 fun h4 => aA fun y0_0 h5 => aA fun y0_1 h6 => aA fun y0_2 h7 => aA fun i1 h8 => aA fun y0_3 h9 => aA fun y1 h10 => a7 fun h11 => a7 fun h12 => fun p hz => by cases hz
def dR (i0 : Nat) (i1 : Nat) (r : az) : TV EE.T := .a (.d .bool r.1)
def rO (i0 : Nat) (i1 : Nat) (r : az) : List (Nat × TB EE.T) := [(i0,.cs [.d .str r.2.1,.d (.int .i64) r.2.2.1,.d (.int .i64) r.2.2.2.1,.vec (.nam 7) i1 r.2.2.2.2.1]),(i1,.vec i1 (.nam 7) r.2.2.2.2.2)]
def ci (r : PR az) : RL EE.T := mi (dR 100000 200001) (rO 100000 200001) r
def Ia : Lvs := ⟨[(1,⟨[(0,false)],[],[(100000,(none,[])),(200001,(none,[]))],[]⟩),(5,⟨[(0,false),(3,false)],[],[(100000,(none,[])),(200001,(none,[]))],[]⟩),(20,⟨[(0,false),(6,false),(7,false),(8,false)],[],[(100000,(none,[])),(200001,(none,[]))],[]⟩),(21,⟨[(0,false),(6,false)],[],[(100000,(none,[])),(200001,(none,[]))],[]⟩),(30,⟨[(0,false)],[],[(100000,(none,[])),(200001,(none,[]))],[]⟩)],[(11,⟨[(0,false),(4,false),(51,false)],[],[(4,(none,[])),(100000,(none,[])),(200001,(none,[]))],[]⟩)],[5,20,21,30],[],false,[(100000,(none,[]))],[100000,200001],[(15,[.cl 4 (.a 256) (.s 4)])],[]⟩
def GS : List ResultVar := [.tmp 2]
def EW (N : RecC) : Gam EE := ⟨[⟨68,oe N.n⟩,⟨46,dV N.n⟩],EQT,[⟨69,gG N.n⟩,⟨34,ed N⟩,⟨35,cS N.n⟩,⟨50,d8 N.n⟩,⟨36,de N.n⟩,⟨61,cr N.n⟩],[]⟩
theorem Gc (N : RecC) (hN : gZ N) : GOk Try.prog TT EE (EW N) := GOk.cons (vX N.n) (GOk.cons (fh N.n) (GOk.consx (jP N.n) (GOk.consx (fW N hN) (GOk.consx (dn N.n) (GOk.consx (eA N.n) (GOk.consx (dB N.n) (GOk.consx (cG N.n) (GOk.nil dv))))))))
def vg (c : Code) : List It2 := atL 11 c
def uD (x51 : Int) (b4 : List Bool) (b100000_0 : List UInt8) (b100000_1 : Int) (b100000_2 : Int) (b100000_3_n : Nat) (b200001 : List Vstep) : TS EE.T := ⟨187,[(0,.a (.box 100000 0)),(4,.a (.box 4 0)),(51,.a (.d (.int .i64) x51))],[(4,.row .bool b4),(100000,.cs [.d .str b100000_0,.d (.int .i64) b100000_1,.d (.int .i64) b100000_2,.vec (.nam 7) 200001 b100000_3_n]),(200001,.vec 200001 (.nam 7) b200001)],[]⟩
def uL (c : Code) : List It2 := atR 21 c
def vo (x6 : UInt8) (b100000_0 : List UInt8) (b100000_1 : Int) (b100000_2 : Int) (b100000_3_n : Nat) (b200001 : List Vstep) : TS EE.T := ⟨187,[(0,.a (.box 100000 0)),(6,.a (.d .byte x6))],[(100000,.cs [.d .str b100000_0,.d (.int .i64) b100000_1,.d (.int .i64) b100000_2,.vec (.nam 7) 200001 b100000_3_n]),(200001,.vec 200001 (.nam 7) b200001)],[]⟩
def vG (c : Code) : List It2 := atR 20 c
def uV (x6 : UInt8) (x7 : Bool) (x8 : Bool) (b100000_0 : List UInt8) (b100000_1 : Int) (b100000_2 : Int) (b100000_3_n : Nat) (b200001 : List Vstep) : TS EE.T := ⟨187,[(0,.a (.box 100000 0)),(6,.a (.d .byte x6)),(7,.a (.d .bool x7)),(8,.a (.d .bool x8))],[(100000,.cs [.d .str b100000_0,.d (.int .i64) b100000_1,.d (.int .i64) b100000_2,.vec (.nam 7) 200001 b100000_3_n]),(200001,.vec 200001 (.nam 7) b200001)],[]⟩
def uU (c : Code) : List It2 := atR 30 c
def vd (b100000_0 : List UInt8) (b100000_1 : Int) (b100000_2 : Int) (b100000_3_n : Nat) (b200001 : List Vstep) : TS EE.T := ⟨187,[(0,.a (.box 100000 0))],[(100000,.cs [.d .str b100000_0,.d (.int .i64) b100000_1,.d (.int .i64) b100000_2,.vec (.nam 7) 200001 b100000_3_n]),(200001,.vec 200001 (.nam 7) b200001)],[]⟩
def xG (c : Code) : List It2 := atR 5 c
def xS (x3 : UInt8) (b100000_0 : List UInt8) (b100000_1 : Int) (b100000_2 : Int) (b100000_3_n : Nat) (b200001 : List Vstep) : TS EE.T := ⟨187,[(0,.a (.box 100000 0)),(3,.a (.d .byte x3))],[(100000,.cs [.d .str b100000_0,.d (.int .i64) b100000_1,.d (.int .i64) b100000_2,.vec (.nam 7) 200001 b100000_3_n]),(200001,.vec 200001 (.nam 7) b200001)],[]⟩
def ED (c : Code) : List It2 := [.c c]
def Gd (y0_0 : List UInt8) (y0_1 : Int) (y0_2 : Int) (y0_3 : Nat) (y1 : List Vstep) : TS EE.T := ⟨187,[(0,.a (.box 100000 0))],[(100000,.cs [.d .str y0_0,.d (.int .i64) y0_1,.d (.int .i64) y0_2,.vec (.nam 7) 200001 y0_3]),(200001,.vec 200001 (.nam 7) y1)],[]⟩
def uJ (c : Code) (f : Int → (List Bool) → (List UInt8) → Int → Int → Nat → (List Vstep) → Option (PR az)) (x51 : Int) (b4 : List Bool) (b100000_0 : List UInt8) (b100000_1 : Int) (b100000_2 : Int) (b100000_3_n : Nat) (b200001 : List Vstep) : Tree (Lf EE.T × Option (PR az)) := .leaf (.go (vg c) (uD x51 b4 b100000_0 b100000_1 b100000_2 b100000_3_n b200001),f x51 b4 b100000_0 b100000_1 b100000_2 b100000_3_n b200001)
def vF (c : Code) (f : UInt8 → (List UInt8) → Int → Int → Nat → (List Vstep) → Option (PR az)) (x6 : UInt8) (b100000_0 : List UInt8) (b100000_1 : Int) (b100000_2 : Int) (b100000_3_n : Nat) (b200001 : List Vstep) : Tree (Lf EE.T × Option (PR az)) := .leaf (.go (uL c) (vo x6 b100000_0 b100000_1 b100000_2 b100000_3_n b200001),f x6 b100000_0 b100000_1 b100000_2 b100000_3_n b200001)
def eI (c : Code) (f : UInt8 → Bool → Bool → (List UInt8) → Int → Int → Nat → (List Vstep) → Option (PR az)) (x6 : UInt8) (x7 : Bool) (x8 : Bool) (b100000_0 : List UInt8) (b100000_1 : Int) (b100000_2 : Int) (b100000_3_n : Nat) (b200001 : List Vstep) : Tree (Lf EE.T × Option (PR az)) := .leaf (.go (vG c) (uV x6 x7 x8 b100000_0 b100000_1 b100000_2 b100000_3_n b200001),f x6 x7 x8 b100000_0 b100000_1 b100000_2 b100000_3_n b200001)
def uH (c : Code) (f : (List UInt8) → Int → Int → Nat → (List Vstep) → Option (PR az)) (b100000_0 : List UInt8) (b100000_1 : Int) (b100000_2 : Int) (b100000_3_n : Nat) (b200001 : List Vstep) : Tree (Lf EE.T × Option (PR az)) := .leaf (.go (uU c) (vd b100000_0 b100000_1 b100000_2 b100000_3_n b200001),f b100000_0 b100000_1 b100000_2 b100000_3_n b200001)
def xV (c : Code) (f : UInt8 → (List UInt8) → Int → Int → Nat → (List Vstep) → Option (PR az)) (x3 : UInt8) (b100000_0 : List UInt8) (b100000_1 : Int) (b100000_2 : Int) (b100000_3_n : Nat) (b200001 : List Vstep) : Tree (Lf EE.T × Option (PR az)) := .leaf (.go (xG c) (xS x3 b100000_0 b100000_1 b100000_2 b100000_3_n b200001),f x3 b100000_0 b100000_1 b100000_2 b100000_3_n b200001)
abbrev na (N : RecC) (r : PR az) (k : List It2) (s : TS EE.T) : Prop := fT (Y := TT) EE (EW N) Ia GS (fun u => u = ci r) k s
def dm (x : PR az) : Tree (Lf EE.T × Option (PR az)) := .leaf (.done (ci x),some x)
theorem vQ {N : RecC} {r : PR az} : ∀ (n : Nat) (x51 : Int) (b4 : List Bool) (b100000_0 : List UInt8) (b100000_1 : Int) (b100000_2 : Int) (b100000_3_n : Nat) (b200001 : List Vstep), cE N n x51 b4 b100000_0 b100000_1 b100000_2 b100000_3_n b200001 = some r → na N r (vg (ai 0 Try.f67)) (uD x51 b4 b100000_0 b100000_1 b100000_2 b100000_3_n b200001)
 | 0,_,_,_,_,_,_,_,h => by cases h
 | n + 1, x51, b4, b100000_0, b100000_1, b100000_2, b100000_3_n, b200001, h => aQ (m := 4000) (t :=
   .cond (decide (x51 < 256))
   (
    .bnd (eB 256 x51) fun z13 =>
    .bnd (t8 b4 (0 + z13) true) fun z14 =>
    uJ (ai 0 Try.f67) (cE N n) (w64 (x51 + 1)) z14 b100000_0 b100000_1 b100000_2 b100000_3_n b200001)
   (
    .bnd (o5 256 b4) fun z15 =>
    .bnd (aC N.n ({ kind := 0,a := 0,b := 0,set_ := (some z15) } : Vstep) b100000_0 b100000_1 b100000_2 b100000_3_n b200001) fun z16 =>
    .sm z16 (fun z17 =>
     dm (.ok (false,z17.2.1,z17.2.2.1,z17.2.2.2.1,z17.2.2.2.2.1,z17.2.2.2.2.2))) (fun vz16 =>
     dm (.pan vz16)))) (by kernel_rfl) (by kernel_rfl) h (⟨fun _ => fun _ => fun h => (vQ n) _ _ _ _ _ _ _ h,fun _ => fun _ => ⟨fun _ => bc (enc := ci) rfl,fun _ => bc (enc := ci) rfl⟩⟩)
theorem uN {N : RecC} {r : PR az} (n : Nat) (x6 : UInt8) (b100000_0 : List UInt8) (b100000_1 : Int) (b100000_2 : Int) (b100000_3_n : Nat) (b200001 : List Vstep) (h : cA N n x6 b100000_0 b100000_1 b100000_2 b100000_3_n b200001 = some r) : na N r (uL (ai 0 Try.f67)) (vo x6 b100000_0 b100000_1 b100000_2 b100000_3_n b200001) :=
 aQ (m := 4000) (t :=
 .bnd (aR N.n 1 b100000_1 b100000_0 b100000_1 b100000_2 b100000_3_n b200001) fun z34 =>
 .sm z34 (fun z35 =>
  .bnd (gB N.n x6) fun z36 =>
  .bnd (aC N.n ({ kind := 0,a := 0,b := 0,set_ := z36 } : Vstep) z35.1 (w64 (z35.2.1 + 1)) z35.2.2.1 z35.2.2.2.1 z35.2.2.2.2) fun z37 =>
  .sm z37 (fun z38 =>
   dm (.ok (false,z38.2.1,z38.2.2.1,z38.2.2.2.1,z38.2.2.2.2.1,z38.2.2.2.2.2))) (fun vz37 =>
   dm (.pan vz37))) (fun vz34 =>
  dm (.pan vz34))) (by kernel_rfl) (by kernel_rfl) h (fun _ => ⟨fun _ => fun _ => fun _ => ⟨fun _ => bc (enc := ci) rfl,fun _ => bc (enc := ci) rfl⟩,fun _ => bc (enc := ci) rfl⟩)
theorem w67i0oR20 {N : RecC} {r : PR az} (n : Nat) (x6 : UInt8) (x7 : Bool) (x8 : Bool) (b100000_0 : List UInt8) (b100000_1 : Int) (b100000_2 : Int) (b100000_3_n : Nat) (b200001 : List Vstep) (h : aF N n x6 x7 x8 b100000_0 b100000_1 b100000_2 b100000_3_n b200001 = some r) : na N r (vG (ai 0 Try.f67)) (uV x6 x7 x8 b100000_0 b100000_1 b100000_2 b100000_3_n b200001) :=
 aQ (m := 4000) (t :=
 .cond (!x7)
 (
  vF (ai 0 Try.f67) (cA N n) x6 b100000_0 b100000_1 b100000_2 b100000_3_n b200001)
 (
  .cond (x8)
  (
   vF (ai 0 Try.f67) (cA N n) x6 b100000_0 b100000_1 b100000_2 b100000_3_n b200001)
  (
   .bnd (gB N.n x6) fun z18 =>
   .bnd (aC N.n ({ kind := 0,a := 0,b := 0,set_ := z18 } : Vstep) b100000_0 (w64 (b100000_1 + 1)) b100000_2 b100000_3_n b200001) fun z19 =>
   .sm z19 (fun z20 =>
    dm (.ok (false,z20.2.1,z20.2.2.1,z20.2.2.2.1,z20.2.2.2.2.1,z20.2.2.2.2.2))) (fun vz19 =>
    dm (.pan vz19))))) (by kernel_rfl) (by kernel_rfl) h (⟨fun h => uN n _ _ _ _ _ _ h,⟨fun h => uN n _ _ _ _ _ _ h,fun _ => fun _ => ⟨fun _ => bc (enc := ci) rfl,fun _ => bc (enc := ci) rfl⟩⟩⟩)
theorem vw {N : RecC} {r : PR az} (n : Nat) (b100000_0 : List UInt8) (b100000_1 : Int) (b100000_2 : Int) (b100000_3_n : Nat) (b200001 : List Vstep) (h : cC N n b100000_0 b100000_1 b100000_2 b100000_3_n b200001 = some r) : na N r (uU (ai 0 Try.f67)) (vd b100000_0 b100000_1 b100000_2 b100000_3_n b200001) :=
 aQ (m := 4000) (t :=
 .bnd (aC N.n ({ kind := 3,a := w64 (2 * (w64 (b100000_2 + 1))),b := 0,set_ := (none : Option (List Bool)) } : Vstep) b100000_0 (w64 (b100000_1 + 1)) (w64 (b100000_2 + 1)) b100000_3_n b200001) fun z21 =>
 .sm z21 (fun z22 =>
  .bnd (dE N z22.2.1 z22.2.2.1 z22.2.2.2.1 z22.2.2.2.2.1 z22.2.2.2.2.2) fun z23 =>
  .sm z23 (fun z24 =>
   .bnd (aC N.n ({ kind := 3,a := w64 ((w64 (2 * (w64 (b100000_2 + 1)))) + 1),b := 0,set_ := (none : Option (List Bool)) } : Vstep) z24.2.1 z24.2.2.1 z24.2.2.2.1 z24.2.2.2.2.1 z24.2.2.2.2.2) fun z25 =>
   .sm z25 (fun z26 =>
    .bnd (bg N.n 41 z26.2.1 z26.2.2.1 z26.2.2.2.1 z26.2.2.2.2.1 z26.2.2.2.2.2) fun z27 =>
    .sm z27 (fun z28 =>
     .cond (!z28.1)
     (
      .bnd (aR N.n 1 z28.2.2.1 z28.2.1 z28.2.2.1 z28.2.2.2.1 z28.2.2.2.2.1 z28.2.2.2.2.2) fun z29 =>
      .sm z29 (fun z30 =>
       dm (.ok (z24.1,z30.1,z30.2.1,z30.2.2.1,z30.2.2.2.1,z30.2.2.2.2))) (fun vz29 =>
       dm (.pan vz29)))
     (
      dm (.ok (z24.1,z28.2.1,z28.2.2.1,z28.2.2.2.1,z28.2.2.2.2.1,z28.2.2.2.2.2)))) (fun vz27 =>
     dm (.pan vz27))) (fun vz25 =>
    dm (.pan vz25))) (fun vz23 =>
   dm (.pan vz23))) (fun vz21 =>
  dm (.pan vz21))) (by kernel_rfl) (by kernel_rfl) h (fun _ => ⟨fun _ => fun _ => ⟨fun _ => fun _ => ⟨fun _ => fun _ => ⟨fun _ => ⟨fun _ => ⟨fun _ => bc (enc := ci) rfl,fun _ => bc (enc := ci) rfl⟩,bc (enc := ci) rfl⟩,fun _ => bc (enc := ci) rfl⟩,fun _ => bc (enc := ci) rfl⟩,fun _ => bc (enc := ci) rfl⟩,fun _ => bc (enc := ci) rfl⟩)
theorem zL {N : RecC} {r : PR az} (n : Nat) (x3 : UInt8) (b100000_0 : List UInt8) (b100000_1 : Int) (b100000_2 : Int) (b100000_3_n : Nat) (b200001 : List Vstep) (h : cL N n x3 b100000_0 b100000_1 b100000_2 b100000_3_n b200001 = some r) : na N r (xG (ai 0 Try.f67)) (xS x3 b100000_0 b100000_1 b100000_2 b100000_3_n b200001) :=
 aQ (m := 4000) (t :=
 .bnd (gB N.n x3) fun z31 =>
 .bnd (aC N.n ({ kind := 0,a := 0,b := 0,set_ := z31 } : Vstep) b100000_0 (w64 (b100000_1 + 1)) b100000_2 b100000_3_n b200001) fun z32 =>
 .sm z32 (fun z33 =>
  dm (.ok (false,z33.2.1,z33.2.2.1,z33.2.2.2.1,z33.2.2.2.2.1,z33.2.2.2.2.2))) (fun vz32 =>
  dm (.pan vz32))) (by kernel_rfl) (by kernel_rfl) h (fun _ => fun _ => ⟨fun _ => bc (enc := ci) rfl,fun _ => bc (enc := ci) rfl⟩)
theorem DE {N : RecC} {r : PR az} (y0_0 : List UInt8) (y0_1 : Int) (y0_2 : Int) (y0_3 : Nat) (y1 : List Vstep) (h : dt N y0_0 y0_1 y0_2 y0_3 y1 = some r) : na N r (ED (ai 0 Try.f67)) (Gd y0_0 y0_1 y0_2 y0_3 y1) :=
 aQ (m := 4000) (t :=
 .bnd (ap y0_0 y0_1) fun z1 =>
 .cond ((b2i z1) == (b2i 46))
 (
  uJ (ai 0 Try.f67) (cE N N.n) 0 ([false,false,false,false,false,false,false,false,false,false,false,false,false,false,false,false,false,false,false,false,false,false,false,false,false,false,false,false,false,false,false,false,false,false,false,false,false,false,false,false,false,false,false,false,false,false,false,false,false,false,false,false,false,false,false,false,false,false,false,false,false,false,false,false,false,false,false,false,false,false,false,false,false,false,false,false,false,false,false,false,false,false,false,false,false,false,false,false,false,false,false,false,false,false,false,false,false,false,false,false,false,false,false,false,false,false,false,false,false,false,false,false,false,false,false,false,false,false,false,false,false,false,false,false,false,false,false,false,false,false,false,false,false,false,false,false,false,false,false,false,false,false,false,false,false,false,false,false,false,false,false,false,false,false,false,false,false,false,false,false,false,false,false,false,false,false,false,false,false,false,false,false,false,false,false,false,false,false,false,false,false,false,false,false,false,false,false,false,false,false,false,false,false,false,false,false,false,false,false,false,false,false,false,false,false,false,false,false,false,false,false,false,false,false,false,false,false,false,false,false,false,false,false,false,false,false,false,false,false,false,false,false,false,false,false,false,false,false,false,false,false,false,false,false,false,false,false,false,false,false,false,false,false,false,false,false] : List Bool) y0_0 (w64 (y0_1 + 1)) y0_2 y0_3 y1)
 (
  .cond ((b2i z1) == (b2i 92))
  (
   .bnd (bd N.n y0_0 (w64 (y0_1 + 1)) y0_2 y0_3 y1) fun z2 =>
   .sm z2 (fun z3 =>
    .cond (decide ((b2i z3.1) ≥ (b2i 97)))
    (
     .cond (decide ((b2i z3.1) ≤ (b2i 122)))
     (
      eI (ai 0 Try.f67) (aF N N.n) z3.1 z3.2.1 true z3.2.2.1 z3.2.2.2.1 z3.2.2.2.2.1 z3.2.2.2.2.2.1 z3.2.2.2.2.2.2)
     (
      .cond (decide ((b2i z3.1) ≥ (b2i 65)))
      (
       .cond (decide ((b2i z3.1) ≤ (b2i 90)))
       (
        eI (ai 0 Try.f67) (aF N N.n) z3.1 z3.2.1 true z3.2.2.1 z3.2.2.2.1 z3.2.2.2.2.1 z3.2.2.2.2.2.1 z3.2.2.2.2.2.2)
       (
        .cond (decide ((b2i z3.1) ≥ (b2i 48)))
        (
         eI (ai 0 Try.f67) (aF N N.n) z3.1 z3.2.1 (decide ((b2i z3.1) ≤ (b2i 57))) z3.2.2.1 z3.2.2.2.1 z3.2.2.2.2.1 z3.2.2.2.2.2.1 z3.2.2.2.2.2.2)
        (
         eI (ai 0 Try.f67) (aF N N.n) z3.1 z3.2.1 false z3.2.2.1 z3.2.2.2.1 z3.2.2.2.2.1 z3.2.2.2.2.2.1 z3.2.2.2.2.2.2)))
      (
       .cond (decide ((b2i z3.1) ≥ (b2i 48)))
       (
        eI (ai 0 Try.f67) (aF N N.n) z3.1 z3.2.1 (decide ((b2i z3.1) ≤ (b2i 57))) z3.2.2.1 z3.2.2.2.1 z3.2.2.2.2.1 z3.2.2.2.2.2.1 z3.2.2.2.2.2.2)
       (
        eI (ai 0 Try.f67) (aF N N.n) z3.1 z3.2.1 false z3.2.2.1 z3.2.2.2.1 z3.2.2.2.2.1 z3.2.2.2.2.2.1 z3.2.2.2.2.2.2))))
    (
     .cond (decide ((b2i z3.1) ≥ (b2i 65)))
     (
      .cond (decide ((b2i z3.1) ≤ (b2i 90)))
      (
       eI (ai 0 Try.f67) (aF N N.n) z3.1 z3.2.1 true z3.2.2.1 z3.2.2.2.1 z3.2.2.2.2.1 z3.2.2.2.2.2.1 z3.2.2.2.2.2.2)
      (
       .cond (decide ((b2i z3.1) ≥ (b2i 48)))
       (
        eI (ai 0 Try.f67) (aF N N.n) z3.1 z3.2.1 (decide ((b2i z3.1) ≤ (b2i 57))) z3.2.2.1 z3.2.2.2.1 z3.2.2.2.2.1 z3.2.2.2.2.2.1 z3.2.2.2.2.2.2)
       (
        eI (ai 0 Try.f67) (aF N N.n) z3.1 z3.2.1 false z3.2.2.1 z3.2.2.2.1 z3.2.2.2.2.1 z3.2.2.2.2.2.1 z3.2.2.2.2.2.2)))
     (
      .cond (decide ((b2i z3.1) ≥ (b2i 48)))
      (
       eI (ai 0 Try.f67) (aF N N.n) z3.1 z3.2.1 (decide ((b2i z3.1) ≤ (b2i 57))) z3.2.2.1 z3.2.2.2.1 z3.2.2.2.2.1 z3.2.2.2.2.2.1 z3.2.2.2.2.2.2)
      (
       eI (ai 0 Try.f67) (aF N N.n) z3.1 z3.2.1 false z3.2.2.1 z3.2.2.2.1 z3.2.2.2.2.1 z3.2.2.2.2.2.1 z3.2.2.2.2.2.2)))) (fun vz2 =>
    dm (.pan vz2)))
  (
   .cond ((b2i z1) == (b2i 91))
   (
    .bnd (dI N.n y0_0 (w64 (y0_1 + 1)) y0_2 y0_3 y1) fun z4 =>
    .sm z4 (fun z5 =>
     .bnd (aC N.n ({ kind := 0,a := 0,b := 0,set_ := z5.1 } : Vstep) z5.2.1 z5.2.2.1 z5.2.2.2.1 z5.2.2.2.2.1 z5.2.2.2.2.2) fun z6 =>
     .sm z6 (fun z7 =>
      dm (.ok (false,z7.2.1,z7.2.2.1,z7.2.2.2.1,z7.2.2.2.2.1,z7.2.2.2.2.2))) (fun vz6 =>
      dm (.pan vz6))) (fun vz4 =>
     dm (.pan vz4)))
   (
    .cond ((b2i z1) == (b2i 40))
    (
     .cond (y0_2 == 9)
     (
      .bnd (aR N.n 2 y0_1 y0_0 y0_1 y0_2 y0_3 y1) fun z8 =>
      .sm z8 (fun z9 =>
       uH (ai 0 Try.f67) (cC N N.n) z9.1 z9.2.1 z9.2.2.1 z9.2.2.2.1 z9.2.2.2.2) (fun vz8 =>
       dm (.pan vz8)))
     (
      uH (ai 0 Try.f67) (cC N N.n) y0_0 y0_1 y0_2 y0_3 y1))
    (
     .bnd (co N.n ([42,43,63,41,124,93] : List UInt8) z1) fun z10 =>
     .cond (decide (z10 ≥ 0))
     (
      .bnd (aR N.n 1 y0_1 y0_0 y0_1 y0_2 y0_3 y1) fun z11 =>
      .sm z11 (fun z12 =>
       xV (ai 0 Try.f67) (cL N N.n) z1 z12.1 z12.2.1 z12.2.2.1 z12.2.2.2.1 z12.2.2.2.2) (fun vz11 =>
       dm (.pan vz11)))
     (
      xV (ai 0 Try.f67) (cL N N.n) z1 y0_0 y0_1 y0_2 y0_3 y1)))))) (by kernel_rfl) (by kernel_rfl) h (fun _ => ⟨fun h => vQ N.n _ _ _ _ _ _ _ h,⟨fun _ => ⟨fun _ => ⟨⟨fun h => w67i0oR20 N.n _ _ _ _ _ _ _ _ h,⟨⟨fun h => w67i0oR20 N.n _ _ _ _ _ _ _ _ h,⟨fun h => w67i0oR20 N.n _ _ _ _ _ _ _ _ h,fun h => w67i0oR20 N.n _ _ _ _ _ _ _ _ h⟩⟩,⟨fun h => w67i0oR20 N.n _ _ _ _ _ _ _ _ h,fun h => w67i0oR20 N.n _ _ _ _ _ _ _ _ h⟩⟩⟩,⟨⟨fun h => w67i0oR20 N.n _ _ _ _ _ _ _ _ h,⟨fun h => w67i0oR20 N.n _ _ _ _ _ _ _ _ h,fun h => w67i0oR20 N.n _ _ _ _ _ _ _ _ h⟩⟩,⟨fun h => w67i0oR20 N.n _ _ _ _ _ _ _ _ h,fun h => w67i0oR20 N.n _ _ _ _ _ _ _ _ h⟩⟩⟩,fun _ => bc (enc := ci) rfl⟩,⟨fun _ => ⟨fun _ => fun _ => ⟨fun _ => bc (enc := ci) rfl,fun _ => bc (enc := ci) rfl⟩,fun _ => bc (enc := ci) rfl⟩,⟨⟨fun _ => ⟨fun _ => fun h => vw N.n _ _ _ _ _ h,fun _ => bc (enc := ci) rfl⟩,fun h => vw N.n _ _ _ _ _ h⟩,fun _ => ⟨fun _ => ⟨fun _ => fun h => zL N.n _ _ _ _ _ _ h,fun _ => bc (enc := ci) rfl⟩,fun h => zL N.n _ _ _ _ _ _ h⟩⟩⟩⟩⟩)
def BW (y0_0 : List UInt8) (y0_1 : Int) (y0_2 : Int) (y0_3 : Nat) (y1 : List Vstep) : List (TV EE.T) := [.a (.box 100000 0)]
def xl (y0_0 : List UInt8) (y0_1 : Int) (y0_2 : Int) (y0_3 : Nat) (y1 : List Vstep) : List (Nat × TB EE.T) := [(100000,.cs [.d .str y0_0,.d (.int .i64) y0_1,.d (.int .i64) y0_2,.vec (.nam 7) 200001 y0_3]),(200001,.vec 200001 (.nam 7) y1)]
theorem jQ {N : RecC} (hN : gZ N) (y0_0 : List UInt8) (y0_1 : Int) (y0_2 : Int) (y0_3 : Nat) (y1 : List Vstep) {r : PR az} (h : dt N y0_0 y0_1 y0_2 y0_3 y1 = some r) (ρ : Rn) (hi : Inj ρ (xl y0_0 y0_1 y0_2 y0_3 y1)) : aT Try.prog 67 ((BW y0_0 y0_1 y0_2 y0_3 y1).map (TV.to EE.toEnc ρ)) (hTo EE.toEnc ρ (xl y0_0 y0_1 y0_2 y0_3 y1)) (da EE ρ fun u => u = ci r) :=
 eW (ai 0 Try.f67) 187 mixed (Gc N hN) Try.func67 (by kernel_rfl) rfl rfl rfl rfl (DE y0_0 y0_1 y0_2 y0_3 y1 h) ρ hi
def gt (N : RecC) (us : List (TV EE.T)) (hs : List (Nat × TB EE.T)) : XR EE.T :=
 gdX (fx us 1) <|
 bnX (aB us 0) fun i0 =>
 bnX (bC hs i0) fun l0 =>
 gdX (fx l0 4) <|
 bnX (cD .str l0 0) fun y0_0 =>
 bnX (cD (.int .i64) l0 1) fun y0_1 =>
 bnX (cD (.int .i64) l0 2) fun y0_2 =>
 bnX (cVi (.nam 7) l0 3) fun i1 =>
 bnX (cVn (.nam 7) l0 3) fun y0_3 =>
 bnX (bV (.nam 7) hs i1) fun y1 =>
 gdX (bR hs [i0,i1]) <|
 gdX (gV [i0,i1]) <|
 .mv (dt N y0_0 y0_1 y0_2 y0_3 y1) [i0,i1] (mvL [i0,i1] [100000,200001]) 0 (dR i0 i1) (rO i0 i1)
theorem jz (N : RecC) (hN : gZ N) : XOk Try.prog EE 67 (gt N) := fun us hs =>
 a7 fun h1 => aA fun i0 h2 => aA fun l0 h3 => a7 fun h4 => aA fun y0_0 h5 => aA fun y0_1 h6 => aA fun y0_2 h7 => aA fun i1 h8 => aA fun y0_3 h9 => aA fun y1 h10 => a7 fun h11 => a7 fun h12 => fun p hz ρ hi => fN (ex := []) (ks := [100000,200001]) (us' := BW y0_0 y0_1 y0_2 y0_3 y1) (h0 := xl y0_0 y0_1 y0_2 y0_3 y1) (ρ' := lO ρ [i0,i1]) (uc := dR 100000 200001) (u := dR i0 i1) (hc := rO 100000 200001) (h := rO i0 i1) hi h11 (by kernel_rfl) ⟨iF h2 (by kernel_rfl),ce h1⟩ ⟨(by kernel_rfl),ko h3 ⟨df h5,df h6,df h7,g8 h8 h9 (by kernel_rfl),ce h4⟩,(by kernel_rfl),i6 h10 (by kernel_rfl),trivial⟩ ⟨.inr rfl,.inl rfl,trivial⟩ h12 (fun hj => jQ hN y0_0 y0_1 y0_2 y0_3 y1 hz _ hj) (fun z => ⟨by kernel_rfl,by kernel_rfl,by kernel_rfl,by kernel_rfl⟩)
def dA (i0 : Nat) (i1 : Nat) (r : aJ) : TV EE.T := .a (.d .bool r.1)
def rA (i0 : Nat) (i1 : Nat) (r : aJ) : List (Nat × TB EE.T) := [(i0,.cs [.d .str r.2.1,.d (.int .i64) r.2.2.1,.d (.int .i64) r.2.2.2.1,.vec (.nam 7) i1 r.2.2.2.2.1]),(i1,.vec i1 (.nam 7) r.2.2.2.2.2)]
def dc (r : PR aJ) : RL EE.T := mi (dA 100000 200001) (rA 100000 200001) r
def Ii : Lvs := ⟨[(2,⟨[(0,false),(3,false)],[],[(100000,(none,[])),(200001,(none,[]))],[]⟩),(7,⟨[(0,false),(3,false),(4,false),(5,false),(6,false)],[],[(100000,(none,[])),(200001,(none,[]))],[]⟩),(9,⟨[(0,false),(3,false),(6,false)],[],[(100000,(none,[])),(200001,(none,[]))],[]⟩),(14,⟨[(0,false),(3,false),(8,false),(9,false)],[],[(100000,(none,[])),(200001,(none,[]))],[]⟩),(17,⟨[(0,false),(9,false)],[],[(100000,(none,[])),(200001,(none,[]))],[]⟩),(22,⟨[(0,false),(10,false)],[],[(100000,(none,[])),(200001,(none,[]))],[]⟩),(25,⟨[(0,false),(3,false),(8,false),(11,false)],[],[(100000,(none,[])),(200001,(none,[]))],[]⟩),(27,⟨[(0,false),(11,false)],[],[(100000,(none,[])),(200001,(none,[]))],[]⟩)],[],[7,9],[],false,[(100000,(none,[]))],[100000,200001],[],[]⟩
def HC : List ResultVar := [.tmp 2]
def DC (N : RecC) : Gam EE := ⟨[],EQT,[⟨51,eV N.n⟩,⟨35,cS N.n⟩,⟨67,gt N⟩,⟨52,eR N.n⟩,⟨36,de N.n⟩,⟨61,cr N.n⟩],[]⟩
theorem Gw (N : RecC) (hN : gZ N) : GOk Try.prog TT EE (DC N) := GOk.consx (fX N.n) (GOk.consx (dn N.n) (GOk.consx (jz N hN) (GOk.consx (fU N.n) (GOk.consx (dB N.n) (GOk.consx (cG N.n) (GOk.nil dv))))))
def yW (c : Code) : List It2 := atR 9 c
def y9 (x3 : Int) (x6 : UInt8) (b100000_0 : List UInt8) (b100000_1 : Int) (b100000_2 : Int) (b100000_3_n : Nat) (b200001 : List Vstep) : TS EE.T := ⟨164,[(0,.a (.box 100000 0)),(3,.a (.d (.int .i64) x3)),(6,.a (.d .byte x6))],[(100000,.cs [.d .str b100000_0,.d (.int .i64) b100000_1,.d (.int .i64) b100000_2,.vec (.nam 7) 200001 b100000_3_n]),(200001,.vec 200001 (.nam 7) b200001)],[]⟩
def zx (c : Code) : List It2 := atR 7 c
def xZ (x3 : Int) (x4 : Bool) (x5 : Bool) (x6 : UInt8) (b100000_0 : List UInt8) (b100000_1 : Int) (b100000_2 : Int) (b100000_3_n : Nat) (b200001 : List Vstep) : TS EE.T := ⟨164,[(0,.a (.box 100000 0)),(3,.a (.d (.int .i64) x3)),(4,.a (.d .bool x4)),(5,.a (.d .bool x5)),(6,.a (.d .byte x6))],[(100000,.cs [.d .str b100000_0,.d (.int .i64) b100000_1,.d (.int .i64) b100000_2,.vec (.nam 7) 200001 b100000_3_n]),(200001,.vec 200001 (.nam 7) b200001)],[]⟩
def Dg (c : Code) : List It2 := [.c c]
def Eg (y0_0 : List UInt8) (y0_1 : Int) (y0_2 : Int) (y0_3 : Nat) (y1 : List Vstep) : TS EE.T := ⟨164,[(0,.a (.box 100000 0))],[(100000,.cs [.d .str y0_0,.d (.int .i64) y0_1,.d (.int .i64) y0_2,.vec (.nam 7) 200001 y0_3]),(200001,.vec 200001 (.nam 7) y1)],[]⟩
def pt (c : Code) (f : Int → UInt8 → (List UInt8) → Int → Int → Nat → (List Vstep) → Option (PR aJ)) (x3 : Int) (x6 : UInt8) (b100000_0 : List UInt8) (b100000_1 : Int) (b100000_2 : Int) (b100000_3_n : Nat) (b200001 : List Vstep) : Tree (Lf EE.T × Option (PR aJ)) := .leaf (.go (yW c) (y9 x3 x6 b100000_0 b100000_1 b100000_2 b100000_3_n b200001),f x3 x6 b100000_0 b100000_1 b100000_2 b100000_3_n b200001)
def r3 (c : Code) (f : Int → Bool → Bool → UInt8 → (List UInt8) → Int → Int → Nat → (List Vstep) → Option (PR aJ)) (x3 : Int) (x4 : Bool) (x5 : Bool) (x6 : UInt8) (b100000_0 : List UInt8) (b100000_1 : Int) (b100000_2 : Int) (b100000_3_n : Nat) (b200001 : List Vstep) : Tree (Lf EE.T × Option (PR aJ)) := .leaf (.go (zx c) (xZ x3 x4 x5 x6 b100000_0 b100000_1 b100000_2 b100000_3_n b200001),f x3 x4 x5 x6 b100000_0 b100000_1 b100000_2 b100000_3_n b200001)
abbrev w9 (N : RecC) (r : PR aJ) (k : List It2) (s : TS EE.T) : Prop := fT (Y := TT) EE (DC N) Ii HC (fun u => u = dc r) k s
def eC (x : PR aJ) : Tree (Lf EE.T × Option (PR aJ)) := .leaf (.done (dc x),some x)
theorem py {N : RecC} {r : PR aJ} (n : Nat) (x3 : Int) (x6 : UInt8) (b100000_0 : List UInt8) (b100000_1 : Int) (b100000_2 : Int) (b100000_3_n : Nat) (b200001 : List Vstep) (h : bl N n x3 x6 b100000_0 b100000_1 b100000_2 b100000_3_n b200001 = some r) : w9 N r (yW (ai 0 Try.f62)) (y9 x3 x6 b100000_0 b100000_1 b100000_2 b100000_3_n b200001) :=
 aQ (m := 4000) (t :=
 .bnd (cv N.n x3 b100000_0 (w64 (b100000_1 + 1)) b100000_2 b100000_3_n b200001) fun z8 =>
 .sm z8 (fun z9 =>
  .cond ((b2i x6) == (b2i 42))
  (
   .bnd (aC N.n ({ kind := 1,a := 0,b := 0,set_ := (none : Option (List Bool)) } : Vstep) z9.2.1 z9.2.2.1 z9.2.2.2.1 z9.2.2.2.2.1 z9.2.2.2.2.2) fun z10 =>
   .sm z10 (fun z11 =>
    .bnd (eB z11.2.2.2.2.1 z11.1) fun z12 =>
    .bnd (z11.2.2.2.2.2[z12]?) fun z13 =>
    .bnd (bp N.n z9.1 x3 z11.2.1 z11.2.2.1 z11.2.2.2.1 z11.2.2.2.2.1 (List.set z11.2.2.2.2.2 z12 ({ kind := z13.kind,a := (z11.2.2.2.2.1 : Int),b := z13.b,set_ := z13.set_ } : Vstep))) fun z14 =>
    .sm z14 (fun z15 =>
     .bnd (aC N.n ({ kind := 2,a := z11.1,b := 0,set_ := (none : Option (List Bool)) } : Vstep) z15.1 z15.2.1 z15.2.2.1 z15.2.2.2.1 z15.2.2.2.2) fun z16 =>
     .sm z16 (fun z17 =>
      .bnd (eB z17.2.2.2.2.1 z11.1) fun z18 =>
      .bnd (z17.2.2.2.2.2[z18]?) fun z19 =>
      eC (.ok (true,z17.2.1,z17.2.2.1,z17.2.2.2.1,z17.2.2.2.2.1,List.set z17.2.2.2.2.2 z18 ({ kind := z19.kind,a := z19.a,b := (z17.2.2.2.2.1 : Int),set_ := z19.set_ } : Vstep)))) (fun vz16 =>
      eC (.pan vz16))) (fun vz14 =>
     eC (.pan vz14))) (fun vz10 =>
    eC (.pan vz10)))
  (
   .cond ((b2i x6) == (b2i 43))
   (
    .bnd (bp N.n z9.1 x3 z9.2.1 z9.2.2.1 z9.2.2.2.1 z9.2.2.2.2.1 z9.2.2.2.2.2) fun z20 =>
    .sm z20 (fun z21 =>
     .bnd (aC N.n ({ kind := 1,a := x3,b := 0,set_ := (none : Option (List Bool)) } : Vstep) z21.1 z21.2.1 z21.2.2.1 z21.2.2.2.1 z21.2.2.2.2) fun z22 =>
     .sm z22 (fun z23 =>
      .bnd (eB z23.2.2.2.2.1 z23.1) fun z24 =>
      .bnd (z23.2.2.2.2.2[z24]?) fun z25 =>
      eC (.ok (false,z23.2.1,z23.2.2.1,z23.2.2.2.1,z23.2.2.2.2.1,List.set z23.2.2.2.2.2 z24 ({ kind := z25.kind,a := z25.a,b := (z23.2.2.2.2.1 : Int),set_ := z25.set_ } : Vstep)))) (fun vz22 =>
      eC (.pan vz22))) (fun vz20 =>
     eC (.pan vz20)))
   (
    .bnd (aC N.n ({ kind := 1,a := 0,b := 0,set_ := (none : Option (List Bool)) } : Vstep) z9.2.1 z9.2.2.1 z9.2.2.2.1 z9.2.2.2.2.1 z9.2.2.2.2.2) fun z26 =>
    .sm z26 (fun z27 =>
     .bnd (eB z27.2.2.2.2.1 z27.1) fun z28 =>
     .bnd (z27.2.2.2.2.2[z28]?) fun z29 =>
     .bnd (bp N.n z9.1 x3 z27.2.1 z27.2.2.1 z27.2.2.2.1 z27.2.2.2.2.1 (List.set z27.2.2.2.2.2 z28 ({ kind := z29.kind,a := (z27.2.2.2.2.1 : Int),b := z29.b,set_ := z29.set_ } : Vstep))) fun z30 =>
     .sm z30 (fun z31 =>
      .bnd (eB z31.2.2.2.1 z27.1) fun z32 =>
      .bnd (z31.2.2.2.2[z32]?) fun z33 =>
      eC (.ok (true,z31.1,z31.2.1,z31.2.2.1,z31.2.2.2.1,List.set z31.2.2.2.2 z32 ({ kind := z33.kind,a := z33.a,b := (z31.2.2.2.1 : Int),set_ := z33.set_ } : Vstep)))) (fun vz30 =>
      eC (.pan vz30))) (fun vz26 =>
     eC (.pan vz26))))) (fun vz8 =>
  eC (.pan vz8))) (by kernel_rfl) (by kernel_rfl) h (fun _ => ⟨fun _ => ⟨fun _ => ⟨fun _ => fun _ => fun _ => fun _ => ⟨fun _ => fun _ => ⟨fun _ => fun _ => fun _ => bc (enc := dc) rfl,fun _ => bc (enc := dc) rfl⟩,fun _ => bc (enc := dc) rfl⟩,fun _ => bc (enc := dc) rfl⟩,⟨fun _ => ⟨fun _ => fun _ => ⟨fun _ => fun _ => fun _ => bc (enc := dc) rfl,fun _ => bc (enc := dc) rfl⟩,fun _ => bc (enc := dc) rfl⟩,fun _ => ⟨fun _ => fun _ => fun _ => fun _ => ⟨fun _ => fun _ => fun _ => bc (enc := dc) rfl,fun _ => bc (enc := dc) rfl⟩,fun _ => bc (enc := dc) rfl⟩⟩⟩,fun _ => bc (enc := dc) rfl⟩)
theorem tI {N : RecC} {r : PR aJ} (n : Nat) (x3 : Int) (x4 : Bool) (x5 : Bool) (x6 : UInt8) (b100000_0 : List UInt8) (b100000_1 : Int) (b100000_2 : Int) (b100000_3_n : Nat) (b200001 : List Vstep) (h : bH N n x3 x4 x5 x6 b100000_0 b100000_1 b100000_2 b100000_3_n b200001 = some r) : w9 N r (zx (ai 0 Try.f62)) (xZ x3 x4 x5 x6 b100000_0 b100000_1 b100000_2 b100000_3_n b200001) :=
 aQ (m := 4000) (t :=
 .cond (x5)
 (
  .cond (x4)
  (
   .cond ((b2i x6) != (b2i 63))
   (
    .bnd (aR N.n 4 b100000_1 b100000_0 b100000_1 b100000_2 b100000_3_n b200001) fun z6 =>
    .sm z6 (fun z7 =>
     pt (ai 0 Try.f62) (bl N n) x3 x6 z7.1 z7.2.1 z7.2.2.1 z7.2.2.2.1 z7.2.2.2.2) (fun vz6 =>
     eC (.pan vz6)))
   (
    pt (ai 0 Try.f62) (bl N n) x3 x6 b100000_0 b100000_1 b100000_2 b100000_3_n b200001))
  (
   pt (ai 0 Try.f62) (bl N n) x3 x6 b100000_0 b100000_1 b100000_2 b100000_3_n b200001))
 (
  pt (ai 0 Try.f62) (bl N n) x3 x6 b100000_0 b100000_1 b100000_2 b100000_3_n b200001)) (by kernel_rfl) (by kernel_rfl) h (⟨⟨⟨fun _ => ⟨fun _ => fun h => py n _ _ _ _ _ _ _ h,fun _ => bc (enc := dc) rfl⟩,fun h => py n _ _ _ _ _ _ _ h⟩,fun h => py n _ _ _ _ _ _ _ h⟩,fun h => py n _ _ _ _ _ _ _ h⟩)
theorem EH {N : RecC} {r : PR aJ} (y0_0 : List UInt8) (y0_1 : Int) (y0_2 : Int) (y0_3 : Nat) (y1 : List Vstep) (h : dh N y0_0 y0_1 y0_2 y0_3 y1 = some r) : w9 N r (Dg (ai 0 Try.f62)) (Eg y0_0 y0_1 y0_2 y0_3 y1) :=
 aQ (m := 4000) (t :=
 .bnd (ap y0_0 y0_1) fun z1 =>
 .bnd (dt N y0_0 y0_1 y0_2 y0_3 y1) fun z2 =>
 .sm z2 (fun z3 =>
  .bnd (bd N.n z3.2.1 z3.2.2.1 z3.2.2.2.1 z3.2.2.2.2.1 z3.2.2.2.2.2) fun z4 =>
  .sm z4 (fun z5 =>
   .cond (!z5.2.1)
   (
    eC (.ok (z3.1,z5.2.2.1,z5.2.2.2.1,z5.2.2.2.2.1,z5.2.2.2.2.2.1,z5.2.2.2.2.2.2)))
   (
    .cond ((b2i z5.1) != (b2i 42))
    (
     .cond ((b2i z5.1) != (b2i 43))
     (
      .cond ((b2i z5.1) != (b2i 63))
      (
       eC (.ok (z3.1,z5.2.2.1,z5.2.2.2.1,z5.2.2.2.2.1,z5.2.2.2.2.2.1,z5.2.2.2.2.2.2)))
      (
       r3 (ai 0 Try.f62) (bH N N.n) (y0_3 : Int) ((b2i z1) == (b2i 40)) z3.1 z5.1 z5.2.2.1 z5.2.2.2.1 z5.2.2.2.2.1 z5.2.2.2.2.2.1 z5.2.2.2.2.2.2))
     (
      r3 (ai 0 Try.f62) (bH N N.n) (y0_3 : Int) ((b2i z1) == (b2i 40)) z3.1 z5.1 z5.2.2.1 z5.2.2.2.1 z5.2.2.2.2.1 z5.2.2.2.2.2.1 z5.2.2.2.2.2.2))
    (
     r3 (ai 0 Try.f62) (bH N N.n) (y0_3 : Int) ((b2i z1) == (b2i 40)) z3.1 z5.1 z5.2.2.1 z5.2.2.2.1 z5.2.2.2.2.1 z5.2.2.2.2.2.1 z5.2.2.2.2.2.2))) (fun vz4 =>
   eC (.pan vz4))) (fun vz2 =>
  eC (.pan vz2))) (by kernel_rfl) (by kernel_rfl) h (fun _ => fun _ => ⟨fun _ => fun _ => ⟨fun _ => ⟨bc (enc := dc) rfl,⟨⟨⟨bc (enc := dc) rfl,fun h => tI N.n _ _ _ _ _ _ _ _ _ h⟩,fun h => tI N.n _ _ _ _ _ _ _ _ _ h⟩,fun h => tI N.n _ _ _ _ _ _ _ _ _ h⟩⟩,fun _ => bc (enc := dc) rfl⟩,fun _ => bc (enc := dc) rfl⟩)
def BM (y0_0 : List UInt8) (y0_1 : Int) (y0_2 : Int) (y0_3 : Nat) (y1 : List Vstep) : List (TV EE.T) := [.a (.box 100000 0)]
def vU (y0_0 : List UInt8) (y0_1 : Int) (y0_2 : Int) (y0_3 : Nat) (y1 : List Vstep) : List (Nat × TB EE.T) := [(100000,.cs [.d .str y0_0,.d (.int .i64) y0_1,.d (.int .i64) y0_2,.vec (.nam 7) 200001 y0_3]),(200001,.vec 200001 (.nam 7) y1)]
theorem jA {N : RecC} (hN : gZ N) (y0_0 : List UInt8) (y0_1 : Int) (y0_2 : Int) (y0_3 : Nat) (y1 : List Vstep) {r : PR aJ} (h : dh N y0_0 y0_1 y0_2 y0_3 y1 = some r) (ρ : Rn) (hi : Inj ρ (vU y0_0 y0_1 y0_2 y0_3 y1)) : aT Try.prog 62 ((BM y0_0 y0_1 y0_2 y0_3 y1).map (TV.to EE.toEnc ρ)) (hTo EE.toEnc ρ (vU y0_0 y0_1 y0_2 y0_3 y1)) (da EE ρ fun u => u = dc r) :=
 eW (ai 0 Try.f62) 164 mixed (Gw N hN) Try.func62 (by kernel_rfl) rfl rfl rfl rfl (EH y0_0 y0_1 y0_2 y0_3 y1 h) ρ hi
def fV (N : RecC) (us : List (TV EE.T)) (hs : List (Nat × TB EE.T)) : XR EE.T :=
 gdX (fx us 1) <|
 bnX (aB us 0) fun i0 =>
 bnX (bC hs i0) fun l0 =>
 gdX (fx l0 4) <|
 bnX (cD .str l0 0) fun y0_0 =>
 bnX (cD (.int .i64) l0 1) fun y0_1 =>
 bnX (cD (.int .i64) l0 2) fun y0_2 =>
 bnX (cVi (.nam 7) l0 3) fun i1 =>
 bnX (cVn (.nam 7) l0 3) fun y0_3 =>
 bnX (bV (.nam 7) hs i1) fun y1 =>
 gdX (bR hs [i0,i1]) <|
 gdX (gV [i0,i1]) <|
 .mv (dh N y0_0 y0_1 y0_2 y0_3 y1) [i0,i1] (mvL [i0,i1] [100000,200001]) 0 (dA i0 i1) (rA i0 i1)
theorem i3 (N : RecC) (hN : gZ N) : XOk Try.prog EE 62 (fV N) := fun us hs =>
 a7 fun h1 => aA fun i0 h2 => aA fun l0 h3 => a7 fun h4 => aA fun y0_0 h5 => aA fun y0_1 h6 => aA fun y0_2 h7 => aA fun i1 h8 => aA fun y0_3 h9 => aA fun y1 h10 => a7 fun h11 => a7 fun h12 => fun p hz ρ hi => fN (ex := []) (ks := [100000,200001]) (us' := BM y0_0 y0_1 y0_2 y0_3 y1) (h0 := vU y0_0 y0_1 y0_2 y0_3 y1) (ρ' := lO ρ [i0,i1]) (uc := dA 100000 200001) (u := dA i0 i1) (hc := rA 100000 200001) (h := rA i0 i1) hi h11 (by kernel_rfl) ⟨iF h2 (by kernel_rfl),ce h1⟩ ⟨(by kernel_rfl),ko h3 ⟨df h5,df h6,df h7,g8 h8 h9 (by kernel_rfl),ce h4⟩,(by kernel_rfl),i6 h10 (by kernel_rfl),trivial⟩ ⟨.inr rfl,.inl rfl,trivial⟩ h12 (fun hj => jA hN y0_0 y0_1 y0_2 y0_3 y1 hz _ hj) (fun z => ⟨by kernel_rfl,by kernel_rfl,by kernel_rfl,by kernel_rfl⟩)
def ec (i0 : Nat) (i1 : Nat) (r : ba) : TV EE.T := .a (.d .bool r.1)
def rF (i0 : Nat) (i1 : Nat) (r : ba) : List (Nat × TB EE.T) := [(i0,.cs [.d .str r.2.1,.d (.int .i64) r.2.2.1,.d (.int .i64) r.2.2.2.1,.vec (.nam 7) i1 r.2.2.2.2.1]),(i1,.vec i1 (.nam 7) r.2.2.2.2.2)]
def ii (r : PR ba) : RL EE.T := mi (ec 100000 200001) (rF 100000 200001) r
def HW : Lvs := ⟨[],[(2,⟨[(0,false),(3,false)],[],[(100000,(none,[])),(200001,(none,[]))],[]⟩)],[],[],false,[(100000,(none,[]))],[100000,200001],[],[]⟩
def Iz : List ResultVar := [.tmp 2]
def Dz (N : RecC) : Gam EE := ⟨[],EQT,[⟨62,fV N⟩,⟨61,cr N.n⟩],[]⟩
theorem E9 (N : RecC) (hN : gZ N) : GOk Try.prog TT EE (Dz N) := GOk.consx (i3 N hN) (GOk.consx (cG N.n) (GOk.nil dv))
def xX (c : Code) : List It2 := atL 2 c
def zA (x3 : Bool) (b100000_0 : List UInt8) (b100000_1 : Int) (b100000_2 : Int) (b100000_3_n : Nat) (b200001 : List Vstep) : TS EE.T := ⟨25,[(0,.a (.box 100000 0)),(3,.a (.d .bool x3))],[(100000,.cs [.d .str b100000_0,.d (.int .i64) b100000_1,.d (.int .i64) b100000_2,.vec (.nam 7) 200001 b100000_3_n]),(200001,.vec 200001 (.nam 7) b200001)],[]⟩
def Fz (c : Code) : List It2 := [.c c]
def Ec (y0_0 : List UInt8) (y0_1 : Int) (y0_2 : Int) (y0_3 : Nat) (y1 : List Vstep) : TS EE.T := ⟨25,[(0,.a (.box 100000 0))],[(100000,.cs [.d .str y0_0,.d (.int .i64) y0_1,.d (.int .i64) y0_2,.vec (.nam 7) 200001 y0_3]),(200001,.vec 200001 (.nam 7) y1)],[]⟩
def sY (c : Code) (f : Bool → (List UInt8) → Int → Int → Nat → (List Vstep) → Option (PR ba)) (x3 : Bool) (b100000_0 : List UInt8) (b100000_1 : Int) (b100000_2 : Int) (b100000_3_n : Nat) (b200001 : List Vstep) : Tree (Lf EE.T × Option (PR ba)) := .leaf (.go (xX c) (zA x3 b100000_0 b100000_1 b100000_2 b100000_3_n b200001),f x3 b100000_0 b100000_1 b100000_2 b100000_3_n b200001)
abbrev Br (N : RecC) (r : PR ba) (k : List It2) (s : TS EE.T) : Prop := fT (Y := TT) EE (Dz N) HW Iz (fun u => u = ii r) k s
def oO (x : PR ba) : Tree (Lf EE.T × Option (PR ba)) := .leaf (.done (ii x),some x)
theorem tq {N : RecC} {r : PR ba} : ∀ (n : Nat) (x3 : Bool) (b100000_0 : List UInt8) (b100000_1 : Int) (b100000_2 : Int) (b100000_3_n : Nat) (b200001 : List Vstep), bU N n x3 b100000_0 b100000_1 b100000_2 b100000_3_n b200001 = some r → Br N r (xX (ai 0 Try.f49)) (zA x3 b100000_0 b100000_1 b100000_2 b100000_3_n b200001)
 | 0,_,_,_,_,_,_,h => by cases h
 | n + 1, x3, b100000_0, b100000_1, b100000_2, b100000_3_n, b200001, h => aQ (m := 4000) (t :=
   .bnd (bd N.n b100000_0 b100000_1 b100000_2 b100000_3_n b200001) fun z1 =>
   .sm z1 (fun z2 =>
    .cond (!z2.2.1)
    (
     oO (.ok (x3,z2.2.2.1,z2.2.2.2.1,z2.2.2.2.2.1,z2.2.2.2.2.2.1,z2.2.2.2.2.2.2)))
    (
     .cond ((b2i z2.1) == (b2i 124))
     (
      oO (.ok (x3,z2.2.2.1,z2.2.2.2.1,z2.2.2.2.2.1,z2.2.2.2.2.2.1,z2.2.2.2.2.2.2)))
     (
      .cond ((b2i z2.1) == (b2i 41))
      (
       oO (.ok (x3,z2.2.2.1,z2.2.2.2.1,z2.2.2.2.2.1,z2.2.2.2.2.2.1,z2.2.2.2.2.2.2)))
      (
       .bnd (dh N z2.2.2.1 z2.2.2.2.1 z2.2.2.2.2.1 z2.2.2.2.2.2.1 z2.2.2.2.2.2.2) fun z3 =>
       .sm z3 (fun z4 =>
        .cond (!z4.1)
        (
         sY (ai 0 Try.f49) (bU N n) false z4.2.1 z4.2.2.1 z4.2.2.2.1 z4.2.2.2.2.1 z4.2.2.2.2.2)
        (
         sY (ai 0 Try.f49) (bU N n) x3 z4.2.1 z4.2.2.1 z4.2.2.2.1 z4.2.2.2.2.1 z4.2.2.2.2.2)) (fun vz3 =>
        oO (.pan vz3)))))) (fun vz1 =>
    oO (.pan vz1))) (by kernel_rfl) (by kernel_rfl) h (fun _ => ⟨fun _ => ⟨bc (enc := ii) rfl,⟨bc (enc := ii) rfl,⟨bc (enc := ii) rfl,fun _ => ⟨fun _ => ⟨fun h => (tq n) _ _ _ _ _ _ h,fun h => (tq n) _ _ _ _ _ _ h⟩,fun _ => bc (enc := ii) rfl⟩⟩⟩⟩,fun _ => bc (enc := ii) rfl⟩)
theorem EI {N : RecC} {r : PR ba} (y0_0 : List UInt8) (y0_1 : Int) (y0_2 : Int) (y0_3 : Nat) (y1 : List Vstep) (h : dJ N y0_0 y0_1 y0_2 y0_3 y1 = some r) : Br N r (Fz (ai 0 Try.f49)) (Ec y0_0 y0_1 y0_2 y0_3 y1) :=
 aQ (m := 4000) (t :=
 sY (ai 0 Try.f49) (bU N N.n) true y0_0 y0_1 y0_2 y0_3 y1) (by kernel_rfl) (by kernel_rfl) h (fun h => tq N.n _ _ _ _ _ _ h)
def Bz (y0_0 : List UInt8) (y0_1 : Int) (y0_2 : Int) (y0_3 : Nat) (y1 : List Vstep) : List (TV EE.T) := [.a (.box 100000 0)]
def wH (y0_0 : List UInt8) (y0_1 : Int) (y0_2 : Int) (y0_3 : Nat) (y1 : List Vstep) : List (Nat × TB EE.T) := [(100000,.cs [.d .str y0_0,.d (.int .i64) y0_1,.d (.int .i64) y0_2,.vec (.nam 7) 200001 y0_3]),(200001,.vec 200001 (.nam 7) y1)]
theorem kM {N : RecC} (hN : gZ N) (y0_0 : List UInt8) (y0_1 : Int) (y0_2 : Int) (y0_3 : Nat) (y1 : List Vstep) {r : PR ba} (h : dJ N y0_0 y0_1 y0_2 y0_3 y1 = some r) (ρ : Rn) (hi : Inj ρ (wH y0_0 y0_1 y0_2 y0_3 y1)) : aT Try.prog 49 ((Bz y0_0 y0_1 y0_2 y0_3 y1).map (TV.to EE.toEnc ρ)) (hTo EE.toEnc ρ (wH y0_0 y0_1 y0_2 y0_3 y1)) (da EE ρ fun u => u = ii r) :=
 eW (ai 0 Try.f49) 25 mixed (E9 N hN) Try.func49 (by kernel_rfl) rfl rfl rfl rfl (EI y0_0 y0_1 y0_2 y0_3 y1 h) ρ hi
def gM (N : RecC) (us : List (TV EE.T)) (hs : List (Nat × TB EE.T)) : XR EE.T :=
 gdX (fx us 1) <|
 bnX (aB us 0) fun i0 =>
 bnX (bC hs i0) fun l0 =>
 gdX (fx l0 4) <|
 bnX (cD .str l0 0) fun y0_0 =>
 bnX (cD (.int .i64) l0 1) fun y0_1 =>
 bnX (cD (.int .i64) l0 2) fun y0_2 =>
 bnX (cVi (.nam 7) l0 3) fun i1 =>
 bnX (cVn (.nam 7) l0 3) fun y0_3 =>
 bnX (bV (.nam 7) hs i1) fun y1 =>
 gdX (bR hs [i0,i1]) <|
 gdX (gV [i0,i1]) <|
 .mv (dJ N y0_0 y0_1 y0_2 y0_3 y1) [i0,i1] (mvL [i0,i1] [100000,200001]) 0 (ec i0 i1) (rF i0 i1)
theorem jM (N : RecC) (hN : gZ N) : XOk Try.prog EE 49 (gM N) := fun us hs =>
 a7 fun h1 => aA fun i0 h2 => aA fun l0 h3 => a7 fun h4 => aA fun y0_0 h5 => aA fun y0_1 h6 => aA fun y0_2 h7 => aA fun i1 h8 => aA fun y0_3 h9 => aA fun y1 h10 => a7 fun h11 => a7 fun h12 => fun p hz ρ hi => fN (ex := []) (ks := [100000,200001]) (us' := Bz y0_0 y0_1 y0_2 y0_3 y1) (h0 := wH y0_0 y0_1 y0_2 y0_3 y1) (ρ' := lO ρ [i0,i1]) (uc := ec 100000 200001) (u := ec i0 i1) (hc := rF 100000 200001) (h := rF i0 i1) hi h11 (by kernel_rfl) ⟨iF h2 (by kernel_rfl),ce h1⟩ ⟨(by kernel_rfl),ko h3 ⟨df h5,df h6,df h7,g8 h8 h9 (by kernel_rfl),ce h4⟩,(by kernel_rfl),i6 h10 (by kernel_rfl),trivial⟩ ⟨.inr rfl,.inl rfl,trivial⟩ h12 (fun hj => kM hN y0_0 y0_1 y0_2 y0_3 y1 hz _ hj) (fun z => ⟨by kernel_rfl,by kernel_rfl,by kernel_rfl,by kernel_rfl⟩)
def dO (i0 : Nat) (i1 : Nat) (r : bt) : TV EE.T := .a (.d .bool r.1)
def rM (i0 : Nat) (i1 : Nat) (r : bt) : List (Nat × TB EE.T) := [(i0,.cs [.d .str r.2.1,.d (.int .i64) r.2.2.1,.d (.int .i64) r.2.2.2.1,.vec (.nam 7) i1 r.2.2.2.2.1]),(i1,.vec i1 (.nam 7) r.2.2.2.2.2)]
def mC (r : PR bt) : RL EE.T := mi (dO 100000 200001) (rM 100000 200001) r
def Ij : Lvs := ⟨[],[],[],[],false,[(100000,(none,[]))],[100000,200001],[],[]⟩
def Hh : List ResultVar := [.tmp 2]
def Ev (N : RecC) : Gam EE := ⟨[],EQT,[⟨34,ed N⟩],[]⟩
theorem Gx (N : RecC) (hN : gZ N) : GOk Try.prog TT EE (Ev N) := GOk.consx (fW N hN) (GOk.nil dv)
def Dk (c : Code) : List It2 := [.c c]
def Ep (y0_0 : List UInt8) (y0_1 : Int) (y0_2 : Int) (y0_3 : Nat) (y1 : List Vstep) : TS EE.T := ⟨5,[(0,.a (.box 100000 0))],[(100000,.cs [.d .str y0_0,.d (.int .i64) y0_1,.d (.int .i64) y0_2,.vec (.nam 7) 200001 y0_3]),(200001,.vec 200001 (.nam 7) y1)],[]⟩
abbrev Hc (N : RecC) (r : PR bt) (k : List It2) (s : TS EE.T) : Prop := fT (Y := TT) EE (Ev N) Ij Hh (fun u => u = mC r) k s
def Bs (x : PR bt) : Tree (Lf EE.T × Option (PR bt)) := .leaf (.done (mC x),some x)
theorem Fr {N : RecC} {r : PR bt} (y0_0 : List UInt8) (y0_1 : Int) (y0_2 : Int) (y0_3 : Nat) (y1 : List Vstep) (h : dr N y0_0 y0_1 y0_2 y0_3 y1 = some r) : Hc N r (Dk (ai 0 Try.f53)) (Ep y0_0 y0_1 y0_2 y0_3 y1) :=
 aQ (m := 4000) (t :=
 .bnd (dE N y0_0 y0_1 y0_2 y0_3 y1) fun z1 =>
 .sm z1 (fun z2 =>
  Bs (.ok (z2.1,z2.2.1,z2.2.2.1,z2.2.2.2.1,z2.2.2.2.2.1,z2.2.2.2.2.2))) (fun vz1 =>
  Bs (.pan vz1))) (by kernel_rfl) (by kernel_rfl) h (fun _ => ⟨fun _ => bc (enc := mC) rfl,fun _ => bc (enc := mC) rfl⟩)
def Bt (y0_0 : List UInt8) (y0_1 : Int) (y0_2 : Int) (y0_3 : Nat) (y1 : List Vstep) : List (TV EE.T) := [.a (.box 100000 0)]
def wG (y0_0 : List UInt8) (y0_1 : Int) (y0_2 : Int) (y0_3 : Nat) (y1 : List Vstep) : List (Nat × TB EE.T) := [(100000,.cs [.d .str y0_0,.d (.int .i64) y0_1,.d (.int .i64) y0_2,.vec (.nam 7) 200001 y0_3]),(200001,.vec 200001 (.nam 7) y1)]
theorem jW {N : RecC} (hN : gZ N) (y0_0 : List UInt8) (y0_1 : Int) (y0_2 : Int) (y0_3 : Nat) (y1 : List Vstep) {r : PR bt} (h : dr N y0_0 y0_1 y0_2 y0_3 y1 = some r) (ρ : Rn) (hi : Inj ρ (wG y0_0 y0_1 y0_2 y0_3 y1)) : aT Try.prog 53 ((Bt y0_0 y0_1 y0_2 y0_3 y1).map (TV.to EE.toEnc ρ)) (hTo EE.toEnc ρ (wG y0_0 y0_1 y0_2 y0_3 y1)) (da EE ρ fun u => u = mC r) :=
 eW (ai 0 Try.f53) 5 mixed (Gx N hN) Try.func53 (by kernel_rfl) rfl rfl rfl rfl (Fr y0_0 y0_1 y0_2 y0_3 y1 h) ρ hi
def gq (N : RecC) (us : List (TV EE.T)) (hs : List (Nat × TB EE.T)) : XR EE.T :=
 gdX (fx us 1) <|
 bnX (aB us 0) fun i0 =>
 bnX (bC hs i0) fun l0 =>
 gdX (fx l0 4) <|
 bnX (cD .str l0 0) fun y0_0 =>
 bnX (cD (.int .i64) l0 1) fun y0_1 =>
 bnX (cD (.int .i64) l0 2) fun y0_2 =>
 bnX (cVi (.nam 7) l0 3) fun i1 =>
 bnX (cVn (.nam 7) l0 3) fun y0_3 =>
 bnX (bV (.nam 7) hs i1) fun y1 =>
 gdX (bR hs [i0,i1]) <|
 gdX (gV [i0,i1]) <|
 .mv (dr N y0_0 y0_1 y0_2 y0_3 y1) [i0,i1] (mvL [i0,i1] [100000,200001]) 0 (dO i0 i1) (rM i0 i1)
theorem jB (N : RecC) (hN : gZ N) : XOk Try.prog EE 53 (gq N) := fun us hs =>
 a7 fun h1 => aA fun i0 h2 => aA fun l0 h3 => a7 fun h4 => aA fun y0_0 h5 => aA fun y0_1 h6 => aA fun y0_2 h7 => aA fun i1 h8 => aA fun y0_3 h9 => aA fun y1 h10 => a7 fun h11 => a7 fun h12 => fun p hz ρ hi => fN (ex := []) (ks := [100000,200001]) (us' := Bt y0_0 y0_1 y0_2 y0_3 y1) (h0 := wG y0_0 y0_1 y0_2 y0_3 y1) (ρ' := lO ρ [i0,i1]) (uc := dO 100000 200001) (u := dO i0 i1) (hc := rM 100000 200001) (h := rM i0 i1) hi h11 (by kernel_rfl) ⟨iF h2 (by kernel_rfl),ce h1⟩ ⟨(by kernel_rfl),ko h3 ⟨df h5,df h6,df h7,g8 h8 h9 (by kernel_rfl),ce h4⟩,(by kernel_rfl),i6 h10 (by kernel_rfl),trivial⟩ ⟨.inr rfl,.inl rfl,trivial⟩ h12 (fun hj => jW hN y0_0 y0_1 y0_2 y0_3 y1 hz _ hj) (fun z => ⟨by kernel_rfl,by kernel_rfl,by kernel_rfl,by kernel_rfl⟩)
def dQ (i0 : Nat) (i1 : Nat) (r : aG) : TV EE.T := .a (.d .bool r.1)
def rP (i0 : Nat) (i1 : Nat) (r : aG) : List (Nat × TB EE.T) := [(i0,.cs [.d .str r.2.1,.d (.int .i64) r.2.2.1,.d (.int .i64) r.2.2.2.1,.vec (.nam 7) i1 r.2.2.2.2.1]),(i1,.vec i1 (.nam 7) r.2.2.2.2.2)]
def e9 (r : PR aG) : RL EE.T := mi (dQ 100000 200001) (rP 100000 200001) r
def HL : Lvs := ⟨[(6,⟨[(0,false),(3,false),(4,false),(5,false),(6,false)],[],[(100000,(none,[])),(200001,(none,[]))],[]⟩),(9,⟨[(0,false),(4,false),(6,false),(7,false)],[],[(100000,(none,[])),(200001,(none,[]))],[]⟩),(12,⟨[(0,false),(4,false),(7,false)],[],[(100000,(none,[])),(200001,(none,[]))],[]⟩)],[(3,⟨[(0,false),(3,false),(4,false)],[],[(100000,(none,[])),(200001,(none,[]))],[]⟩)],[12],[],false,[(100000,(none,[]))],[100000,200001],[],[]⟩
def HY : List ResultVar := [.tmp 2]
def Gl (N : RecC) : Gam EE := ⟨[],EQT,[⟨51,eV N.n⟩,⟨50,d8 N.n⟩,⟨53,gq N⟩,⟨49,gM N⟩,⟨52,eR N.n⟩,⟨36,de N.n⟩],[]⟩
theorem EB (N : RecC) (hN : gZ N) : GOk Try.prog TT EE (Gl N) := GOk.consx (fX N.n) (GOk.consx (eA N.n) (GOk.consx (jB N hN) (GOk.consx (jM N hN) (GOk.consx (fU N.n) (GOk.consx (dB N.n) (GOk.nil dv))))))
def uR (c : Code) : List It2 := atR 12 c
def vP (x4 : Bool) (x7 : Int) (b100000_0 : List UInt8) (b100000_1 : Int) (b100000_2 : Int) (b100000_3_n : Nat) (b200001 : List Vstep) : TS EE.T := ⟨70,[(0,.a (.box 100000 0)),(4,.a (.d .bool x4)),(7,.a (.d (.int .i64) x7))],[(100000,.cs [.d .str b100000_0,.d (.int .i64) b100000_1,.d (.int .i64) b100000_2,.vec (.nam 7) 200001 b100000_3_n]),(200001,.vec 200001 (.nam 7) b200001)],[]⟩
def tB (c : Code) : List It2 := atL 3 c
def rX (x3 : Int) (x4 : Bool) (b100000_0 : List UInt8) (b100000_1 : Int) (b100000_2 : Int) (b100000_3_n : Nat) (b200001 : List Vstep) : TS EE.T := ⟨70,[(0,.a (.box 100000 0)),(3,.a (.d (.int .i64) x3)),(4,.a (.d .bool x4))],[(100000,.cs [.d .str b100000_0,.d (.int .i64) b100000_1,.d (.int .i64) b100000_2,.vec (.nam 7) 200001 b100000_3_n]),(200001,.vec 200001 (.nam 7) b200001)],[]⟩
def DD (c : Code) : List It2 := [.c c]
def Gb (y0_0 : List UInt8) (y0_1 : Int) (y0_2 : Int) (y0_3 : Nat) (y1 : List Vstep) : TS EE.T := ⟨70,[(0,.a (.box 100000 0))],[(100000,.cs [.d .str y0_0,.d (.int .i64) y0_1,.d (.int .i64) y0_2,.vec (.nam 7) 200001 y0_3]),(200001,.vec 200001 (.nam 7) y1)],[]⟩
def vE (c : Code) (f : Bool → Int → (List UInt8) → Int → Int → Nat → (List Vstep) → Option (PR aG)) (x4 : Bool) (x7 : Int) (b100000_0 : List UInt8) (b100000_1 : Int) (b100000_2 : Int) (b100000_3_n : Nat) (b200001 : List Vstep) : Tree (Lf EE.T × Option (PR aG)) := .leaf (.go (uR c) (vP x4 x7 b100000_0 b100000_1 b100000_2 b100000_3_n b200001),f x4 x7 b100000_0 b100000_1 b100000_2 b100000_3_n b200001)
def Fv (c : Code) (f : Int → Bool → (List UInt8) → Int → Int → Nat → (List Vstep) → Option (PR aG)) (x3 : Int) (x4 : Bool) (b100000_0 : List UInt8) (b100000_1 : Int) (b100000_2 : Int) (b100000_3_n : Nat) (b200001 : List Vstep) : Tree (Lf EE.T × Option (PR aG)) := .leaf (.go (tB c) (rX x3 x4 b100000_0 b100000_1 b100000_2 b100000_3_n b200001),f x3 x4 b100000_0 b100000_1 b100000_2 b100000_3_n b200001)
abbrev rg (N : RecC) (r : PR aG) (k : List It2) (s : TS EE.T) : Prop := fT (Y := TT) EE (Gl N) HL HY (fun u => u = e9 r) k s
def iO (x : PR aG) : Tree (Lf EE.T × Option (PR aG)) := .leaf (.done (e9 x),some x)
theorem uK {N : RecC} {r : PR aG} {k3 : Int → Bool → (List UInt8) → Int → Int → Nat → (List Vstep) → Option (PR aG)} (hk3 : ∀ x3 x4 b100000_0 b100000_1 b100000_2 b100000_3_n b200001, k3 x3 x4 b100000_0 b100000_1 b100000_2 b100000_3_n b200001 = some r → rg N r (tB (ai 0 Try.f34)) (rX x3 x4 b100000_0 b100000_1 b100000_2 b100000_3_n b200001)) (n : Nat) (x4 : Bool) (x7 : Int) (b100000_0 : List UInt8) (b100000_1 : Int) (b100000_2 : Int) (b100000_3_n : Nat) (b200001 : List Vstep) (h : cF N k3 n x4 x7 b100000_0 b100000_1 b100000_2 b100000_3_n b200001 = some r) : rg N r (uR (ai 0 Try.f34)) (vP x4 x7 b100000_0 b100000_1 b100000_2 b100000_3_n b200001) :=
 aQ (m := 4000) (t :=
 .bnd (eB b100000_3_n x7) fun z19 =>
 .bnd (b200001[z19]?) fun z20 =>
 iO (.ok (x4,b100000_0,b100000_1,b100000_2,b100000_3_n,List.set b200001 z19 ({ kind := z20.kind,a := (b100000_3_n : Int),b := z20.b,set_ := z20.set_ } : Vstep)))) (by kernel_rfl) (by kernel_rfl) h (fun _ => fun _ => bc (enc := e9) rfl)
theorem tN {N : RecC} {r : PR aG} : ∀ (n : Nat) (x3 : Int) (x4 : Bool) (b100000_0 : List UInt8) (b100000_1 : Int) (b100000_2 : Int) (b100000_3_n : Nat) (b200001 : List Vstep), bN N n x3 x4 b100000_0 b100000_1 b100000_2 b100000_3_n b200001 = some r → rg N r (tB (ai 0 Try.f34)) (rX x3 x4 b100000_0 b100000_1 b100000_2 b100000_3_n b200001)
 | 0,_,_,_,_,_,_,_,h => by cases h
 | n + 1, x3, x4, b100000_0, b100000_1, b100000_2, b100000_3_n, b200001, h => aQ (m := 4000) (t :=
   .bnd (bg N.n 124 b100000_0 b100000_1 b100000_2 b100000_3_n b200001) fun z3 =>
   .sm z3 (fun z4 =>
    .cond (z4.1)
    (
     .bnd (cv N.n x3 z4.2.1 z4.2.2.1 z4.2.2.2.1 z4.2.2.2.2.1 z4.2.2.2.2.2) fun z5 =>
     .sm z5 (fun z6 =>
      .bnd (aC N.n ({ kind := 1,a := 0,b := 0,set_ := (none : Option (List Bool)) } : Vstep) z6.2.1 z6.2.2.1 z6.2.2.2.1 z6.2.2.2.2.1 z6.2.2.2.2.2) fun z7 =>
      .sm z7 (fun z8 =>
       .bnd (eB z8.2.2.2.2.1 z8.1) fun z9 =>
       .bnd (z8.2.2.2.2.2[z9]?) fun z10 =>
       .bnd (bp N.n z6.1 x3 z8.2.1 z8.2.2.1 z8.2.2.2.1 z8.2.2.2.2.1 (List.set z8.2.2.2.2.2 z9 ({ kind := z10.kind,a := (z8.2.2.2.2.1 : Int),b := z10.b,set_ := z10.set_ } : Vstep))) fun z11 =>
       .sm z11 (fun z12 =>
        .bnd (aC N.n ({ kind := 2,a := 0,b := 0,set_ := (none : Option (List Bool)) } : Vstep) z12.1 z12.2.1 z12.2.2.1 z12.2.2.2.1 z12.2.2.2.2) fun z13 =>
        .sm z13 (fun z14 =>
         .bnd (eB z14.2.2.2.2.1 z8.1) fun z15 =>
         .bnd (z14.2.2.2.2.2[z15]?) fun z16 =>
         .bnd (dr N z14.2.1 z14.2.2.1 z14.2.2.2.1 z14.2.2.2.2.1 (List.set z14.2.2.2.2.2 z15 ({ kind := z16.kind,a := z16.a,b := (z14.2.2.2.2.1 : Int),set_ := z16.set_ } : Vstep))) fun z17 =>
         .sm z17 (fun z18 =>
          .cond (z18.1)
          (
           vE (ai 0 Try.f34) (cF N (bN N n) n) true z14.1 z18.2.1 z18.2.2.1 z18.2.2.2.1 z18.2.2.2.2.1 z18.2.2.2.2.2)
          (
           vE (ai 0 Try.f34) (cF N (bN N n) n) x4 z14.1 z18.2.1 z18.2.2.1 z18.2.2.2.1 z18.2.2.2.2.1 z18.2.2.2.2.2)) (fun vz17 =>
          iO (.pan vz17))) (fun vz13 =>
         iO (.pan vz13))) (fun vz11 =>
        iO (.pan vz11))) (fun vz7 =>
       iO (.pan vz7))) (fun vz5 =>
      iO (.pan vz5)))
    (
     iO (.ok (x4,z4.2.1,z4.2.2.1,z4.2.2.2.1,z4.2.2.2.2.1,z4.2.2.2.2.2)))) (fun vz3 =>
    iO (.pan vz3))) (by kernel_rfl) (by kernel_rfl) h (fun _ => ⟨fun _ => ⟨fun _ => ⟨fun _ => fun _ => ⟨fun _ => fun _ => fun _ => fun _ => ⟨fun _ => fun _ => ⟨fun _ => fun _ => fun _ => fun _ => ⟨fun _ => ⟨fun h => uK (tN n) n _ _ _ _ _ _ _ h,fun h => uK (tN n) n _ _ _ _ _ _ _ h⟩,fun _ => bc (enc := e9) rfl⟩,fun _ => bc (enc := e9) rfl⟩,fun _ => bc (enc := e9) rfl⟩,fun _ => bc (enc := e9) rfl⟩,fun _ => bc (enc := e9) rfl⟩,bc (enc := e9) rfl⟩,fun _ => bc (enc := e9) rfl⟩)
theorem E2 {N : RecC} {r : PR aG} (y0_0 : List UInt8) (y0_1 : Int) (y0_2 : Int) (y0_3 : Nat) (y1 : List Vstep) (h : dp N y0_0 y0_1 y0_2 y0_3 y1 = some r) : rg N r (DD (ai 0 Try.f34)) (Gb y0_0 y0_1 y0_2 y0_3 y1) :=
 aQ (m := 4000) (t :=
 .bnd (dJ N y0_0 y0_1 y0_2 y0_3 y1) fun z1 =>
 .sm z1 (fun z2 =>
  Fv (ai 0 Try.f34) (bN N N.n) (y0_3 : Int) z2.1 z2.2.1 z2.2.2.1 z2.2.2.2.1 z2.2.2.2.2.1 z2.2.2.2.2.2) (fun vz1 =>
  iO (.pan vz1))) (by kernel_rfl) (by kernel_rfl) h (fun _ => ⟨fun _ => fun h => tN N.n _ _ _ _ _ _ _ h,fun _ => bc (enc := e9) rfl⟩)
def BS (y0_0 : List UInt8) (y0_1 : Int) (y0_2 : Int) (y0_3 : Nat) (y1 : List Vstep) : List (TV EE.T) := [.a (.box 100000 0)]
def wa (y0_0 : List UInt8) (y0_1 : Int) (y0_2 : Int) (y0_3 : Nat) (y1 : List Vstep) : List (Nat × TB EE.T) := [(100000,.cs [.d .str y0_0,.d (.int .i64) y0_1,.d (.int .i64) y0_2,.vec (.nam 7) 200001 y0_3]),(200001,.vec 200001 (.nam 7) y1)]
theorem fR {N : RecC} (hN : gZ N) (y0_0 : List UInt8) (y0_1 : Int) (y0_2 : Int) (y0_3 : Nat) (y1 : List Vstep) {r : PR aG} (h : dp N y0_0 y0_1 y0_2 y0_3 y1 = some r) (ρ : Rn) (hi : Inj ρ (wa y0_0 y0_1 y0_2 y0_3 y1)) : aT Try.prog 34 ((BS y0_0 y0_1 y0_2 y0_3 y1).map (TV.to EE.toEnc ρ)) (hTo EE.toEnc ρ (wa y0_0 y0_1 y0_2 y0_3 y1)) (da EE ρ fun u => u = e9 r) :=
 eW (ai 0 Try.f34) 70 mixed (EB N hN) Try.func34 (by kernel_rfl) rfl rfl rfl rfl (E2 y0_0 y0_1 y0_2 y0_3 y1 h) ρ hi
def kH (N : RecC) (us : List (TV EE.T)) (hs : List (Nat × TB EE.T)) : XR EE.T :=
 gdX (fx us 1) <|
 bnX (aB us 0) fun i0 =>
 bnX (bC hs i0) fun l0 =>
 gdX (fx l0 4) <|
 bnX (cD .str l0 0) fun y0_0 =>
 bnX (cD (.int .i64) l0 1) fun y0_1 =>
 bnX (cD (.int .i64) l0 2) fun y0_2 =>
 bnX (cVi (.nam 7) l0 3) fun i1 =>
 bnX (cVn (.nam 7) l0 3) fun y0_3 =>
 bnX (bV (.nam 7) hs i1) fun y1 =>
 gdX (bR hs [i0,i1]) <|
 gdX (gV [i0,i1]) <|
 .mv (dp N y0_0 y0_1 y0_2 y0_3 y1) [i0,i1] (mvL [i0,i1] [100000,200001]) 0 (dQ i0 i1) (rP i0 i1)
theorem jC (N : RecC) (hN : gZ N) : XOk Try.prog EE 34 (kH N) := fun us hs =>
 a7 fun h1 => aA fun i0 h2 => aA fun l0 h3 => a7 fun h4 => aA fun y0_0 h5 => aA fun y0_1 h6 => aA fun y0_2 h7 => aA fun i1 h8 => aA fun y0_3 h9 => aA fun y1 h10 => a7 fun h11 => a7 fun h12 => fun p hz ρ hi => fN (ex := []) (ks := [100000,200001]) (us' := BS y0_0 y0_1 y0_2 y0_3 y1) (h0 := wa y0_0 y0_1 y0_2 y0_3 y1) (ρ' := lO ρ [i0,i1]) (uc := dQ 100000 200001) (u := dQ i0 i1) (hc := rP 100000 200001) (h := rP i0 i1) hi h11 (by kernel_rfl) ⟨iF h2 (by kernel_rfl),ce h1⟩ ⟨(by kernel_rfl),ko h3 ⟨df h5,df h6,df h7,g8 h8 h9 (by kernel_rfl),ce h4⟩,(by kernel_rfl),i6 h10 (by kernel_rfl),trivial⟩ ⟨.inr rfl,.inl rfl,trivial⟩ h12 (fun hj => fR hN y0_0 y0_1 y0_2 y0_3 y1 hz _ hj) (fun z => ⟨by kernel_rfl,by kernel_rfl,by kernel_rfl,by kernel_rfl⟩)
theorem gQ (n0 : Nat) : ∀ m, gZ ⟨n0, eu n0 m⟩
 | 0 => F9 n0
 | m + 1 => jC ⟨n0,eu n0 m⟩ (gQ n0 m)
def fi (r : aK) : TV EE.T := .a (.d (.sl .str) r.1)
def xc (i0 : Nat) (r : aK) : List (Nat × TB EE.T) := [(i0,.cs (ev EE (.nam 8) r.2))]
def tL (r : aK) : RL EE.T := .ret (fi r) (xc 100000 r)
def H8 : Lvs := ⟨[(6,⟨[(0,false),(1,false),(2,false),(7,false),(8,false),(9,false)],[],[(100000,(some 8,[]))],[]⟩),(7,⟨[(0,false),(1,false),(2,false),(7,false),(8,false)],[],[(100000,(some 8,[]))],[]⟩),(8,⟨[(0,false),(1,false),(2,false),(7,false),(8,false),(9,false)],[],[(100000,(some 8,[]))],[]⟩)],[(3,⟨[(0,false),(1,false),(2,false),(7,false),(8,false)],[],[(100000,(some 8,[]))],[]⟩)],[8],[],false,[(100000,(some 8,[]))],[100000],[],[]⟩
def Iv : List ResultVar := [.tmp 6]
def D1 (N : Nat) : Gam EE := ⟨[],EQT,[],[]⟩
theorem FC (N : Nat) : GOk Try.prog TT EE (D1 N) := GOk.nil dv
def yh (c : Code) : List It2 := atR 8 c
def yM (x1 : List UInt8) (x2 : List Int) (x7 : List (List UInt8)) (x8 : Int) (x9 : List UInt8) (b100000 : VMask) : TS EE.T := ⟨56,[(0,.a (.box 100000 0)),(1,.a (.d .str x1)),(2,.a (.d (.sl (.int .i64)) x2)),(7,.a (.own .str x7)),(8,.a (.d (.int .i64) x8)),(9,.a (.d .str x9))],[(100000,.cs (ev EE (.nam 8) b100000))],[]⟩
def sI (c : Code) : List It2 := atL 3 c
def sn (x1 : List UInt8) (x2 : List Int) (x7 : List (List UInt8)) (x8 : Int) (b100000 : VMask) : TS EE.T := ⟨56,[(0,.a (.box 100000 0)),(1,.a (.d .str x1)),(2,.a (.d (.sl (.int .i64)) x2)),(7,.a (.own .str x7)),(8,.a (.d (.int .i64) x8))],[(100000,.cs (ev EE (.nam 8) b100000))],[]⟩
def Ft (c : Code) : List It2 := [.c c]
def E6 (x1 : List UInt8) (x2 : List Int) (y0 : VMask) : TS EE.T := ⟨56,[(0,.a (.box 100000 0)),(1,.a (.d .str x1)),(2,.a (.d (.sl (.int .i64)) x2))],[(100000,.cs (ev EE (.nam 8) y0))],[]⟩
def tP (c : Code) (f : (List UInt8) → (List Int) → (List (List UInt8)) → Int → (List UInt8) → VMask → Option aK) (x1 : List UInt8) (x2 : List Int) (x7 : List (List UInt8)) (x8 : Int) (x9 : List UInt8) (b100000 : VMask) : Tree (Lf EE.T × Option aK) := .leaf (.go (yh c) (yM x1 x2 x7 x8 x9 b100000),f x1 x2 x7 x8 x9 b100000)
def yd (c : Code) (f : (List UInt8) → (List Int) → (List (List UInt8)) → Int → VMask → Option aK) (x1 : List UInt8) (x2 : List Int) (x7 : List (List UInt8)) (x8 : Int) (b100000 : VMask) : Tree (Lf EE.T × Option aK) := .leaf (.go (sI c) (sn x1 x2 x7 x8 b100000),f x1 x2 x7 x8 b100000)
abbrev ri (N : Nat) (r : aK) (k : List It2) (s : TS EE.T) : Prop := fT (Y := TT) EE (D1 N) H8 Iv (fun u => u = tL r) k s
def II (x : aK) : Tree (Lf EE.T × Option aK) := .leaf (.done (tL x),some x)
theorem tk {N : Nat} {r : aK} {k3 : (List UInt8) → (List Int) → (List (List UInt8)) → Int → VMask → Option aK} (hk3 : ∀ x1 x2 x7 x8 b100000, k3 x1 x2 x7 x8 b100000 = some r → ri N r (sI (ai 0 Try.f39)) (sn x1 x2 x7 x8 b100000)) (n : Nat) (x1 : List UInt8) (x2 : List Int) (x7 : List (List UInt8)) (x8 : Int) (x9 : List UInt8) (b100000 : VMask) (h : cg N k3 n x1 x2 x7 x8 x9 b100000 = some r) : ri N r (yh (ai 0 Try.f39)) (yM x1 x2 x7 x8 x9 b100000) :=
 aQ (m := 4000) (t :=
 .bnd (jD 16 x7 ([x9] : List (List UInt8))) fun z7 =>
 yd (ai 0 Try.f39) k3 x1 x2 z7 (w64 (x8 + 1)) b100000) (by kernel_rfl) (by kernel_rfl) h (fun _ => fun h => hk3 _ _ _ _ _ h)
theorem o8 {N : Nat} {r : aK} : ∀ (n : Nat) (x1 : List UInt8) (x2 : List Int) (x7 : List (List UInt8)) (x8 : Int) (b100000 : VMask), bB N n x1 x2 x7 x8 b100000 = some r → ri N r (sI (ai 0 Try.f39)) (sn x1 x2 x7 x8 b100000)
 | 0,_,_,_,_,_,h => by cases h
 | n + 1, x1, x2, x7, x8, b100000, h => aQ (m := 4000) (t :=
   .cond (decide (x8 ≤ b100000.Groups))
   (
    .bnd (ap x2 (w64 (2 * x8))) fun z1 =>
    .cond (decide (z1 ≥ 0))
    (
     .bnd (ap x2 (w64 ((w64 (2 * x8)) + 1))) fun z2 =>
     .bnd (ap x2 (w64 (2 * x8))) fun z3 =>
     .cond (decide (z2 ≥ z3))
     (
      .bnd (ap x2 (w64 (2 * x8))) fun z4 =>
      .bnd (ap x2 (w64 ((w64 (2 * x8)) + 1))) fun z5 =>
      .bnd (lI x1 z4 z5) fun z6 =>
      tP (ai 0 Try.f39) (cg N (bB N n) n) x1 x2 x7 x8 z6 b100000)
     (
      tP (ai 0 Try.f39) (cg N (bB N n) n) x1 x2 x7 x8 ([] : List UInt8) b100000))
    (
     tP (ai 0 Try.f39) (cg N (bB N n) n) x1 x2 x7 x8 ([] : List UInt8) b100000))
   (
    II (x7,b100000))) (by kernel_rfl) (by kernel_rfl) h (⟨fun _ => ⟨fun _ => fun _ => ⟨fun _ => fun _ => fun _ => fun h => tk (o8 n) n _ _ _ _ _ _ h,fun h => tk (o8 n) n _ _ _ _ _ _ h⟩,fun h => tk (o8 n) n _ _ _ _ _ _ h⟩,bc (enc := tL) rfl⟩)
theorem D8 {N : Nat} {r : aK} (x1 : List UInt8) (x2 : List Int) (y0 : VMask) (h : dX N x1 x2 y0 = some r) : ri N r (Ft (ai 0 Try.f39)) (E6 x1 x2 y0) :=
 aQ (m := 4000) (t :=
 yd (ai 0 Try.f39) (bB N N) x1 x2 ([] : List (List UInt8)) 1 y0) (by kernel_rfl) (by kernel_rfl) h (fun h => o8 N _ _ _ _ _ h)
def Bq (x1 : List UInt8) (x2 : List Int) (y0 : VMask) : List (TV EE.T) := [.a (.box 100000 0),.a (.d .str x1),.a (.d (.sl (.int .i64)) x2)]
def vW (x1 : List UInt8) (x2 : List Int) (y0 : VMask) : List (Nat × TB EE.T) := [(100000,.cs (ev EE (.nam 8) y0))]
theorem kW {N : Nat} (x1 : List UInt8) (x2 : List Int) (y0 : VMask) {r : aK} (h : dX N x1 x2 y0 = some r) (ρ : Rn) (hi : Inj ρ (vW x1 x2 y0)) : aT Try.prog 39 ((Bq x1 x2 y0).map (TV.to EE.toEnc ρ)) (hTo EE.toEnc ρ (vW x1 x2 y0)) (fun out H => out = .ret ((fi r).to EE.toEnc ρ) ∧ H = hTo EE.toEnc ρ (xc 100000 r)) :=
 (eW (ai 0 Try.f39) 56 mixed (FC N) Try.func39 (by kernel_rfl) rfl rfl rfl rfl (D8 x1 x2 y0 h) ρ hi).mono fun out H h => da.retH rfl rfl h
def gY (N : Nat) (us : List (TV EE.T)) (hs : List (Nat × TB EE.T)) : XR EE.T :=
 gdX (fx us 3) <|
 bnX (aB us 0) fun i0 =>
 bnX (aD .str us 1) fun x1 =>
 bnX (aD (.sl (.int .i64)) us 2) fun x2 =>
 bnX (bS EE 8 hs i0) fun y0 =>
 gdX (bR hs [i0]) <|
 .ret (dX N x1 x2 y0) [i0] fi (xc i0)
theorem j9 (N : Nat) : XOk Try.prog EE 39 (gY N) := fun us hs =>
 a7 fun h1 => aA fun i0 h2 => aA fun x1 h3 => aA fun x2 h4 => aA fun y0 h5 => a7 fun h6 => fun z hz => ⟨rfl,fun ρ hi => Ky (us' := Bq x1 x2 y0) (h0 := vW x1 x2 y0) (ρ' := lO ρ [i0]) hi h6 (by kernel_rfl) ⟨iF h2 (by kernel_rfl),lZ h3,lZ h4,ce h1⟩ ⟨(by kernel_rfl),DR h5,trivial⟩ (fun hj => kW x1 x2 y0 hz _ hj) (fun out H h => ⟨h.1.trans (by kernel_rfl),h.2.trans (by kernel_rfl)⟩)⟩
def ju (r : Bool) : TV EE.T := .a (.d .bool r)
def xi (r : Bool) : RL EE.T := .ret (ju r) []
def LB : Lvs := ⟨[],[],[],[],false,[],[],[],[]⟩
def Ly : List ResultVar := [.tmp 2]
def KS (N : Nat) : Gam EE := ⟨[],EQT,[],[]⟩
theorem JR (N : Nat) : GOk Try.prog TT EE (KS N) := GOk.nil dv
def Ku (c : Code) : List It2 := [.c c]
def Jt (x0 : UInt8) : TS EE.T := ⟨9,[(0,.a (.d .byte x0))],[],[]⟩
abbrev KY (N : Nat) (r : Bool) (k : List It2) (s : TS EE.T) : Prop := fT (Y := TT) EE (KS N) LB Ly (fun u => u = xi r) k s
def Jd (x : Bool) : Tree (Lf EE.T × Option Bool) := .leaf (.done (xi x),some x)
theorem Jn {N : Nat} {r : Bool} (x0 : UInt8) (h : eU N x0 = some r) : KY N r (Ku (ai 0 Try.f47)) (Jt x0) :=
 aQ (m := 4000) (t :=
 .cond (decide ((b2i x0) ≥ (b2i 48)))
 (
  Jd (decide ((b2i x0) ≤ (b2i 57))))
 (
  Jd false)) (by kernel_rfl) (by kernel_rfl) h (⟨bc (enc := xi) rfl,bc (enc := xi) rfl⟩)
theorem rc {N : Nat} (x0 : UInt8) {r : Bool} (h : eU N x0 = some r) (ρ : Rn) : aT Try.prog 47 (([.a (.d .byte x0)] : List (TV EE.T)).map (TV.to EE.toEnc ρ)) [] (fun out H => out = .ret ((ju r).to EE.toEnc ρ) ∧ H = []) :=
 (qK (ai 0 Try.f47) 9 mixed (JR N) Try.func47 (by kernel_rfl) rfl rfl rfl rfl (Jn x0 h) ρ).mono fun out H h => da.ret rfl h
def jc (N : Nat) : List (TV EE.T) → PV EE.T
 | [u0] => match kT .byte u0 with
   | some x0 => .opt (eU N x0) ju
   | _ => .bad
 | _ => .bad
theorem qv (N : Nat) (us : List (TV EE.T)) : (jc N us).ok fun u => ∀ ρ, aT Try.prog 47 (us.map (TV.to EE.toEnc ρ)) [] (fun out H => out = .ret (u.to EE.toEnc ρ) ∧ H = []) := by
 unfold jc
 split
 ·split
  ·rename_i h0
   intro z hz ρ; refine fH ?_ (rc _ hz ρ); exact ⟨eo h0 ρ,trivial⟩
  ·trivial
 ·trivial
def nN (r : cw) : TV EE.T := .tu [.a (.d (.sl (.nam 6)) r.1),.a (.d .bool r.2)]
def lT (r : cw) : RL EE.T := .ret (nN r) []
def Lw : Lvs := ⟨[],[(2,⟨[(0,false),(4,false)],[],[],[]⟩)],[],[],false,[],[],[],[]⟩
def K7 : List ResultVar := [.tmp 2,.tmp 3]
def KL (N : Nat) : Gam EE := ⟨[⟨47,jc N⟩,⟨46,dV N⟩],EQT,[],[]⟩
theorem JH (N : Nat) : GOk Try.prog TT EE (KL N) := GOk.cons (qv N) (GOk.cons (fh N) (GOk.nil dv))
def EX (c : Code) : List It2 := atL 2 c
def Db (x0 : List UInt8) (x4 : List Vpiece) : TS EE.T := ⟨83,[(0,.a (.d .str x0)),(4,.a (.own (.nam 6) x4))],[],[]⟩
def J2 (c : Code) : List It2 := [.c c]
def JV (x0 : List UInt8) : TS EE.T := ⟨83,[(0,.a (.d .str x0))],[],[]⟩
def sR (c : Code) (f : (List UInt8) → (List Vpiece) → Option cw) (x0 : List UInt8) (x4 : List Vpiece) : Tree (Lf EE.T × Option cw) := .leaf (.go (EX c) (Db x0 x4),f x0 x4)
abbrev I2 (N : Nat) (r : cw) (k : List It2) (s : TS EE.T) : Prop := fT (Y := TT) EE (KL N) Lw K7 (fun u => u = lT r) k s
def va (x : cw) : Tree (Lf EE.T × Option cw) := .leaf (.done (lT x),some x)
theorem sL {N : Nat} {r : cw} : ∀ (n : Nat) (x0 : List UInt8) (x4 : List Vpiece), cu N n x0 x4 = some r → I2 N r (EX (ai 0 Try.f28)) (Db x0 x4)
 | 0,_,_,h => by cases h
 | n + 1, x0, x4, h => aQ (m := 4000) (t :=
   .cond (!decide (x0 = ([] : List UInt8)))
   (
    .bnd (ap x0 0) fun z1 =>
    .cond ((b2i z1) != (b2i 36))
    (
     .bnd (nD x0 ([36] : List UInt8)) fun z2 =>
     .bnd (co N z2 36) fun z3 =>
     .bnd (lI x0 0 z3) fun z4 =>
     .bnd (jD 24 x4 ([({ text := z4,group := (-1) } : Vpiece)] : List Vpiece)) fun z5 =>
     .bnd (lI x0 z3 (x0.length : Int)) fun z6 =>
     sR (ai 0 Try.f28) (cu N n) z6 z5)
    (
     .bnd (lI x0 1 (x0.length : Int)) fun z7 =>
     .cond (decide (z7 = ([] : List UInt8)))
     (
      va (([] : List Vpiece),false))
     (
      .bnd (ap z7 0) fun z8 =>
      .cond ((b2i z8) == (b2i 36))
      (
       .bnd (jD 24 x4 ([({ text := ([36] : List UInt8),group := (-1) } : Vpiece)] : List Vpiece)) fun z9 =>
       .bnd (lI z7 1 (z7.length : Int)) fun z10 =>
       sR (ai 0 Try.f28) (cu N n) z10 z9)
      (
       .bnd (ap z7 0) fun z11 =>
       .bnd (eU N z11) fun z12 =>
       .cond (z12)
       (
        .bnd (ap z7 0) fun z13 =>
        .bnd (jD 24 x4 ([({ text := ([] : List UInt8),group := w64 (b2i (toB (IntKind.wrap .u8 ((b2i z13) - (b2i 48))))) } : Vpiece)] : List Vpiece)) fun z14 =>
        .bnd (lI z7 1 (z7.length : Int)) fun z15 =>
        sR (ai 0 Try.f28) (cu N n) z15 z14)
       (
        .cond (decide ((z7.length : Int) > 2))
        (
         .bnd (ap z7 0) fun z16 =>
         .cond ((b2i z16) == (b2i 123))
         (
          .bnd (ap z7 1) fun z17 =>
          .bnd (eU N z17) fun z18 =>
          .cond (z18)
          (
           .bnd (ap z7 2) fun z19 =>
           .cond ((b2i z19) == (b2i 125))
           (
            .bnd (ap z7 1) fun z20 =>
            .bnd (jD 24 x4 ([({ text := ([] : List UInt8),group := w64 (b2i (toB (IntKind.wrap .u8 ((b2i z20) - (b2i 48))))) } : Vpiece)] : List Vpiece)) fun z21 =>
            .bnd (lI z7 3 (z7.length : Int)) fun z22 =>
            sR (ai 0 Try.f28) (cu N n) z22 z21)
           (
            va (([] : List Vpiece),false)))
          (
           va (([] : List Vpiece),false)))
         (
          va (([] : List Vpiece),false)))
        (
         va (([] : List Vpiece),false)))))))
   (
    va (x4,true))) (by kernel_rfl) (by kernel_rfl) h (⟨fun _ => ⟨fun _ => fun _ => fun _ => fun _ => fun _ => fun h => (sL n) _ _ h,fun _ => ⟨bc (enc := lT) rfl,fun _ => ⟨fun _ => fun _ => fun h => (sL n) _ _ h,fun _ => fun _ => ⟨fun _ => fun _ => fun _ => fun h => (sL n) _ _ h,⟨fun _ => ⟨fun _ => fun _ => ⟨fun _ => ⟨fun _ => fun _ => fun _ => fun h => (sL n) _ _ h,bc (enc := lT) rfl⟩,bc (enc := lT) rfl⟩,bc (enc := lT) rfl⟩,bc (enc := lT) rfl⟩⟩⟩⟩⟩,bc (enc := lT) rfl⟩)
theorem JO {N : Nat} {r : cw} (x0 : List UInt8) (h : ip N x0 = some r) : I2 N r (J2 (ai 0 Try.f28)) (JV x0) :=
 aQ (m := 4000) (t :=
 sR (ai 0 Try.f28) (cu N N) x0 ([] : List Vpiece)) (by kernel_rfl) (by kernel_rfl) h (fun h => sL N _ _ h)
theorem lJ {N : Nat} (x0 : List UInt8) {r : cw} (h : ip N x0 = some r) (ρ : Rn) : aT Try.prog 28 (([.a (.d .str x0)] : List (TV EE.T)).map (TV.to EE.toEnc ρ)) [] (fun out H => out = .ret ((nN r).to EE.toEnc ρ) ∧ H = []) :=
 (qK (ai 0 Try.f28) 83 mixed (JH N) Try.func28 (by kernel_rfl) rfl rfl rfl rfl (JO x0 h) ρ).mono fun out H h => da.ret rfl h
def oW (i0 : Nat) (i1 : Nat) (i2 : Nat) (r : Nat × VMask × (List Vthread) × (List (Int × Bool))) : TV EE.T := .a (.vec (.nam 10) i1 r.1)
def oh (i0 : Nat) (i1 : Nat) (i2 : Nat) (r : Nat × VMask × (List Vthread) × (List (Int × Bool))) : List (Nat × TB EE.T) := [(i0,.cs (ev EE (.nam 8) r.2.1)),(i1,.vec i1 (.nam 10) r.2.2.1),(i2,.imap .bool r.2.2.2)]
def fk (N : RecC2) (us : List (TV EE.T)) (hs : List (Nat × TB EE.T)) : XR EE.T :=
 gdX (fx us 5) <|
 bnX (aB us 0) fun i0 =>
 bnX (aVi (.nam 10) us 1) fun i1 =>
 bnX (aVn (.nam 10) us 1) fun x1_n =>
 bnX (aM us 2) fun i2 =>
 bnX (aS EE 10 us 3) fun x3 =>
 bnX (aD (.int .i64) us 4) fun x4 =>
 bnX (bS EE 8 hs i0) fun y0 =>
 bnX (bV (.nam 10) hs i1) fun y1 =>
 bnX (bI .bool hs i2) fun y2 =>
 gdX (bR hs [i0,i1,i2]) <|
 gdX (gV [i0,i1,i2]) <|
 .mv (cO N x1_n x3 x4 y0 y1 y2) [i0,i1,i2] (mvL [i0,i1,i2] [100000,200001,100002]) 0 (oW i0 i1 i2) (oh i0 i1 i2)
def qz (N : RecC2) : Prop := XOk Try.prog EE 38 (fk N)
theorem nB (N : RecC2) (hN : qz N) : XOk Try.prog EE 38 (fk N) := hN
theorem CD (n : Nat) : qz ⟨n, fun _ _ _ _ _ _ => none⟩ := fun us hs =>
 a7 fun h1 => aA fun i0 h2 => aA fun i1 h3 => aA fun x1_n h4 => aA fun i2 h5 => aA fun x3 h6 => aA fun x4 h7 => aA fun y0 h8 => aA fun y1 h9 => aA fun y2 h10 => a7 fun h11 => a7 fun h12 => fun p hz => by cases hz
def eS (i0 : Nat) (i1 : Nat) (i2 : Nat) (r : bm) : TV EE.T := .a (.vec (.nam 10) i1 r.1)
def rp (i0 : Nat) (i1 : Nat) (i2 : Nat) (r : bm) : List (Nat × TB EE.T) := [(i0,.cs (ev EE (.nam 8) r.2.1)),(i1,.vec i1 (.nam 10) r.2.2.1),(i2,.imap .bool r.2.2.2)]
def eL (r : PR bm) : RL EE.T := mi (eS 100000 200001 100002) (rp 100000 200001 100002) r
def Ht : Lvs := ⟨[(4,⟨[(0,false),(1,false),(2,false),(4,false),(8,false)],[],[(8,(some 10,[])),(100000,(some 8,[])),(100002,(none,[])),(200001,(none,[]))],[]⟩),(5,⟨[(0,false),(1,false),(2,false),(4,false),(8,false),(11,false)],[],[(8,(some 10,[])),(11,(some 7,[])),(100000,(some 8,[])),(100002,(none,[])),(200001,(none,[]))],[]⟩)],[],[5],[],false,[(100000,(some 8,[]))],[100000,200001,100002],[(14,[.cl 401104 (.v (.int .i64)) (.s 12)])],[(88,200001)]⟩
def Hw : List ResultVar := [.tmp 10]
def C9 (N : RecC2) : Gam EE := ⟨[],EQT,[⟨38,fk N⟩,⟨55,lN N.n⟩],[]⟩
theorem Du (N : RecC2) (hN : qz N) : GOk Try.prog TT EE (C9 N) := GOk.consx (nB N hN) (GOk.consx (nT N.n) (GOk.nil dv))
def yn (c : Code) : List It2 := atR 5 c
def yu (x1_n : Nat) (x4 : Int) (b8 : Vthread) (b11 : Vstep) (b100000 : VMask) (b100002 : List (Int × Bool)) (b200001 : List Vthread) : TS EE.T := ⟨89,[(0,.a (.box 100000 0)),(1,.a (.vec (.nam 10) 200001 x1_n)),(2,.a (.mpr 100002)),(4,.a (.d (.int .i64) x4)),(8,.a (.box 8 0)),(11,.a (.box 11 0))],[(8,.cs (ev EE (.nam 10) b8)),(11,.cs (ev EE (.nam 7) b11)),(100000,.cs (ev EE (.nam 8) b100000)),(100002,.imap .bool b100002),(200001,.vec 200001 (.nam 10) b200001)],[]⟩
def DG (c : Code) : List It2 := [.c c]
def GO (x1_n : Nat) (x3 : Vthread) (x4 : Int) (y0 : VMask) (y1 : List Vthread) (y2 : List (Int × Bool)) : TS EE.T := ⟨89,[(0,.a (.box 100000 0)),(1,.a (.vec (.nam 10) 200001 x1_n)),(2,.a (.mpr 100002)),(3,.ag (ev EE (.nam 10) x3)),(4,.a (.d (.int .i64) x4))],[(100000,.cs (ev EE (.nam 8) y0)),(200001,.vec 200001 (.nam 10) y1),(100002,.imap .bool y2)],[]⟩
def av (c : Code) (f : Nat → Int → Vthread → Vstep → VMask → (List (Int × Bool)) → (List Vthread) → Option (PR bm)) (x1_n : Nat) (x4 : Int) (b8 : Vthread) (b11 : Vstep) (b100000 : VMask) (b100002 : List (Int × Bool)) (b200001 : List Vthread) : Tree (Lf EE.T × Option (PR bm)) := .leaf (.go (yn c) (yu x1_n x4 b8 b11 b100000 b100002 b200001),f x1_n x4 b8 b11 b100000 b100002 b200001)
abbrev BQ (N : RecC2) (r : PR bm) (k : List It2) (s : TS EE.T) : Prop := fT (Y := TT) EE (C9 N) Ht Hw (fun u => u = eL r) k s
def ib (x : PR bm) : Tree (Lf EE.T × Option (PR bm)) := .leaf (.done (eL x),some x)
theorem au {N : RecC2} {r : PR bm} (n : Nat) (x1_n : Nat) (x4 : Int) (b8 : Vthread) (b11 : Vstep) (b100000 : VMask) (b100002 : List (Int × Bool)) (b200001 : List Vthread) (h : ah N n x1_n x4 b8 b11 b100000 b100002 b200001 = some r) : BQ N r (yn (ai 0 Try.f38)) (yu x1_n x4 b8 b11 b100000 b100002 b200001) :=
 aQ (m := 4000) (t :=
 .cond (b11.kind == 2)
 (
  .bnd (cO N x1_n ({ at_ := b11.a,slots := b8.slots } : Vthread) x4 b100000 b200001 b100002) fun z121 =>
  .sm z121 (fun z122 =>
   ib (.ok (z122.1,z122.2.1,z122.2.2.1,z122.2.2.2))) (fun vz121 =>
   ib (.pan vz121)))
 (
  .cond (b11.kind == 1)
  (
   .bnd (cO N x1_n ({ at_ := b11.a,slots := b8.slots } : Vthread) x4 b100000 b200001 b100002) fun z123 =>
   .sm z123 (fun z124 =>
    .bnd (cO N z124.1 ({ at_ := b11.b,slots := b8.slots } : Vthread) x4 z124.2.1 z124.2.2.1 z124.2.2.2) fun z125 =>
    .sm z125 (fun z126 =>
     ib (.ok (z126.1,z126.2.1,z126.2.2.1,z126.2.2.2))) (fun vz125 =>
     ib (.pan vz125))) (fun vz123 =>
    ib (.pan vz123)))
  (
   .cond (b11.kind == 3)
   (
    .bnd (iT N.n b8.slots) fun z127 =>
    .sm z127 (fun z128 =>
     .bnd (eB z128.1 b11.a) fun z129 =>
     .bnd (z128.2[z129]?) fun z130 =>
     .bnd (o5 z128.1 (List.set z128.2 z129 x4)) fun z131 =>
     .bnd (cO N x1_n ({ at_ := w64 (b8.at_ + 1),slots := z131 } : Vthread) x4 b100000 b200001 b100002) fun z132 =>
     .sm z132 (fun z133 =>
      ib (.ok (z133.1,z133.2.1,z133.2.2.1,z133.2.2.2))) (fun vz132 =>
      ib (.pan vz132))) (fun vz127 =>
     ib (.pan vz127)))
   (
    .bnd (p8 32 x1_n b200001 ([b8] : List Vthread)) fun z134 =>
    ib (.ok (z134.length,b100000,z134,b100002)))))) (by kernel_rfl) (by kernel_rfl) h (⟨fun _ => ⟨fun _ => bc (enc := eL) rfl,fun _ => bc (enc := eL) rfl⟩,⟨fun _ => ⟨fun _ => fun _ => ⟨fun _ => bc (enc := eL) rfl,fun _ => bc (enc := eL) rfl⟩,fun _ => bc (enc := eL) rfl⟩,⟨fun _ => ⟨fun _ => fun _ => fun _ => fun _ => fun _ => ⟨fun _ => bc (enc := eL) rfl,fun _ => bc (enc := eL) rfl⟩,fun _ => bc (enc := eL) rfl⟩,fun _ => bc (enc := eL) rfl⟩⟩⟩)
theorem F6 {N : RecC2} {r : PR bm} (x1_n : Nat) (x3 : Vthread) (x4 : Int) (y0 : VMask) (y1 : List Vthread) (y2 : List (Int × Bool)) (h : fM N x1_n x3 x4 y0 y1 y2 = some r) : BQ N r (DG (ai 0 Try.f38)) (GO x1_n x3 x4 y0 y1 y2) :=
 aQ (m := 4000) (t :=
 .cond ((rb y2 x3.at_).getD false)
 (
  ib (.ok (x1_n,y0,y1,y2)))
 (
  .nl (([] : List Nat))
  (
   .nl (([] : List Nat))
   (
    .nl (([] : List Nat))
    (
     .nl (([] : List Nat))
     (
      .nl (([] : List Nat))
      (
       .nl (([] : List Nat))
       (
        .nl (([] : List Nat))
        (
         .bnd (ap y0.steps x3.at_) fun z1 =>
         .nl (([] : List Nat))
         (
          av (ai 0 Try.f38) (ah N N.n) x1_n x4 x3 z1 y0 (aE y2 x3.at_ true) y1)
         (
          av (ai 0 Try.f38) (ah N N.n) x1_n x4 x3 z1 y0 (aE y2 x3.at_ true) y1))
        (
         .bnd (ap y0.steps x3.at_) fun z2 =>
         av (ai 0 Try.f38) (ah N N.n) x1_n x4 x3 z2 y0 (aE y2 x3.at_ true) y1))
       (
        .bnd (ap y0.steps x3.at_) fun z3 =>
        av (ai 0 Try.f38) (ah N N.n) x1_n x4 x3 z3 y0 (aE y2 x3.at_ true) y1))
      (
       .bnd (ap y0.steps x3.at_) fun z4 =>
       av (ai 0 Try.f38) (ah N N.n) x1_n x4 x3 z4 y0 (aE y2 x3.at_ true) y1))
     (
      .nl (([] : List Nat))
      (
       .nl (([] : List Nat))
       (
        .nl (([] : List Nat))
        (
         .nl (([] : List Nat))
         (
          .bnd (ap y0.steps x3.at_) fun z5 =>
          .nl (([] : List Nat))
          (
           av (ai 0 Try.f38) (ah N N.n) x1_n x4 x3 z5 y0 (aE y2 x3.at_ true) y1)
          (
           av (ai 0 Try.f38) (ah N N.n) x1_n x4 x3 z5 y0 (aE y2 x3.at_ true) y1))
         (
          .bnd (ap y0.steps x3.at_) fun z6 =>
          av (ai 0 Try.f38) (ah N N.n) x1_n x4 x3 z6 y0 (aE y2 x3.at_ true) y1))
        (
         .bnd (ap y0.steps x3.at_) fun z7 =>
         av (ai 0 Try.f38) (ah N N.n) x1_n x4 x3 z7 y0 (aE y2 x3.at_ true) y1))
       (
        .nl (([] : List Nat))
        (
         .nl (([] : List Nat))
         (
          .nl (([] : List Nat))
          (
           .bnd (ap y0.steps x3.at_) fun z8 =>
           .nl (([] : List Nat))
           (
            av (ai 0 Try.f38) (ah N N.n) x1_n x4 x3 z8 y0 (aE y2 x3.at_ true) y1)
           (
            av (ai 0 Try.f38) (ah N N.n) x1_n x4 x3 z8 y0 (aE y2 x3.at_ true) y1))
          (
           .bnd (ap y0.steps x3.at_) fun z9 =>
           av (ai 0 Try.f38) (ah N N.n) x1_n x4 x3 z9 y0 (aE y2 x3.at_ true) y1))
         (
          .bnd (ap y0.steps x3.at_) fun z10 =>
          av (ai 0 Try.f38) (ah N N.n) x1_n x4 x3 z10 y0 (aE y2 x3.at_ true) y1))
        (
         .nl (([] : List Nat))
         (
          .bnd (ap y0.steps x3.at_) fun z11 =>
          av (ai 0 Try.f38) (ah N N.n) x1_n x4 x3 z11 y0 (aE y2 x3.at_ true) y1)
         (
          .bnd (ap y0.steps x3.at_) fun z12 =>
          av (ai 0 Try.f38) (ah N N.n) x1_n x4 x3 z12 y0 (aE y2 x3.at_ true) y1))))
      (
       .nl (([] : List Nat))
       (
        .bnd (ap y0.steps x3.at_) fun z13 =>
        av (ai 0 Try.f38) (ah N N.n) x1_n x4 x3 z13 y0 (aE y2 x3.at_ true) y1)
       (
        .nl (([] : List Nat))
        (
         .bnd (ap y0.steps x3.at_) fun z14 =>
         av (ai 0 Try.f38) (ah N N.n) x1_n x4 x3 z14 y0 (aE y2 x3.at_ true) y1)
        (
         .bnd (ap y0.steps x3.at_) fun z15 =>
         av (ai 0 Try.f38) (ah N N.n) x1_n x4 x3 z15 y0 (aE y2 x3.at_ true) y1)))))
    (
     .nl (([] : List Nat))
     (
      .nl (([] : List Nat))
      (
       .nl (([] : List Nat))
       (
        .nl (([] : List Nat))
        (
         .nl (([] : List Nat))
         (
          .bnd (ap y0.steps x3.at_) fun z16 =>
          .nl (([] : List Nat))
          (
           av (ai 0 Try.f38) (ah N N.n) x1_n x4 x3 z16 y0 (aE y2 x3.at_ true) y1)
          (
           av (ai 0 Try.f38) (ah N N.n) x1_n x4 x3 z16 y0 (aE y2 x3.at_ true) y1))
         (
          .bnd (ap y0.steps x3.at_) fun z17 =>
          av (ai 0 Try.f38) (ah N N.n) x1_n x4 x3 z17 y0 (aE y2 x3.at_ true) y1))
        (
         .bnd (ap y0.steps x3.at_) fun z18 =>
         av (ai 0 Try.f38) (ah N N.n) x1_n x4 x3 z18 y0 (aE y2 x3.at_ true) y1))
       (
        .nl (([] : List Nat))
        (
         .nl (([] : List Nat))
         (
          .nl (([] : List Nat))
          (
           .bnd (ap y0.steps x3.at_) fun z19 =>
           .nl (([] : List Nat))
           (
            av (ai 0 Try.f38) (ah N N.n) x1_n x4 x3 z19 y0 (aE y2 x3.at_ true) y1)
           (
            av (ai 0 Try.f38) (ah N N.n) x1_n x4 x3 z19 y0 (aE y2 x3.at_ true) y1))
          (
           .bnd (ap y0.steps x3.at_) fun z20 =>
           av (ai 0 Try.f38) (ah N N.n) x1_n x4 x3 z20 y0 (aE y2 x3.at_ true) y1))
         (
          .bnd (ap y0.steps x3.at_) fun z21 =>
          av (ai 0 Try.f38) (ah N N.n) x1_n x4 x3 z21 y0 (aE y2 x3.at_ true) y1))
        (
         .nl (([] : List Nat))
         (
          .bnd (ap y0.steps x3.at_) fun z22 =>
          av (ai 0 Try.f38) (ah N N.n) x1_n x4 x3 z22 y0 (aE y2 x3.at_ true) y1)
         (
          .bnd (ap y0.steps x3.at_) fun z23 =>
          av (ai 0 Try.f38) (ah N N.n) x1_n x4 x3 z23 y0 (aE y2 x3.at_ true) y1))))
      (
       .nl (([] : List Nat))
       (
        .nl (([] : List Nat))
        (
         .nl (([] : List Nat))
         (
          .nl (([] : List Nat))
          (
           .bnd (ap y0.steps x3.at_) fun z24 =>
           .nl (([] : List Nat))
           (
            av (ai 0 Try.f38) (ah N N.n) x1_n x4 x3 z24 y0 (aE y2 x3.at_ true) y1)
           (
            av (ai 0 Try.f38) (ah N N.n) x1_n x4 x3 z24 y0 (aE y2 x3.at_ true) y1))
          (
           .bnd (ap y0.steps x3.at_) fun z25 =>
           av (ai 0 Try.f38) (ah N N.n) x1_n x4 x3 z25 y0 (aE y2 x3.at_ true) y1))
         (
          .bnd (ap y0.steps x3.at_) fun z26 =>
          av (ai 0 Try.f38) (ah N N.n) x1_n x4 x3 z26 y0 (aE y2 x3.at_ true) y1))
        (
         .bnd (ap y0.steps x3.at_) fun z27 =>
         av (ai 0 Try.f38) (ah N N.n) x1_n x4 x3 z27 y0 (aE y2 x3.at_ true) y1))
       (
        .nl (([] : List Nat))
        (
         .nl (([] : List Nat))
         (
          .bnd (ap y0.steps x3.at_) fun z28 =>
          av (ai 0 Try.f38) (ah N N.n) x1_n x4 x3 z28 y0 (aE y2 x3.at_ true) y1)
         (
          .bnd (ap y0.steps x3.at_) fun z29 =>
          av (ai 0 Try.f38) (ah N N.n) x1_n x4 x3 z29 y0 (aE y2 x3.at_ true) y1))
        (
         .bnd (ap y0.steps x3.at_) fun z30 =>
         av (ai 0 Try.f38) (ah N N.n) x1_n x4 x3 z30 y0 (aE y2 x3.at_ true) y1))))
     (
      .nl (([] : List Nat))
      (
       .nl (([] : List Nat))
       (
        .bnd (ap y0.steps x3.at_) fun z31 =>
        av (ai 0 Try.f38) (ah N N.n) x1_n x4 x3 z31 y0 (aE y2 x3.at_ true) y1)
       (
        .nl (([] : List Nat))
        (
         .bnd (ap y0.steps x3.at_) fun z32 =>
         av (ai 0 Try.f38) (ah N N.n) x1_n x4 x3 z32 y0 (aE y2 x3.at_ true) y1)
        (
         .bnd (ap y0.steps x3.at_) fun z33 =>
         av (ai 0 Try.f38) (ah N N.n) x1_n x4 x3 z33 y0 (aE y2 x3.at_ true) y1)))
      (
       .nl (([] : List Nat))
       (
        .nl (([] : List Nat))
        (
         .bnd (ap y0.steps x3.at_) fun z34 =>
         av (ai 0 Try.f38) (ah N N.n) x1_n x4 x3 z34 y0 (aE y2 x3.at_ true) y1)
        (
         .bnd (ap y0.steps x3.at_) fun z35 =>
         av (ai 0 Try.f38) (ah N N.n) x1_n x4 x3 z35 y0 (aE y2 x3.at_ true) y1))
       (
        .bnd (ap y0.steps x3.at_) fun z36 =>
        av (ai 0 Try.f38) (ah N N.n) x1_n x4 x3 z36 y0 (aE y2 x3.at_ true) y1)))))
   (
    .nl (([] : List Nat))
    (
     .nl (([] : List Nat))
     (
      .nl (([] : List Nat))
      (
       .nl (([] : List Nat))
       (
        .nl (([] : List Nat))
        (
         .nl (([] : List Nat))
         (
          .bnd (ap y0.steps x3.at_) fun z37 =>
          .nl (([] : List Nat))
          (
           av (ai 0 Try.f38) (ah N N.n) x1_n x4 x3 z37 y0 (aE y2 x3.at_ true) y1)
          (
           av (ai 0 Try.f38) (ah N N.n) x1_n x4 x3 z37 y0 (aE y2 x3.at_ true) y1))
         (
          .bnd (ap y0.steps x3.at_) fun z38 =>
          av (ai 0 Try.f38) (ah N N.n) x1_n x4 x3 z38 y0 (aE y2 x3.at_ true) y1))
        (
         .bnd (ap y0.steps x3.at_) fun z39 =>
         av (ai 0 Try.f38) (ah N N.n) x1_n x4 x3 z39 y0 (aE y2 x3.at_ true) y1))
       (
        .nl (([] : List Nat))
        (
         .nl (([] : List Nat))
         (
          .nl (([] : List Nat))
          (
           .bnd (ap y0.steps x3.at_) fun z40 =>
           .nl (([] : List Nat))
           (
            av (ai 0 Try.f38) (ah N N.n) x1_n x4 x3 z40 y0 (aE y2 x3.at_ true) y1)
           (
            av (ai 0 Try.f38) (ah N N.n) x1_n x4 x3 z40 y0 (aE y2 x3.at_ true) y1))
          (
           .bnd (ap y0.steps x3.at_) fun z41 =>
           av (ai 0 Try.f38) (ah N N.n) x1_n x4 x3 z41 y0 (aE y2 x3.at_ true) y1))
         (
          .bnd (ap y0.steps x3.at_) fun z42 =>
          av (ai 0 Try.f38) (ah N N.n) x1_n x4 x3 z42 y0 (aE y2 x3.at_ true) y1))
        (
         .nl (([] : List Nat))
         (
          .bnd (ap y0.steps x3.at_) fun z43 =>
          av (ai 0 Try.f38) (ah N N.n) x1_n x4 x3 z43 y0 (aE y2 x3.at_ true) y1)
         (
          .bnd (ap y0.steps x3.at_) fun z44 =>
          av (ai 0 Try.f38) (ah N N.n) x1_n x4 x3 z44 y0 (aE y2 x3.at_ true) y1))))
      (
       .nl (([] : List Nat))
       (
        .nl (([] : List Nat))
        (
         .nl (([] : List Nat))
         (
          .nl (([] : List Nat))
          (
           .bnd (ap y0.steps x3.at_) fun z45 =>
           .nl (([] : List Nat))
           (
            av (ai 0 Try.f38) (ah N N.n) x1_n x4 x3 z45 y0 (aE y2 x3.at_ true) y1)
           (
            av (ai 0 Try.f38) (ah N N.n) x1_n x4 x3 z45 y0 (aE y2 x3.at_ true) y1))
          (
           .bnd (ap y0.steps x3.at_) fun z46 =>
           av (ai 0 Try.f38) (ah N N.n) x1_n x4 x3 z46 y0 (aE y2 x3.at_ true) y1))
         (
          .bnd (ap y0.steps x3.at_) fun z47 =>
          av (ai 0 Try.f38) (ah N N.n) x1_n x4 x3 z47 y0 (aE y2 x3.at_ true) y1))
        (
         .bnd (ap y0.steps x3.at_) fun z48 =>
         av (ai 0 Try.f38) (ah N N.n) x1_n x4 x3 z48 y0 (aE y2 x3.at_ true) y1))
       (
        .nl (([] : List Nat))
        (
         .nl (([] : List Nat))
         (
          .bnd (ap y0.steps x3.at_) fun z49 =>
          av (ai 0 Try.f38) (ah N N.n) x1_n x4 x3 z49 y0 (aE y2 x3.at_ true) y1)
         (
          .bnd (ap y0.steps x3.at_) fun z50 =>
          av (ai 0 Try.f38) (ah N N.n) x1_n x4 x3 z50 y0 (aE y2 x3.at_ true) y1))
        (
         .bnd (ap y0.steps x3.at_) fun z51 =>
         av (ai 0 Try.f38) (ah N N.n) x1_n x4 x3 z51 y0 (aE y2 x3.at_ true) y1))))
     (
      .nl (([] : List Nat))
      (
       .nl (([] : List Nat))
       (
        .nl (([] : List Nat))
        (
         .nl (([] : List Nat))
         (
          .nl (([] : List Nat))
          (
           .bnd (ap y0.steps x3.at_) fun z52 =>
           .nl (([] : List Nat))
           (
            av (ai 0 Try.f38) (ah N N.n) x1_n x4 x3 z52 y0 (aE y2 x3.at_ true) y1)
           (
            av (ai 0 Try.f38) (ah N N.n) x1_n x4 x3 z52 y0 (aE y2 x3.at_ true) y1))
          (
           .bnd (ap y0.steps x3.at_) fun z53 =>
           av (ai 0 Try.f38) (ah N N.n) x1_n x4 x3 z53 y0 (aE y2 x3.at_ true) y1))
         (
          .bnd (ap y0.steps x3.at_) fun z54 =>
          av (ai 0 Try.f38) (ah N N.n) x1_n x4 x3 z54 y0 (aE y2 x3.at_ true) y1))
        (
         .bnd (ap y0.steps x3.at_) fun z55 =>
         av (ai 0 Try.f38) (ah N N.n) x1_n x4 x3 z55 y0 (aE y2 x3.at_ true) y1))
       (
        .bnd (ap y0.steps x3.at_) fun z56 =>
        av (ai 0 Try.f38) (ah N N.n) x1_n x4 x3 z56 y0 (aE y2 x3.at_ true) y1))
      (
       .nl (([] : List Nat))
       (
        .nl (([] : List Nat))
        (
         .nl (([] : List Nat))
         (
          .bnd (ap y0.steps x3.at_) fun z57 =>
          av (ai 0 Try.f38) (ah N N.n) x1_n x4 x3 z57 y0 (aE y2 x3.at_ true) y1)
         (
          .bnd (ap y0.steps x3.at_) fun z58 =>
          av (ai 0 Try.f38) (ah N N.n) x1_n x4 x3 z58 y0 (aE y2 x3.at_ true) y1))
        (
         .bnd (ap y0.steps x3.at_) fun z59 =>
         av (ai 0 Try.f38) (ah N N.n) x1_n x4 x3 z59 y0 (aE y2 x3.at_ true) y1))
       (
        .bnd (ap y0.steps x3.at_) fun z60 =>
        av (ai 0 Try.f38) (ah N N.n) x1_n x4 x3 z60 y0 (aE y2 x3.at_ true) y1))))
    (
     .nl (([] : List Nat))
     (
      .nl (([] : List Nat))
      (
       .nl (([] : List Nat))
       (
        .bnd (ap y0.steps x3.at_) fun z61 =>
        av (ai 0 Try.f38) (ah N N.n) x1_n x4 x3 z61 y0 (aE y2 x3.at_ true) y1)
       (
        .nl (([] : List Nat))
        (
         .bnd (ap y0.steps x3.at_) fun z62 =>
         av (ai 0 Try.f38) (ah N N.n) x1_n x4 x3 z62 y0 (aE y2 x3.at_ true) y1)
        (
         .bnd (ap y0.steps x3.at_) fun z63 =>
         av (ai 0 Try.f38) (ah N N.n) x1_n x4 x3 z63 y0 (aE y2 x3.at_ true) y1)))
      (
       .nl (([] : List Nat))
       (
        .nl (([] : List Nat))
        (
         .bnd (ap y0.steps x3.at_) fun z64 =>
         av (ai 0 Try.f38) (ah N N.n) x1_n x4 x3 z64 y0 (aE y2 x3.at_ true) y1)
        (
         .bnd (ap y0.steps x3.at_) fun z65 =>
         av (ai 0 Try.f38) (ah N N.n) x1_n x4 x3 z65 y0 (aE y2 x3.at_ true) y1))
       (
        .bnd (ap y0.steps x3.at_) fun z66 =>
        av (ai 0 Try.f38) (ah N N.n) x1_n x4 x3 z66 y0 (aE y2 x3.at_ true) y1)))
     (
      .nl (([] : List Nat))
      (
       .nl (([] : List Nat))
       (
        .nl (([] : List Nat))
        (
         .bnd (ap y0.steps x3.at_) fun z67 =>
         av (ai 0 Try.f38) (ah N N.n) x1_n x4 x3 z67 y0 (aE y2 x3.at_ true) y1)
        (
         .bnd (ap y0.steps x3.at_) fun z68 =>
         av (ai 0 Try.f38) (ah N N.n) x1_n x4 x3 z68 y0 (aE y2 x3.at_ true) y1))
       (
        .bnd (ap y0.steps x3.at_) fun z69 =>
        av (ai 0 Try.f38) (ah N N.n) x1_n x4 x3 z69 y0 (aE y2 x3.at_ true) y1))
      (
       .bnd (ap y0.steps x3.at_) fun z70 =>
       av (ai 0 Try.f38) (ah N N.n) x1_n x4 x3 z70 y0 (aE y2 x3.at_ true) y1)))))
  (
   .nl (([] : List Nat))
   (
    .nl (([] : List Nat))
    (
     .nl (([] : List Nat))
     (
      .nl (([] : List Nat))
      (
       .nl (([] : List Nat))
       (
        .nl (([] : List Nat))
        (
         .nl (([] : List Nat))
         (
          .bnd (ap y0.steps x3.at_) fun z71 =>
          .nl (([] : List Nat))
          (
           av (ai 0 Try.f38) (ah N N.n) x1_n x4 x3 z71 y0 (aE y2 x3.at_ true) y1)
          (
           av (ai 0 Try.f38) (ah N N.n) x1_n x4 x3 z71 y0 (aE y2 x3.at_ true) y1))
         (
          .bnd (ap y0.steps x3.at_) fun z72 =>
          av (ai 0 Try.f38) (ah N N.n) x1_n x4 x3 z72 y0 (aE y2 x3.at_ true) y1))
        (
         .bnd (ap y0.steps x3.at_) fun z73 =>
         av (ai 0 Try.f38) (ah N N.n) x1_n x4 x3 z73 y0 (aE y2 x3.at_ true) y1))
       (
        .nl (([] : List Nat))
        (
         .nl (([] : List Nat))
         (
          .nl (([] : List Nat))
          (
           .bnd (ap y0.steps x3.at_) fun z74 =>
           .nl (([] : List Nat))
           (
            av (ai 0 Try.f38) (ah N N.n) x1_n x4 x3 z74 y0 (aE y2 x3.at_ true) y1)
           (
            av (ai 0 Try.f38) (ah N N.n) x1_n x4 x3 z74 y0 (aE y2 x3.at_ true) y1))
          (
           .bnd (ap y0.steps x3.at_) fun z75 =>
           av (ai 0 Try.f38) (ah N N.n) x1_n x4 x3 z75 y0 (aE y2 x3.at_ true) y1))
         (
          .bnd (ap y0.steps x3.at_) fun z76 =>
          av (ai 0 Try.f38) (ah N N.n) x1_n x4 x3 z76 y0 (aE y2 x3.at_ true) y1))
        (
         .nl (([] : List Nat))
         (
          .bnd (ap y0.steps x3.at_) fun z77 =>
          av (ai 0 Try.f38) (ah N N.n) x1_n x4 x3 z77 y0 (aE y2 x3.at_ true) y1)
         (
          .bnd (ap y0.steps x3.at_) fun z78 =>
          av (ai 0 Try.f38) (ah N N.n) x1_n x4 x3 z78 y0 (aE y2 x3.at_ true) y1))))
      (
       .nl (([] : List Nat))
       (
        .nl (([] : List Nat))
        (
         .nl (([] : List Nat))
         (
          .nl (([] : List Nat))
          (
           .bnd (ap y0.steps x3.at_) fun z79 =>
           .nl (([] : List Nat))
           (
            av (ai 0 Try.f38) (ah N N.n) x1_n x4 x3 z79 y0 (aE y2 x3.at_ true) y1)
           (
            av (ai 0 Try.f38) (ah N N.n) x1_n x4 x3 z79 y0 (aE y2 x3.at_ true) y1))
          (
           .bnd (ap y0.steps x3.at_) fun z80 =>
           av (ai 0 Try.f38) (ah N N.n) x1_n x4 x3 z80 y0 (aE y2 x3.at_ true) y1))
         (
          .bnd (ap y0.steps x3.at_) fun z81 =>
          av (ai 0 Try.f38) (ah N N.n) x1_n x4 x3 z81 y0 (aE y2 x3.at_ true) y1))
        (
         .bnd (ap y0.steps x3.at_) fun z82 =>
         av (ai 0 Try.f38) (ah N N.n) x1_n x4 x3 z82 y0 (aE y2 x3.at_ true) y1))
       (
        .nl (([] : List Nat))
        (
         .nl (([] : List Nat))
         (
          .bnd (ap y0.steps x3.at_) fun z83 =>
          av (ai 0 Try.f38) (ah N N.n) x1_n x4 x3 z83 y0 (aE y2 x3.at_ true) y1)
         (
          .bnd (ap y0.steps x3.at_) fun z84 =>
          av (ai 0 Try.f38) (ah N N.n) x1_n x4 x3 z84 y0 (aE y2 x3.at_ true) y1))
        (
         .bnd (ap y0.steps x3.at_) fun z85 =>
         av (ai 0 Try.f38) (ah N N.n) x1_n x4 x3 z85 y0 (aE y2 x3.at_ true) y1))))
     (
      .nl (([] : List Nat))
      (
       .nl (([] : List Nat))
       (
        .nl (([] : List Nat))
        (
         .nl (([] : List Nat))
         (
          .nl (([] : List Nat))
          (
           .bnd (ap y0.steps x3.at_) fun z86 =>
           .nl (([] : List Nat))
           (
            av (ai 0 Try.f38) (ah N N.n) x1_n x4 x3 z86 y0 (aE y2 x3.at_ true) y1)
           (
            av (ai 0 Try.f38) (ah N N.n) x1_n x4 x3 z86 y0 (aE y2 x3.at_ true) y1))
          (
           .bnd (ap y0.steps x3.at_) fun z87 =>
           av (ai 0 Try.f38) (ah N N.n) x1_n x4 x3 z87 y0 (aE y2 x3.at_ true) y1))
         (
          .bnd (ap y0.steps x3.at_) fun z88 =>
          av (ai 0 Try.f38) (ah N N.n) x1_n x4 x3 z88 y0 (aE y2 x3.at_ true) y1))
        (
         .bnd (ap y0.steps x3.at_) fun z89 =>
         av (ai 0 Try.f38) (ah N N.n) x1_n x4 x3 z89 y0 (aE y2 x3.at_ true) y1))
       (
        .bnd (ap y0.steps x3.at_) fun z90 =>
        av (ai 0 Try.f38) (ah N N.n) x1_n x4 x3 z90 y0 (aE y2 x3.at_ true) y1))
      (
       .nl (([] : List Nat))
       (
        .nl (([] : List Nat))
        (
         .nl (([] : List Nat))
         (
          .bnd (ap y0.steps x3.at_) fun z91 =>
          av (ai 0 Try.f38) (ah N N.n) x1_n x4 x3 z91 y0 (aE y2 x3.at_ true) y1)
         (
          .bnd (ap y0.steps x3.at_) fun z92 =>
          av (ai 0 Try.f38) (ah N N.n) x1_n x4 x3 z92 y0 (aE y2 x3.at_ true) y1))
        (
         .bnd (ap y0.steps x3.at_) fun z93 =>
         av (ai 0 Try.f38) (ah N N.n) x1_n x4 x3 z93 y0 (aE y2 x3.at_ true) y1))
       (
        .bnd (ap y0.steps x3.at_) fun z94 =>
        av (ai 0 Try.f38) (ah N N.n) x1_n x4 x3 z94 y0 (aE y2 x3.at_ true) y1))))
    (
     .nl (([] : List Nat))
     (
      .nl (([] : List Nat))
      (
       .nl (([] : List Nat))
       (
        .nl (([] : List Nat))
        (
         .nl (([] : List Nat))
         (
          .nl (([] : List Nat))
          (
           .bnd (ap y0.steps x3.at_) fun z95 =>
           .nl (([] : List Nat))
           (
            av (ai 0 Try.f38) (ah N N.n) x1_n x4 x3 z95 y0 (aE y2 x3.at_ true) y1)
           (
            av (ai 0 Try.f38) (ah N N.n) x1_n x4 x3 z95 y0 (aE y2 x3.at_ true) y1))
          (
           .bnd (ap y0.steps x3.at_) fun z96 =>
           av (ai 0 Try.f38) (ah N N.n) x1_n x4 x3 z96 y0 (aE y2 x3.at_ true) y1))
         (
          .bnd (ap y0.steps x3.at_) fun z97 =>
          av (ai 0 Try.f38) (ah N N.n) x1_n x4 x3 z97 y0 (aE y2 x3.at_ true) y1))
        (
         .bnd (ap y0.steps x3.at_) fun z98 =>
         av (ai 0 Try.f38) (ah N N.n) x1_n x4 x3 z98 y0 (aE y2 x3.at_ true) y1))
       (
        .bnd (ap y0.steps x3.at_) fun z99 =>
        av (ai 0 Try.f38) (ah N N.n) x1_n x4 x3 z99 y0 (aE y2 x3.at_ true) y1))
      (
       .bnd (ap y0.steps x3.at_) fun z100 =>
       av (ai 0 Try.f38) (ah N N.n) x1_n x4 x3 z100 y0 (aE y2 x3.at_ true) y1))
     (
      .nl (([] : List Nat))
      (
       .nl (([] : List Nat))
       (
        .nl (([] : List Nat))
        (
         .nl (([] : List Nat))
         (
          .bnd (ap y0.steps x3.at_) fun z101 =>
          av (ai 0 Try.f38) (ah N N.n) x1_n x4 x3 z101 y0 (aE y2 x3.at_ true) y1)
         (
          .bnd (ap y0.steps x3.at_) fun z102 =>
          av (ai 0 Try.f38) (ah N N.n) x1_n x4 x3 z102 y0 (aE y2 x3.at_ true) y1))
        (
         .bnd (ap y0.steps x3.at_) fun z103 =>
         av (ai 0 Try.f38) (ah N N.n) x1_n x4 x3 z103 y0 (aE y2 x3.at_ true) y1))
       (
        .bnd (ap y0.steps x3.at_) fun z104 =>
        av (ai 0 Try.f38) (ah N N.n) x1_n x4 x3 z104 y0 (aE y2 x3.at_ true) y1))
      (
       .bnd (ap y0.steps x3.at_) fun z105 =>
       av (ai 0 Try.f38) (ah N N.n) x1_n x4 x3 z105 y0 (aE y2 x3.at_ true) y1))))
   (
    .nl (([] : List Nat))
    (
     .nl (([] : List Nat))
     (
      .nl (([] : List Nat))
      (
       .nl (([] : List Nat))
       (
        .bnd (ap y0.steps x3.at_) fun z106 =>
        av (ai 0 Try.f38) (ah N N.n) x1_n x4 x3 z106 y0 (aE y2 x3.at_ true) y1)
       (
        .nl (([] : List Nat))
        (
         .bnd (ap y0.steps x3.at_) fun z107 =>
         av (ai 0 Try.f38) (ah N N.n) x1_n x4 x3 z107 y0 (aE y2 x3.at_ true) y1)
        (
         .bnd (ap y0.steps x3.at_) fun z108 =>
         av (ai 0 Try.f38) (ah N N.n) x1_n x4 x3 z108 y0 (aE y2 x3.at_ true) y1)))
      (
       .nl (([] : List Nat))
       (
        .nl (([] : List Nat))
        (
         .bnd (ap y0.steps x3.at_) fun z109 =>
         av (ai 0 Try.f38) (ah N N.n) x1_n x4 x3 z109 y0 (aE y2 x3.at_ true) y1)
        (
         .bnd (ap y0.steps x3.at_) fun z110 =>
         av (ai 0 Try.f38) (ah N N.n) x1_n x4 x3 z110 y0 (aE y2 x3.at_ true) y1))
       (
        .bnd (ap y0.steps x3.at_) fun z111 =>
        av (ai 0 Try.f38) (ah N N.n) x1_n x4 x3 z111 y0 (aE y2 x3.at_ true) y1)))
     (
      .nl (([] : List Nat))
      (
       .nl (([] : List Nat))
       (
        .nl (([] : List Nat))
        (
         .bnd (ap y0.steps x3.at_) fun z112 =>
         av (ai 0 Try.f38) (ah N N.n) x1_n x4 x3 z112 y0 (aE y2 x3.at_ true) y1)
        (
         .bnd (ap y0.steps x3.at_) fun z113 =>
         av (ai 0 Try.f38) (ah N N.n) x1_n x4 x3 z113 y0 (aE y2 x3.at_ true) y1))
       (
        .bnd (ap y0.steps x3.at_) fun z114 =>
        av (ai 0 Try.f38) (ah N N.n) x1_n x4 x3 z114 y0 (aE y2 x3.at_ true) y1))
      (
       .bnd (ap y0.steps x3.at_) fun z115 =>
       av (ai 0 Try.f38) (ah N N.n) x1_n x4 x3 z115 y0 (aE y2 x3.at_ true) y1)))
    (
     .nl (([] : List Nat))
     (
      .nl (([] : List Nat))
      (
       .nl (([] : List Nat))
       (
        .nl (([] : List Nat))
        (
         .bnd (ap y0.steps x3.at_) fun z116 =>
         av (ai 0 Try.f38) (ah N N.n) x1_n x4 x3 z116 y0 (aE y2 x3.at_ true) y1)
        (
         .bnd (ap y0.steps x3.at_) fun z117 =>
         av (ai 0 Try.f38) (ah N N.n) x1_n x4 x3 z117 y0 (aE y2 x3.at_ true) y1))
       (
        .bnd (ap y0.steps x3.at_) fun z118 =>
        av (ai 0 Try.f38) (ah N N.n) x1_n x4 x3 z118 y0 (aE y2 x3.at_ true) y1))
      (
       .bnd (ap y0.steps x3.at_) fun z119 =>
       av (ai 0 Try.f38) (ah N N.n) x1_n x4 x3 z119 y0 (aE y2 x3.at_ true) y1))
     (
      .bnd (ap y0.steps x3.at_) fun z120 =>
      av (ai 0 Try.f38) (ah N N.n) x1_n x4 x3 z120 y0 (aE y2 x3.at_ true) y1)))))) (by kernel_rfl) (by kernel_rfl) h (⟨bc (enc := eL) rfl,⟨fun _ _ h => Eq.trans (by kernel_rfl) h,⟨fun _ _ h => Eq.trans (by kernel_rfl) h,⟨fun _ _ h => Eq.trans (by kernel_rfl) h,⟨fun _ _ h => Eq.trans (by kernel_rfl) h,⟨fun _ _ h => Eq.trans (by kernel_rfl) h,⟨fun _ _ h => Eq.trans (by kernel_rfl) h,⟨fun _ _ h => Eq.trans (by kernel_rfl) h,fun _ => ⟨fun _ _ h => Eq.trans (by kernel_rfl) h,fun h => au N.n _ _ _ _ _ _ _ h,fun h => au N.n _ _ _ _ _ _ _ h⟩,fun _ => fun h => au N.n _ _ _ _ _ _ _ h⟩,fun _ => fun h => au N.n _ _ _ _ _ _ _ h⟩,fun _ => fun h => au N.n _ _ _ _ _ _ _ h⟩,⟨fun _ _ h => Eq.trans (by kernel_rfl) h,⟨fun _ _ h => Eq.trans (by kernel_rfl) h,⟨fun _ _ h => Eq.trans (by kernel_rfl) h,⟨fun _ _ h => Eq.trans (by kernel_rfl) h,fun _ => ⟨fun _ _ h => Eq.trans (by kernel_rfl) h,fun h => au N.n _ _ _ _ _ _ _ h,fun h => au N.n _ _ _ _ _ _ _ h⟩,fun _ => fun h => au N.n _ _ _ _ _ _ _ h⟩,fun _ => fun h => au N.n _ _ _ _ _ _ _ h⟩,⟨fun _ _ h => Eq.trans (by kernel_rfl) h,⟨fun _ _ h => Eq.trans (by kernel_rfl) h,⟨fun _ _ h => Eq.trans (by kernel_rfl) h,fun _ => ⟨fun _ _ h => Eq.trans (by kernel_rfl) h,fun h => au N.n _ _ _ _ _ _ _ h,fun h => au N.n _ _ _ _ _ _ _ h⟩,fun _ => fun h => au N.n _ _ _ _ _ _ _ h⟩,fun _ => fun h => au N.n _ _ _ _ _ _ _ h⟩,⟨fun _ _ h => Eq.trans (by kernel_rfl) h,fun _ => fun h => au N.n _ _ _ _ _ _ _ h,fun _ => fun h => au N.n _ _ _ _ _ _ _ h⟩⟩⟩,⟨fun _ _ h => Eq.trans (by kernel_rfl) h,fun _ => fun h => au N.n _ _ _ _ _ _ _ h,⟨fun _ _ h => Eq.trans (by kernel_rfl) h,fun _ => fun h => au N.n _ _ _ _ _ _ _ h,fun _ => fun h => au N.n _ _ _ _ _ _ _ h⟩⟩⟩⟩,⟨fun _ _ h => Eq.trans (by kernel_rfl) h,⟨fun _ _ h => Eq.trans (by kernel_rfl) h,⟨fun _ _ h => Eq.trans (by kernel_rfl) h,⟨fun _ _ h => Eq.trans (by kernel_rfl) h,⟨fun _ _ h => Eq.trans (by kernel_rfl) h,fun _ => ⟨fun _ _ h => Eq.trans (by kernel_rfl) h,fun h => au N.n _ _ _ _ _ _ _ h,fun h => au N.n _ _ _ _ _ _ _ h⟩,fun _ => fun h => au N.n _ _ _ _ _ _ _ h⟩,fun _ => fun h => au N.n _ _ _ _ _ _ _ h⟩,⟨fun _ _ h => Eq.trans (by kernel_rfl) h,⟨fun _ _ h => Eq.trans (by kernel_rfl) h,⟨fun _ _ h => Eq.trans (by kernel_rfl) h,fun _ => ⟨fun _ _ h => Eq.trans (by kernel_rfl) h,fun h => au N.n _ _ _ _ _ _ _ h,fun h => au N.n _ _ _ _ _ _ _ h⟩,fun _ => fun h => au N.n _ _ _ _ _ _ _ h⟩,fun _ => fun h => au N.n _ _ _ _ _ _ _ h⟩,⟨fun _ _ h => Eq.trans (by kernel_rfl) h,fun _ => fun h => au N.n _ _ _ _ _ _ _ h,fun _ => fun h => au N.n _ _ _ _ _ _ _ h⟩⟩⟩,⟨fun _ _ h => Eq.trans (by kernel_rfl) h,⟨fun _ _ h => Eq.trans (by kernel_rfl) h,⟨fun _ _ h => Eq.trans (by kernel_rfl) h,⟨fun _ _ h => Eq.trans (by kernel_rfl) h,fun _ => ⟨fun _ _ h => Eq.trans (by kernel_rfl) h,fun h => au N.n _ _ _ _ _ _ _ h,fun h => au N.n _ _ _ _ _ _ _ h⟩,fun _ => fun h => au N.n _ _ _ _ _ _ _ h⟩,fun _ => fun h => au N.n _ _ _ _ _ _ _ h⟩,fun _ => fun h => au N.n _ _ _ _ _ _ _ h⟩,⟨fun _ _ h => Eq.trans (by kernel_rfl) h,⟨fun _ _ h => Eq.trans (by kernel_rfl) h,fun _ => fun h => au N.n _ _ _ _ _ _ _ h,fun _ => fun h => au N.n _ _ _ _ _ _ _ h⟩,fun _ => fun h => au N.n _ _ _ _ _ _ _ h⟩⟩⟩,⟨fun _ _ h => Eq.trans (by kernel_rfl) h,⟨fun _ _ h => Eq.trans (by kernel_rfl) h,fun _ => fun h => au N.n _ _ _ _ _ _ _ h,⟨fun _ _ h => Eq.trans (by kernel_rfl) h,fun _ => fun h => au N.n _ _ _ _ _ _ _ h,fun _ => fun h => au N.n _ _ _ _ _ _ _ h⟩⟩,⟨fun _ _ h => Eq.trans (by kernel_rfl) h,⟨fun _ _ h => Eq.trans (by kernel_rfl) h,fun _ => fun h => au N.n _ _ _ _ _ _ _ h,fun _ => fun h => au N.n _ _ _ _ _ _ _ h⟩,fun _ => fun h => au N.n _ _ _ _ _ _ _ h⟩⟩⟩⟩,⟨fun _ _ h => Eq.trans (by kernel_rfl) h,⟨fun _ _ h => Eq.trans (by kernel_rfl) h,⟨fun _ _ h => Eq.trans (by kernel_rfl) h,⟨fun _ _ h => Eq.trans (by kernel_rfl) h,⟨fun _ _ h => Eq.trans (by kernel_rfl) h,⟨fun _ _ h => Eq.trans (by kernel_rfl) h,fun _ => ⟨fun _ _ h => Eq.trans (by kernel_rfl) h,fun h => au N.n _ _ _ _ _ _ _ h,fun h => au N.n _ _ _ _ _ _ _ h⟩,fun _ => fun h => au N.n _ _ _ _ _ _ _ h⟩,fun _ => fun h => au N.n _ _ _ _ _ _ _ h⟩,⟨fun _ _ h => Eq.trans (by kernel_rfl) h,⟨fun _ _ h => Eq.trans (by kernel_rfl) h,⟨fun _ _ h => Eq.trans (by kernel_rfl) h,fun _ => ⟨fun _ _ h => Eq.trans (by kernel_rfl) h,fun h => au N.n _ _ _ _ _ _ _ h,fun h => au N.n _ _ _ _ _ _ _ h⟩,fun _ => fun h => au N.n _ _ _ _ _ _ _ h⟩,fun _ => fun h => au N.n _ _ _ _ _ _ _ h⟩,⟨fun _ _ h => Eq.trans (by kernel_rfl) h,fun _ => fun h => au N.n _ _ _ _ _ _ _ h,fun _ => fun h => au N.n _ _ _ _ _ _ _ h⟩⟩⟩,⟨fun _ _ h => Eq.trans (by kernel_rfl) h,⟨fun _ _ h => Eq.trans (by kernel_rfl) h,⟨fun _ _ h => Eq.trans (by kernel_rfl) h,⟨fun _ _ h => Eq.trans (by kernel_rfl) h,fun _ => ⟨fun _ _ h => Eq.trans (by kernel_rfl) h,fun h => au N.n _ _ _ _ _ _ _ h,fun h => au N.n _ _ _ _ _ _ _ h⟩,fun _ => fun h => au N.n _ _ _ _ _ _ _ h⟩,fun _ => fun h => au N.n _ _ _ _ _ _ _ h⟩,fun _ => fun h => au N.n _ _ _ _ _ _ _ h⟩,⟨fun _ _ h => Eq.trans (by kernel_rfl) h,⟨fun _ _ h => Eq.trans (by kernel_rfl) h,fun _ => fun h => au N.n _ _ _ _ _ _ _ h,fun _ => fun h => au N.n _ _ _ _ _ _ _ h⟩,fun _ => fun h => au N.n _ _ _ _ _ _ _ h⟩⟩⟩,⟨fun _ _ h => Eq.trans (by kernel_rfl) h,⟨fun _ _ h => Eq.trans (by kernel_rfl) h,⟨fun _ _ h => Eq.trans (by kernel_rfl) h,⟨fun _ _ h => Eq.trans (by kernel_rfl) h,⟨fun _ _ h => Eq.trans (by kernel_rfl) h,fun _ => ⟨fun _ _ h => Eq.trans (by kernel_rfl) h,fun h => au N.n _ _ _ _ _ _ _ h,fun h => au N.n _ _ _ _ _ _ _ h⟩,fun _ => fun h => au N.n _ _ _ _ _ _ _ h⟩,fun _ => fun h => au N.n _ _ _ _ _ _ _ h⟩,fun _ => fun h => au N.n _ _ _ _ _ _ _ h⟩,fun _ => fun h => au N.n _ _ _ _ _ _ _ h⟩,⟨fun _ _ h => Eq.trans (by kernel_rfl) h,⟨fun _ _ h => Eq.trans (by kernel_rfl) h,⟨fun _ _ h => Eq.trans (by kernel_rfl) h,fun _ => fun h => au N.n _ _ _ _ _ _ _ h,fun _ => fun h => au N.n _ _ _ _ _ _ _ h⟩,fun _ => fun h => au N.n _ _ _ _ _ _ _ h⟩,fun _ => fun h => au N.n _ _ _ _ _ _ _ h⟩⟩⟩,⟨fun _ _ h => Eq.trans (by kernel_rfl) h,⟨fun _ _ h => Eq.trans (by kernel_rfl) h,⟨fun _ _ h => Eq.trans (by kernel_rfl) h,fun _ => fun h => au N.n _ _ _ _ _ _ _ h,⟨fun _ _ h => Eq.trans (by kernel_rfl) h,fun _ => fun h => au N.n _ _ _ _ _ _ _ h,fun _ => fun h => au N.n _ _ _ _ _ _ _ h⟩⟩,⟨fun _ _ h => Eq.trans (by kernel_rfl) h,⟨fun _ _ h => Eq.trans (by kernel_rfl) h,fun _ => fun h => au N.n _ _ _ _ _ _ _ h,fun _ => fun h => au N.n _ _ _ _ _ _ _ h⟩,fun _ => fun h => au N.n _ _ _ _ _ _ _ h⟩⟩,⟨fun _ _ h => Eq.trans (by kernel_rfl) h,⟨fun _ _ h => Eq.trans (by kernel_rfl) h,⟨fun _ _ h => Eq.trans (by kernel_rfl) h,fun _ => fun h => au N.n _ _ _ _ _ _ _ h,fun _ => fun h => au N.n _ _ _ _ _ _ _ h⟩,fun _ => fun h => au N.n _ _ _ _ _ _ _ h⟩,fun _ => fun h => au N.n _ _ _ _ _ _ _ h⟩⟩⟩⟩,⟨fun _ _ h => Eq.trans (by kernel_rfl) h,⟨fun _ _ h => Eq.trans (by kernel_rfl) h,⟨fun _ _ h => Eq.trans (by kernel_rfl) h,⟨fun _ _ h => Eq.trans (by kernel_rfl) h,⟨fun _ _ h => Eq.trans (by kernel_rfl) h,⟨fun _ _ h => Eq.trans (by kernel_rfl) h,⟨fun _ _ h => Eq.trans (by kernel_rfl) h,fun _ => ⟨fun _ _ h => Eq.trans (by kernel_rfl) h,fun h => au N.n _ _ _ _ _ _ _ h,fun h => au N.n _ _ _ _ _ _ _ h⟩,fun _ => fun h => au N.n _ _ _ _ _ _ _ h⟩,fun _ => fun h => au N.n _ _ _ _ _ _ _ h⟩,⟨fun _ _ h => Eq.trans (by kernel_rfl) h,⟨fun _ _ h => Eq.trans (by kernel_rfl) h,⟨fun _ _ h => Eq.trans (by kernel_rfl) h,fun _ => ⟨fun _ _ h => Eq.trans (by kernel_rfl) h,fun h => au N.n _ _ _ _ _ _ _ h,fun h => au N.n _ _ _ _ _ _ _ h⟩,fun _ => fun h => au N.n _ _ _ _ _ _ _ h⟩,fun _ => fun h => au N.n _ _ _ _ _ _ _ h⟩,⟨fun _ _ h => Eq.trans (by kernel_rfl) h,fun _ => fun h => au N.n _ _ _ _ _ _ _ h,fun _ => fun h => au N.n _ _ _ _ _ _ _ h⟩⟩⟩,⟨fun _ _ h => Eq.trans (by kernel_rfl) h,⟨fun _ _ h => Eq.trans (by kernel_rfl) h,⟨fun _ _ h => Eq.trans (by kernel_rfl) h,⟨fun _ _ h => Eq.trans (by kernel_rfl) h,fun _ => ⟨fun _ _ h => Eq.trans (by kernel_rfl) h,fun h => au N.n _ _ _ _ _ _ _ h,fun h => au N.n _ _ _ _ _ _ _ h⟩,fun _ => fun h => au N.n _ _ _ _ _ _ _ h⟩,fun _ => fun h => au N.n _ _ _ _ _ _ _ h⟩,fun _ => fun h => au N.n _ _ _ _ _ _ _ h⟩,⟨fun _ _ h => Eq.trans (by kernel_rfl) h,⟨fun _ _ h => Eq.trans (by kernel_rfl) h,fun _ => fun h => au N.n _ _ _ _ _ _ _ h,fun _ => fun h => au N.n _ _ _ _ _ _ _ h⟩,fun _ => fun h => au N.n _ _ _ _ _ _ _ h⟩⟩⟩,⟨fun _ _ h => Eq.trans (by kernel_rfl) h,⟨fun _ _ h => Eq.trans (by kernel_rfl) h,⟨fun _ _ h => Eq.trans (by kernel_rfl) h,⟨fun _ _ h => Eq.trans (by kernel_rfl) h,⟨fun _ _ h => Eq.trans (by kernel_rfl) h,fun _ => ⟨fun _ _ h => Eq.trans (by kernel_rfl) h,fun h => au N.n _ _ _ _ _ _ _ h,fun h => au N.n _ _ _ _ _ _ _ h⟩,fun _ => fun h => au N.n _ _ _ _ _ _ _ h⟩,fun _ => fun h => au N.n _ _ _ _ _ _ _ h⟩,fun _ => fun h => au N.n _ _ _ _ _ _ _ h⟩,fun _ => fun h => au N.n _ _ _ _ _ _ _ h⟩,⟨fun _ _ h => Eq.trans (by kernel_rfl) h,⟨fun _ _ h => Eq.trans (by kernel_rfl) h,⟨fun _ _ h => Eq.trans (by kernel_rfl) h,fun _ => fun h => au N.n _ _ _ _ _ _ _ h,fun _ => fun h => au N.n _ _ _ _ _ _ _ h⟩,fun _ => fun h => au N.n _ _ _ _ _ _ _ h⟩,fun _ => fun h => au N.n _ _ _ _ _ _ _ h⟩⟩⟩,⟨fun _ _ h => Eq.trans (by kernel_rfl) h,⟨fun _ _ h => Eq.trans (by kernel_rfl) h,⟨fun _ _ h => Eq.trans (by kernel_rfl) h,⟨fun _ _ h => Eq.trans (by kernel_rfl) h,⟨fun _ _ h => Eq.trans (by kernel_rfl) h,⟨fun _ _ h => Eq.trans (by kernel_rfl) h,fun _ => ⟨fun _ _ h => Eq.trans (by kernel_rfl) h,fun h => au N.n _ _ _ _ _ _ _ h,fun h => au N.n _ _ _ _ _ _ _ h⟩,fun _ => fun h => au N.n _ _ _ _ _ _ _ h⟩,fun _ => fun h => au N.n _ _ _ _ _ _ _ h⟩,fun _ => fun h => au N.n _ _ _ _ _ _ _ h⟩,fun _ => fun h => au N.n _ _ _ _ _ _ _ h⟩,fun _ => fun h => au N.n _ _ _ _ _ _ _ h⟩,⟨fun _ _ h => Eq.trans (by kernel_rfl) h,⟨fun _ _ h => Eq.trans (by kernel_rfl) h,⟨fun _ _ h => Eq.trans (by kernel_rfl) h,⟨fun _ _ h => Eq.trans (by kernel_rfl) h,fun _ => fun h => au N.n _ _ _ _ _ _ _ h,fun _ => fun h => au N.n _ _ _ _ _ _ _ h⟩,fun _ => fun h => au N.n _ _ _ _ _ _ _ h⟩,fun _ => fun h => au N.n _ _ _ _ _ _ _ h⟩,fun _ => fun h => au N.n _ _ _ _ _ _ _ h⟩⟩⟩,⟨fun _ _ h => Eq.trans (by kernel_rfl) h,⟨fun _ _ h => Eq.trans (by kernel_rfl) h,⟨fun _ _ h => Eq.trans (by kernel_rfl) h,⟨fun _ _ h => Eq.trans (by kernel_rfl) h,fun _ => fun h => au N.n _ _ _ _ _ _ _ h,⟨fun _ _ h => Eq.trans (by kernel_rfl) h,fun _ => fun h => au N.n _ _ _ _ _ _ _ h,fun _ => fun h => au N.n _ _ _ _ _ _ _ h⟩⟩,⟨fun _ _ h => Eq.trans (by kernel_rfl) h,⟨fun _ _ h => Eq.trans (by kernel_rfl) h,fun _ => fun h => au N.n _ _ _ _ _ _ _ h,fun _ => fun h => au N.n _ _ _ _ _ _ _ h⟩,fun _ => fun h => au N.n _ _ _ _ _ _ _ h⟩⟩,⟨fun _ _ h => Eq.trans (by kernel_rfl) h,⟨fun _ _ h => Eq.trans (by kernel_rfl) h,⟨fun _ _ h => Eq.trans (by kernel_rfl) h,fun _ => fun h => au N.n _ _ _ _ _ _ _ h,fun _ => fun h => au N.n _ _ _ _ _ _ _ h⟩,fun _ => fun h => au N.n _ _ _ _ _ _ _ h⟩,fun _ => fun h => au N.n _ _ _ _ _ _ _ h⟩⟩,⟨fun _ _ h => Eq.trans (by kernel_rfl) h,⟨fun _ _ h => Eq.trans (by kernel_rfl) h,⟨fun _ _ h => Eq.trans (by kernel_rfl) h,⟨fun _ _ h => Eq.trans (by kernel_rfl) h,fun _ => fun h => au N.n _ _ _ _ _ _ _ h,fun _ => fun h => au N.n _ _ _ _ _ _ _ h⟩,fun _ => fun h => au N.n _ _ _ _ _ _ _ h⟩,fun _ => fun h => au N.n _ _ _ _ _ _ _ h⟩,fun _ => fun h => au N.n _ _ _ _ _ _ _ h⟩⟩⟩⟩⟩)
def BI (x1_n : Nat) (x3 : Vthread) (x4 : Int) (y0 : VMask) (y1 : List Vthread) (y2 : List (Int × Bool)) : List (TV EE.T) := [.a (.box 100000 0),.a (.vec (.nam 10) 200001 x1_n),.a (.mpr 100002),.ag (ev EE (.nam 10) x3),.a (.d (.int .i64) x4)]
def xq (x1_n : Nat) (x3 : Vthread) (x4 : Int) (y0 : VMask) (y1 : List Vthread) (y2 : List (Int × Bool)) : List (Nat × TB EE.T) := [(100000,.cs (ev EE (.nam 8) y0)),(200001,.vec 200001 (.nam 10) y1),(100002,.imap .bool y2)]
theorem nJ {N : RecC2} (hN : qz N) (x1_n : Nat) (x3 : Vthread) (x4 : Int) (y0 : VMask) (y1 : List Vthread) (y2 : List (Int × Bool)) {r : PR bm} (h : fM N x1_n x3 x4 y0 y1 y2 = some r) (ρ : Rn) (hi : Inj ρ (xq x1_n x3 x4 y0 y1 y2)) : aT Try.prog 38 ((BI x1_n x3 x4 y0 y1 y2).map (TV.to EE.toEnc ρ)) (hTo EE.toEnc ρ (xq x1_n x3 x4 y0 y1 y2)) (da EE ρ fun u => u = eL r) :=
 eW (ai 0 Try.f38) 89 mixed (Du N hN) Try.func38 (by kernel_rfl) rfl rfl rfl rfl (F6 x1_n x3 x4 y0 y1 y2 h) ρ hi
def n8 (N : RecC2) (us : List (TV EE.T)) (hs : List (Nat × TB EE.T)) : XR EE.T :=
 gdX (fx us 5) <|
 bnX (aB us 0) fun i0 =>
 bnX (aVi (.nam 10) us 1) fun i1 =>
 bnX (aVn (.nam 10) us 1) fun x1_n =>
 bnX (aM us 2) fun i2 =>
 bnX (aS EE 10 us 3) fun x3 =>
 bnX (aD (.int .i64) us 4) fun x4 =>
 bnX (bS EE 8 hs i0) fun y0 =>
 bnX (bV (.nam 10) hs i1) fun y1 =>
 bnX (bI .bool hs i2) fun y2 =>
 gdX (bR hs [i0,i1,i2]) <|
 gdX (gV [i0,i1,i2]) <|
 .mv (fM N x1_n x3 x4 y0 y1 y2) [i0,i1,i2] (mvL [i0,i1,i2] [100000,200001,100002]) 0 (eS i0 i1 i2) (rp i0 i1 i2)
theorem lY (N : RecC2) (hN : qz N) : XOk Try.prog EE 38 (n8 N) := fun us hs =>
 a7 fun h1 => aA fun i0 h2 => aA fun i1 h3 => aA fun x1_n h4 => aA fun i2 h5 => aA fun x3 h6 => aA fun x4 h7 => aA fun y0 h8 => aA fun y1 h9 => aA fun y2 h10 => a7 fun h11 => a7 fun h12 => fun p hz ρ hi => fN (ex := []) (ks := [100000,200001,100002]) (us' := BI x1_n x3 x4 y0 y1 y2) (h0 := xq x1_n x3 x4 y0 y1 y2) (ρ' := lO ρ [i0,i1,i2]) (uc := eS 100000 200001 100002) (u := eS i0 i1 i2) (hc := rp 100000 200001 100002) (h := rp i0 i1 i2) hi h11 (by kernel_rfl) ⟨iF h2 (by kernel_rfl),Jz h3 h4 (by kernel_rfl),I5 h5 (by kernel_rfl),FW h6,lZ h7,ce h1⟩ ⟨(by kernel_rfl),DR h8,(by kernel_rfl),i6 h9 (by kernel_rfl),(by kernel_rfl),IV h10,trivial⟩ ⟨.inr rfl,.inl rfl,.inr rfl,trivial⟩ h12 (fun hj => nJ hN x1_n x3 x4 y0 y1 y2 hz _ hj) (fun z => ⟨by kernel_rfl,by kernel_rfl,by kernel_rfl,by kernel_rfl⟩)
theorem jH (n0 : Nat) : ∀ m, qz ⟨n0, eZ n0 m⟩
 | 0 => CD n0
 | m + 1 => lY ⟨n0,eZ n0 m⟩ (jH n0 m)
def gK (N : Nat) : List (TV EE.T) → List (Nat × TB EE.T) → XR EE.T := fk ⟨N,eZ N N⟩
theorem iG (N : Nat) : XOk Try.prog EE 38 (gK N) := jH N N
end Go.Proofs.Ytlhjbhgkhpbnfaa
namespace Go.Proofs.Ytlhjbhgkhpbnfaa
open Go.RowKit P
set_option linter.unusedSimpArgs false
set_option linter.unusedVariables false
attribute [local irreducible] AS.nf OpV be Stk lm Ex aT cy Es Fj Awp Kb Ck mP kV La Lu rY
set_option maxHeartbeats 8000000
def lfs {T : Nat → Type} : Tree (OL T) → List (TS T)
 | .leaf (.st s) => [s]
 | .nl [] a b => lfs a ++ lfs b
 | _ => []
def okL {T : Nat → Type} : Tree (OL T) → Bool
 | .leaf (.st _) => true
 | .nl [] a b => okL a && okL b
 | _ => false
theorem qp {T : Nat → Type} {R : OL T → Prop} : ∀ {t : Tree (OL T)}, okL t = true → (∀ s ∈ lfs t, R (.st s)) → t.holds R
 | .leaf (.st s),_,h => h s (List.mem_singleton_self s)
 | .leaf (.pan v),h0,_ => by cases h0
 | .nl [] a b, h0, h => by
   simp only [okL,Bool.and_eq_true] at h0
   exact ⟨fun _ => qp h0.1 fun s hs => h s (List.mem_append.2 (.inl hs)),qp h0.2 fun s hs => h s (List.mem_append.2 (.inr hs))⟩
 | .nl (_ :: _) a b,h0,_ => by cases h0
 | .cond _ _ _,h0,_ => by cases h0
 | .bnd _ _,h0,_ => by cases h0
 | .sm _ _ _,h0,_ => by cases h0
 | .fail,h0,_ => by cases h0
def Bm : List Oper := [{ dst := some 10, op := Op.load 28 (Operand.tmp 2), type := 28, pos := "mask.go:248", after := #[{ on := 1, ground := Ground.gcOnly Departure.lateStores }], guard := none },
 { dst := none,op := Op.store 54 (Operand.tmp 0) (Operand.const (Value.pointer none)),type := 0,pos := "mask.go:248",after := #[{ on := 0,ground := Ground.textOnly Departure.lateStores }],guard := none },
 { dst := none,op := Op.store 28 (Operand.tmp 1) (Operand.tmp 10),type := 0,pos := "mask.go:248",after := #[{ on := 0,ground := Ground.data },{ on := 1,ground := Ground.chain },{ on := 0,ground := Ground.phase },{ on := 1,ground := Ground.phase }],guard := none }]
def cpT (e a : Int) : TS EE.T := ⟨11,[(0,.a (.box 100000 0)),(1,.a (.box 100001 0)),(2,.a (.box 100002 0)),(3,.a .tt),(9,.a .tt)],[(100002,.cs [.d (.int .i64) e,.d (.int .i64) a]),(100000,.cs [.raw (.pointer none)]),(100001,.cs [.d (.int .i64) (0 : Int),.d (.int .i64) (0 : Int)])],[]⟩
def cpH (e a : Int) : List (Nat × TB EE.T) := [(100001,.cs [.d (.int .i64) e,.d (.int .i64) a]),(100000,.cs [.raw (.pointer none)]),(100002,.cs [.d (.int .i64) e,.d (.int .i64) a]),(100000,.cs [.raw (.pointer none)]),(100001,.cs [.d (.int .i64) (0 : Int),.d (.int .i64) (0 : Int)])]
def cpR (k2 k3 kb : Nat) : Rn := ⟨fun i => if i = 100000 then ⟨k2,false,[]⟩ else if i = 100001 then ⟨k3,false,[]⟩ else ⟨kb,false,[]⟩⟩
theorem Cs (e a : Int) : okL (CA TT EE ⟨[],EQT,[],[]⟩ Bm (cpT e a)) = true := by kernel_rfl
theorem Ea (e a : Int) : (lfs (CA TT EE ⟨[],EQT,[],[]⟩ Bm (cpT e a))).map (·.h) = [cpH e a,cpH e a] := by kernel_rfl
def faultV (e a : Int) : Value := .iface 28 (.agg #[.int .i64 e,.int .i64 a])
set_option maxRecDepth 100000 in
theorem H6 (k2 k3 : Nat) (u0 c0 c1 : AV) (hne : k2 ≠ k3) : rY Try.prog 33 [.v (.pointer (some ⟨k2, 0, none⟩)), .v (.pointer (some ⟨k3, 0, none⟩))] [(k2, [u0]), (k3, [c0, c1])] .returning .returning (fun out H' => out = .ret (.tu []) ∧ look H' k2 = some [u0] ∧ look H' k3 = some [c0, c1]) := by
 unfold rY
 refine tQ Try.func33 rfl rfl rfl (fun X => .v .nilIface) rfl rfl Iu ?_
 dsimp only [slotsOf,List.drop_succ_cons,List.drop_zero]
 repeat (first
  | ((first | apply zM | apply sF); (next => (first | (simp only [go_sem,Nat.reduceBEq,Nat.reduceEqDiff,reduceIte,reduceCtorEq,String.reduceEq,Nat.reduceAdd,Int.reduceToNat]; exact rfl) | exact rfl)))
  | ((first | apply pO rfl rfl rfl rfl | apply yA rfl rfl rfl); (next => (first
   | (refine mt (T := TT) rfl ?_; (first | exact trivial | omega | (simp [NFL] <;> omega)))
   | (apply opk ⟨_,.move _,_,_,_,_⟩; first | exact eG (eg _) (.inl rfl) | fail)
   | (apply opk ⟨_,.load _ _,_,_,_,_⟩; first | exact lQ (T := TT) rfl rfl rfl | exact lp (T := TT) rfl rfl rfl rfl | fail)
   | (apply opk ⟨_,.typeAssert _ _ _ _,_,_,_,_⟩; first | exact lG (T := TT) rfl rfl rfl rfl | exact lE (T := TT) rfl rfl rfl rfl | fail)
   | fail)))
  | (refine arO _ ?_; first
   | (refine arO ⟨_,.move _,_,_,_,_⟩ ?_; first | refine jo rfl rfl rfl rfl ?_ | fail)
   | (refine arO ⟨_, .assign _, _, _, _, _⟩ ?_; first
    | refine gE rfl rfl rfl rfl ?_
    | refine zt rfl rfl rfl rfl (eG (eg _) (.inr rfl)) ?_
    | fail)
   | (refine arO ⟨_, .load _ _, _, _, _, _⟩ ?_; first
    | refine ge (T := TT) rfl rfl rfl rfl bT rfl rfl rfl rfl ?_
    | (refine ge (T := TT) rfl rfl rfl rfl (d9 ?_ bT) rfl rfl rfl rfl ?_; (next => (first | assumption | (intro e; exact absurd e.symm (by assumption)))))
    | (refine ge (T := TT) rfl rfl rfl rfl (d9 ?_ (d9 ?_ bT)) rfl rfl rfl rfl ?_; (next => (first | assumption | (intro e; exact absurd e.symm (by assumption)))); (next => (first | assumption | (intro e; exact absurd e.symm (by assumption)))))
    | fail)
   | (refine arO ⟨_, .store _ _ _, _, _, _, _⟩ ?_; first
    | (apply px rfl rfl; (next => (first
     | (apply iA (T := TT) rfl rfl rfl; (next => (first
      | rfl
      | exact bT
      | assumption
      | ((repeat (first | exact bT | assumption | (apply d9; (next => (first | assumption | (intro e; exact absurd e.symm (by assumption)) | fail))) | fail)); done)
      | fail)); (next => rfl); (next => rfl); (next => rfl))
     | (apply fp (T := TT) rfl; (next => (first
      | rfl
      | exact bT
      | assumption
      | ((repeat (first | exact bT | assumption | (apply d9; (next => (first | assumption | (intro e; exact absurd e.symm (by assumption)) | fail))) | fail)); done)
      | fail)); (next => rfl); (next => rfl); (next => rfl); (next => rfl); (next => rfl); (next => rfl); (next => rfl); (next => rfl))
     | fail)))
    | fail)
   | (refine arO ⟨_, .alloc _, _, _, _, _⟩ ?_; first
    | (refine gT rfl rfl (mR (T := TT) rfl rfl ?_); intro kb hkb; (repeat (have hkn := (ne hkb).1; replace hkb := (ne hkb).2)); (try have hkl := me hkb); clear hkb; refine IY ?_)
    | fail)
   | fail)
  | (apply yA rfl rfl rfl; (next => (first
   | exact fq rfl (.inl rfl)
   | exact fq rfl (.inr rfl)
   | exact qt rfl
   | (apply gU (T := TT) rfl; (next => (first
    | rfl
    | exact bT
    | assumption
    | ((repeat (first | exact bT | assumption | (apply d9; (next => (first | assumption | (intro e; exact absurd e.symm (by assumption)) | fail))) | fail)); done)
    | fail)); (next => rfl); (next => rfl); (next => rfl); (next => rfl))
   | fail)))
  | refine pE ?_
  | (refine arE ?_; refine nj [0,1,2,3,9] rfl ?_)
  | refine iV ?_
  | refine kP ?_
  | refine np ?_
  | refine p7 ?_
  | refine lW rfl ?_
  | (refine arC (.cond _ _ _) ?_; first
   | (refine eX rfl ?_ ?_; (next => (first | rfl | (simp only [decide_eq_true_eq,beq_iff_eq,bne_iff_ne,ge_iff_le,gt_iff_lt,ne_eq,Bool.not_eq_true',decide_eq_false_iff_not]; omega))))
   | (refine ey rfl ?_ ?_; (next => (first
    | rfl
    | (simp only [decide_eq_false_iff_not,beq_eq_false_iff_ne,bne_eq_false_iff_eq,ge_iff_le,gt_iff_lt,ne_eq,Bool.not_eq_false',decide_eq_true_eq]; omega))))
   | fail)
  | refine mQ ?_
  | refine kp ?_
  | refine jn rfl ?_
  | refine ja ?_
  | refine jb ?_
  | (refine arC .ret ?_; refine o3 [] ?_)
  | refine kC ?_
  | refine kB ?_
  | refine kI ?_
  | refine oX ?_
  | (refine arC (.region _ _ true) ?_; refine xe (BV mixed (by kernel_rfl) rfl ?_))
  | refine sB rfl rfl rfl ?_
  | (refine K3 ?_; refine nj [0,1,2,3,9] rfl ?_)
  | fail)
 rename_i hkn2
 exact Ei ⟨_,rfl,rfl,d9 hkn2 bT,d9 hkn (d9 (fun e => hne e.symm) bT)⟩
set_option maxRecDepth 100000 in
theorem HN (k2 k3 : Nat) (e a : Int) (hne : k2 ≠ k3) : rY Try.prog 33 [.v (.pointer (some ⟨k2, 0, none⟩)), .v (.pointer (some ⟨k3, 0, none⟩))] [(k2, [.v (.pointer none)]), (k3, [.v (.int .i64 0), .v (.int .i64 0)])] (.panicking [⟨faultV e a, false, false⟩]) (.panicking [⟨faultV e a, true, false⟩]) (fun out H' => out = .ret (.tu []) ∧ look H' k2 = some [.v (.pointer none)] ∧ look H' k3 = some [.v (.int .i64 e), .v (.int .i64 a)]) := by
 unfold rY
 refine tQ (ru := .ifc 28 (.ag [.v (.int .i64 e), .v (.int .i64 a)])) Try.func33 rfl rfl rfl (fun X => .ifc _ _ _ (.ag _ #[_, _] rfl (fun i u x hu hx => by
  match i,hu,hx with
  | 0,hu,hx => simp at hu hx; subst hu hx; exact .v _
  | 1,hu,hx => simp at hu hx; subst hu hx; exact .v _))) rfl rfl (IM (faultV e a)) ?_
 dsimp only [slotsOf,List.drop_succ_cons,List.drop_zero]
 repeat (first
  | ((first | apply zM | apply sF); (next => (first | (simp only [go_sem,Nat.reduceBEq,Nat.reduceEqDiff,reduceIte,reduceCtorEq,String.reduceEq,Nat.reduceAdd,Int.reduceToNat]; exact rfl) | exact rfl)))
  | (apply pO rfl rfl rfl rfl; (next => (first
   | (refine mt (T := TT) rfl ?_; (first | exact trivial | omega | (simp [NFL] <;> omega)))
   | (apply opk ⟨_,.move _,_,_,_,_⟩; first | exact eG (eg _) (.inl rfl) | fail)
   | (apply opk ⟨_,.load _ _,_,_,_,_⟩; first | exact lQ (T := TT) rfl rfl rfl | exact lp (T := TT) rfl rfl rfl rfl | fail)
   | (apply opk ⟨_,.typeAssert _ _ _ _,_,_,_,_⟩; first | exact lG (T := TT) rfl rfl rfl rfl | exact lE (T := TT) rfl rfl rfl rfl | fail)
   | fail)))
  | (refine arO _ ?_; first
   | (refine arO ⟨_,.move _,_,_,_,_⟩ ?_; first | refine jo rfl rfl rfl rfl ?_ | fail)
   | (refine arO ⟨_, .assign _, _, _, _, _⟩ ?_; first
    | refine gE rfl rfl rfl rfl ?_
    | refine zt rfl rfl rfl rfl (eG (eg _) (.inr rfl)) ?_
    | fail)
   | (refine arO ⟨_, .load _ _, _, _, _, _⟩ ?_; first
    | refine ge (T := TT) rfl rfl rfl rfl bT rfl rfl rfl rfl ?_
    | (refine ge (T := TT) rfl rfl rfl rfl (d9 ?_ bT) rfl rfl rfl rfl ?_; (next => (first | assumption | (intro e; exact absurd e.symm (by assumption)))))
    | (refine ge (T := TT) rfl rfl rfl rfl (d9 ?_ (d9 ?_ bT)) rfl rfl rfl rfl ?_; (next => (first | assumption | (intro e; exact absurd e.symm (by assumption)))); (next => (first | assumption | (intro e; exact absurd e.symm (by assumption)))))
    | fail)
   | (refine arO ⟨_, .store _ _ _, _, _, _, _⟩ ?_; first
    | (apply px rfl rfl; (next => (first
     | (apply iA (T := TT) rfl rfl rfl; (next => (first
      | rfl
      | exact bT
      | assumption
      | ((repeat (first | exact bT | assumption | (apply d9; (next => (first | assumption | (intro e; exact absurd e.symm (by assumption)) | fail))) | fail)); done)
      | fail)); (next => rfl); (next => rfl); (next => rfl))
     | (apply fp (T := TT) rfl; (next => (first
      | rfl
      | exact bT
      | assumption
      | ((repeat (first | exact bT | assumption | (apply d9; (next => (first | assumption | (intro e; exact absurd e.symm (by assumption)) | fail))) | fail)); done)
      | fail)); (next => rfl); (next => rfl); (next => rfl); (next => rfl); (next => rfl); (next => rfl); (next => rfl); (next => rfl))
     | fail)))
    | fail)
   | (refine arO ⟨_, .alloc _, _, _, _, _⟩ ?_; first
    | (refine gT rfl rfl (mR (T := TT) rfl rfl ?_); intro kb hkb; (repeat (have hkn := (ne hkb).1; replace hkb := (ne hkb).2)); (try have hkl := me hkb); clear hkb; refine IY ?_)
    | fail)
   | fail)
  | refine pE ?_
  | (refine arE ?_; refine nj [0,1,2,3,9] rfl ?_)
  | refine iV ?_
  | refine kP ?_
  | refine np ?_
  | refine p7 ?_
  | refine lW rfl ?_
  | (refine arC (.cond _ _ _) ?_; first
   | (refine eX rfl ?_ ?_; (next => (first | rfl | (simp only [decide_eq_true_eq,beq_iff_eq,bne_iff_ne,ge_iff_le,gt_iff_lt,ne_eq,Bool.not_eq_true',decide_eq_false_iff_not]; omega))))
   | (refine ey rfl ?_ ?_; (next => (first
    | rfl
    | (simp only [decide_eq_false_iff_not,beq_eq_false_iff_ne,bne_eq_false_iff_eq,ge_iff_le,gt_iff_lt,ne_eq,Bool.not_eq_false',decide_eq_true_eq]; omega))))
   | fail)
  | refine mQ ?_
  | refine kp ?_
  | refine jn rfl ?_
  | refine ja ?_
  | refine jb ?_
  | (refine arC .ret ?_; refine o3 [] ?_)
  | refine kC ?_
  | refine kB ?_
  | refine kI ?_
  | refine oX ?_
  | fail)
 rename_i hkn2
 have hinj : Inj (cpR k2 k3 kb) (cpT e a).h := by
  intro p hp q hq
  simp only [cpT,List.mem_cons,List.not_mem_nil,or_false] at hp hq
  rcases hp with rfl | rfl | rfl <;> rcases hq with rfl | rfl | rfl <;> refine ⟨fun _ _ h => ?_,fun h => ?_⟩ <;> first | rfl | (exfalso; revert h; simp [cpR,Rn.b]; omega) | (exfalso; revert h; simp)
 refine BA (Y := TT) (E := EE) (G := ⟨[],EQT,[],[]⟩) (ρ := cpR k2 k3 kb) (σ := cpT e a) (ops := Bm) mixed (GOk.nil dv) hinj (qp (Cs e a) fun s hs => ?_)
 have hs2 : s.h = cpH e a := by
  have : s.h ∈ (lfs (CA TT EE ⟨[],EQT,[],[]⟩ Bm (cpT e a))).map (·.h) := List.mem_map_of_mem hs
  rw [Ea] at this
  simpa using this
 intro ρ' hi' ha
 have e0 : ρ' 100000 = k2 := by
  have := ha 100000 rfl
  show (ρ'.k 100000).b = k2
  rw [this]; rfl
 have e1 : ρ' 100001 = k3 := by
  have := ha 100001 rfl
  show (ρ'.k 100001).b = k3
  rw [this]; rfl
 have hh : (TS.to EE.toEnc ρ' s).h = hTo EE.toEnc ρ' (cpH e a) := by rw [← hs2]; rfl
 refine Ei ⟨.tu [],rfl,rfl,?_,?_⟩
 ·rw [hh, ← e0]
  exact d9 (fun e => hne (by rw [← e0,← e1]; exact e)) bT
 ·rw [hh, ← e1]
  exact bT
end Go.Proofs.Ytlhjbhgkhpbnfaa
