import Derived.Test.YtlhjbhgkhpbnfaaBk05
set_option linter.unusedSimpArgs false
set_option linter.unusedVariables false
namespace Go.Proofs.Ytlhjbhgkhpbnfaa
open Go.RowKit P
set_option linter.unusedVariables false
set_option linter.unusedSimpArgs false
set_option maxRecDepth 100000
abbrev bG:=Int × (List UInt8) × Int × Int × Nat × (List Vstep)
def az(N:Nat)(x1:Vstep)(y0_0:List UInt8)(y0_1:Int)(y0_2:Int)(y0_3:Nat)(y1:List Vstep):Option (PR bG):=
 (mb 32 y0_3 y1 ([x1] :List Vstep)).bind fun z1=>
 some (.ok (w64 ((z1.length:Int) - 1),y0_0,y0_1,y0_2,z1.length,z1))
abbrev bx:=UInt8 × Bool × (List UInt8) × Int × Int × Nat × (List Vstep)
def aW(N:Nat)(y0_0:List UInt8)(y0_1:Int)(y0_2:Int)(y0_3:Nat)(y1:List Vstep):Option (PR bx):=
 bif decide (y0_1 < (y0_0.length:Int)) then
  (ap y0_0 y0_1).bind fun z1=>
  some (.ok (z1,true,y0_0,y0_1,y0_2,y0_3,y1))
 else
  some (.ok (0,false,y0_0,y0_1,y0_2,y0_3,y1))
abbrev bw:=(List UInt8) × Int × Int × Nat × (List Vstep)
def aX(N:Nat)(x1:Int)(x2:Int)(y0_0:List UInt8)(y0_1:Int)(y0_2:Int)(y0_3:Nat)(y1:List Vstep):Option (PR bw):=
 some (.pan (Value.iface 28 (.agg #[.int .i64 x1,.int .i64 x2])))
abbrev fO:=Option (List Bool)
def fH(N:Nat)(x0:UInt8):Option fO:=
 (eR 256 (b2i x0)).bind fun z1=>
 (uX (List.replicate 256 false) (0+z1) true).bind fun z2=>
 (px 256 z2).bind fun z3=>
 some (some z3)
abbrev bH:=Bool × (List UInt8) × Int × Int × Nat × (List Vstep)
def aO(N:Nat)(x1:UInt8)(y0_0:List UInt8)(y0_1:Int)(y0_2:Int)(y0_3:Nat)(y1:List Vstep):Option (PR bH):=
 (aW N y0_0 y0_1 y0_2 y0_3 y1).bind fun z1=>
 match z1 with
 |.pan vz1=>
  some (.pan vz1)
 |.ok z2=>
  bif z2.2.1 then
   bif (b2i z2.1)==(b2i x1) then
    some (.ok (true,z2.2.2.1,w64 (z2.2.2.2.1+1),z2.2.2.2.2.1,z2.2.2.2.2.2.1,z2.2.2.2.2.2.2))
   else
    some (.ok (false,z2.2.2.1,z2.2.2.2.1,z2.2.2.2.2.1,z2.2.2.2.2.2.1,z2.2.2.2.2.2.2))
  else
   some (.ok (false,z2.2.2.1,z2.2.2.2.1,z2.2.2.2.2.1,z2.2.2.2.2.2.1,z2.2.2.2.2.2.2))
def bX(N:Nat)(x0:List UInt8)(x1:UInt8):Option Int:=
 (lm N x0 x1).bind fun z1=>
 some z1
abbrev a6:=UInt8 × (List UInt8) × Int × Int × Nat × (List Vstep)
def cP(N:Nat)(n:Nat)(x3:UInt8)(b100000_0:List UInt8)(b100000_1:Int)(b100000_2:Int)(b100000_3_n:Nat)(b200001:List Vstep):Option (PR a6):=
 (aX N 1 b100000_1 b100000_0 b100000_1 b100000_2 b100000_3_n b200001).bind fun z4=>
 match z4 with
 |.pan vz4=>
  some (.pan vz4)
 |.ok z5=>
  some (.ok (x3,z5.1,w64 (z5.2.1+1),z5.2.2.1,z5.2.2.2.1,z5.2.2.2.2))
def cn(N:Nat)(y0_0:List UInt8)(y0_1:Int)(y0_2:Int)(y0_3:Nat)(y1:List Vstep):Option (PR a6):=
 (aW N y0_0 y0_1 y0_2 y0_3 y1).bind fun z1=>
 match z1 with
 |.pan vz1=>
  some (.pan vz1)
 |.ok z2=>
  bif !z2.2.1 then
   cP N N z2.1 z2.2.2.1 z2.2.2.2.1 z2.2.2.2.2.1 z2.2.2.2.2.2.1 z2.2.2.2.2.2.2
  else
   (bX N ([91,93,92,94,45] :List UInt8) z2.1).bind fun z3=>
   bif decide (z3≥0) then
    cP N N z2.1 z2.2.2.1 z2.2.2.2.1 z2.2.2.2.2.1 z2.2.2.2.2.2.1 z2.2.2.2.2.2.2
   else
    some (.ok (z2.1,z2.2.2.1,w64 (z2.2.2.2.1+1),z2.2.2.2.2.1,z2.2.2.2.2.2.1,z2.2.2.2.2.2.2))
abbrev ax:=(Option (List Bool)) × (List UInt8) × Int × Int × Nat × (List Vstep)
def cU(N:Nat)(k4:Bool→Bool→(List Bool)→(List UInt8)→Int→Int→Nat→(List Vstep)→Option (PR ax)):Nat→Bool→UInt8→Int→(List Bool)→(List UInt8)→Int→Int→Nat→(List Vstep)→Option (PR ax)
 |0,_,_,_,_,_,_,_,_,_=>none
 |n+1,x3,x7,x9,b4,b100000_0,b100000_1,b100000_2,b100000_3_n,b200001=>
  bif decide (x9≤(w64 (b2i x7))) then
   (eR 256 x9).bind fun z18=>
   (uX b4 (0+z18) true).bind fun z19=>
   cU N k4 n x3 x7 (w64 (x9+1)) z19 b100000_0 b100000_1 b100000_2 b100000_3_n b200001
  else
   k4 x3 false b4 b100000_0 b100000_1 b100000_2 b100000_3_n b200001
def bY(N:Nat)(k4:Bool→Bool→(List Bool)→(List UInt8)→Int→Int→Nat→(List Vstep)→Option (PR ax))(n:Nat)(x3:Bool)(x6:UInt8)(x7:UInt8)(b4:List Bool)(b100000_0:List UInt8)(b100000_1:Int)(b100000_2:Int)(b100000_3_n:Nat)(b200001:List Vstep):Option (PR ax):=
 cU N k4 n x3 x7 (w64 (b2i x6)) b4 b100000_0 b100000_1 b100000_2 b100000_3_n b200001
def dk(N:Nat)(k4:Bool→Bool→(List Bool)→(List UInt8)→Int→Int→Nat→(List Vstep)→Option (PR ax))(n:Nat)(x3:Bool)(b4:List Bool)(b100000_0:List UInt8)(b100000_1:Int)(b100000_2:Int)(b100000_3_n:Nat)(b200001:List Vstep):Option (PR ax):=
 (cn N b100000_0 b100000_1 b100000_2 b100000_3_n b200001).bind fun z5=>
 match z5 with
 |.pan vz5=>
  some (.pan vz5)
 |.ok z6=>
  (aO N 45 z6.2.1 z6.2.2.1 z6.2.2.2.1 z6.2.2.2.2.1 z6.2.2.2.2.2).bind fun z7=>
  match z7 with
  |.pan vz7=>
   some (.pan vz7)
  |.ok z8=>
   bif z8.1 then
    (cn N z8.2.1 z8.2.2.1 z8.2.2.2.1 z8.2.2.2.2.1 z8.2.2.2.2.2).bind fun z9=>
    match z9 with
    |.pan vz9=>
     some (.pan vz9)
    |.ok z10=>
     bif decide ((b2i z10.1) < (b2i z6.1)) then
      (aX N 3 z8.2.2.1 z10.2.1 z10.2.2.1 z10.2.2.2.1 z10.2.2.2.2.1 z10.2.2.2.2.2).bind fun z11=>
      match z11 with
      |.pan vz11=>
       some (.pan vz11)
      |.ok z12=>
       bY N k4 n x3 z6.1 z10.1 b4 z12.1 z12.2.1 z12.2.2.1 z12.2.2.2.1 z12.2.2.2.2
     else
      bY N k4 n x3 z6.1 z10.1 b4 z10.2.1 z10.2.2.1 z10.2.2.2.1 z10.2.2.2.2.1 z10.2.2.2.2.2
   else
    bY N k4 n x3 z6.1 z6.1 b4 z8.2.1 z8.2.2.1 z8.2.2.2.1 z8.2.2.2.2.1 z8.2.2.2.2.2
def cW(N:Nat):Nat→Bool→Int→(List Bool)→(List UInt8)→Int→Int→Nat→(List Vstep)→Option (PR ax)
 |0,_,_,_,_,_,_,_,_=>none
 |n+1,x3,x46,b4,b100000_0,b100000_1,b100000_2,b100000_3_n,b200001=>
  bif decide (x46 < 256) then
   (eR 256 x46).bind fun z13=>
   (b4[0+z13]?).bind fun z14=>
   (eR 256 x46).bind fun z15=>
   (uX b4 (0+z15) (!(z14==x3))).bind fun z16=>
   cW N n x3 (w64 (x46+1)) z16 b100000_0 b100000_1 b100000_2 b100000_3_n b200001
  else
   (px 256 b4).bind fun z17=>
   some (.ok ((some z17),b100000_0,b100000_1,b100000_2,b100000_3_n,b200001))
def ce(N:Nat):Nat→Bool→Bool→(List Bool)→(List UInt8)→Int→Int→Nat→(List Vstep)→Option (PR ax)
 |0,_,_,_,_,_,_,_,_=>none
 |n+1,x3,x5,b4,b100000_0,b100000_1,b100000_2,b100000_3_n,b200001=>
  bif x5 then
   dk N (ce N n) n x3 b4 b100000_0 b100000_1 b100000_2 b100000_3_n b200001
  else
   (aO N 93 b100000_0 b100000_1 b100000_2 b100000_3_n b200001).bind fun z3=>
   match z3 with
   |.pan vz3=>
    some (.pan vz3)
   |.ok z4=>
    bif !z4.1 then
     dk N (ce N n) n x3 b4 z4.2.1 z4.2.2.1 z4.2.2.2.1 z4.2.2.2.2.1 z4.2.2.2.2.2
    else
     cW N n x3 0 b4 z4.2.1 z4.2.2.1 z4.2.2.2.1 z4.2.2.2.2.1 z4.2.2.2.2.2
def dO(N:Nat)(y0_0:List UInt8)(y0_1:Int)(y0_2:Int)(y0_3:Nat)(y1:List Vstep):Option (PR ax):=
 (aO N 94 y0_0 y0_1 y0_2 y0_3 y1).bind fun z1=>
 match z1 with
 |.pan vz1=>
  some (.pan vz1)
 |.ok z2=>
  ce N N z2.1 true (List.replicate 256 false) z2.2.1 z2.2.2.1 z2.2.2.2.1 z2.2.2.2.2.1 z2.2.2.2.2.2
abbrev aQ:=(List Vstep) × (List Vstep)
def bB(N:Nat)(x0_o:Nat)(x0_n:Nat)(y0:List Vstep):Option (PR aQ):=
 (Dx x0_o x0_n y0).bind fun z1=>
 (jP 32 ([] :List Vstep) z1).bind fun z2=>
 some (.ok (z2,y0))
abbrev bF:=(List Vstep) × (List UInt8) × Int × Int × Nat × (List Vstep)
def cE(N:Nat)(x1:Int)(y0_0:List UInt8)(y0_1:Int)(y0_2:Int)(y0_3:Nat)(y1:List Vstep):Option (PR bF):=
 (AZ y0_3 x1 (y0_3:Int)).bind fun z1=>
 (bB N z1.1 (y0_3 - z1.1) y1).bind fun z2=>
 match z2 with
 |.pan vz2=>
  some (.pan vz2)
 |.ok z3=>
  (DY y0_3 z3.2 x1).bind fun z4=>
  some (.ok (z3.1,y0_0,y0_1,y0_2,z4.length,z4))
abbrev aI:=(List UInt8) × Int × Int × Nat × (List Vstep)
def cb(N:Nat)(k2:Int→(List Vstep)→Int→Int→(List UInt8)→Int→Int→Nat→(List Vstep)→Option (PR aI))(n:Nat)(x6:Int)(x16:List Vstep)(x17:Int)(x18:Int)(b8:Vstep)(b100000_0:List UInt8)(b100000_1:Int)(b100000_2:Int)(b100000_3_n:Nat)(b200001:List Vstep):Option (PR aI):=
 (az N b8 b100000_0 b100000_1 b100000_2 b100000_3_n b200001).bind fun z2=>
 match z2 with
 |.pan vz2=>
  some (.pan vz2)
 |.ok z3=>
  k2 x6 x16 x17 (w64 (x18+1)) z3.2.1 z3.2.2.1 z3.2.2.2.1 z3.2.2.2.2.1 z3.2.2.2.2.2
def bA(N:Nat):Nat→Int→(List Vstep)→Int→Int→(List UInt8)→Int→Int→Nat→(List Vstep)→Option (PR aI)
 |0,_,_,_,_,_,_,_,_,_=>none
 |n+1,x6,x16,x17,x18,b100000_0,b100000_1,b100000_2,b100000_3_n,b200001=>
  bif decide (x18 < x17) then
   (ap x16 x18).bind fun z1=>
   bif z1.kind==1 then
    cb N (bA N n) n x6 x16 x17 x18 ({ kind:=z1.kind,a:=w64 (z1.a+x6),b:=w64 (z1.b+x6),set_:=z1.set_ }:Vstep) b100000_0 b100000_1 b100000_2 b100000_3_n b200001
   else
    bif z1.kind==2 then
     cb N (bA N n) n x6 x16 x17 x18 ({ kind:=z1.kind,a:=w64 (z1.a+x6),b:=z1.b,set_:=z1.set_ }:Vstep) b100000_0 b100000_1 b100000_2 b100000_3_n b200001
    else
     cb N (bA N n) n x6 x16 x17 x18 z1 b100000_0 b100000_1 b100000_2 b100000_3_n b200001
  else
   some (.ok (b100000_0,b100000_1,b100000_2,b100000_3_n,b200001))
def bu(N:Nat)(x1:List Vstep)(x2:Int)(y0_0:List UInt8)(y0_1:Int)(y0_2:Int)(y0_3:Nat)(y1:List Vstep):Option (PR aI):=
 bA N N (w64 ((y0_3:Int) - x2)) x1 (x1.length:Int) 0 y0_0 y0_1 y0_2 y0_3 y1
structure RecC where
 n:Nat
 k:(List UInt8)→Int→Int→Nat→(List Vstep)→Option (PR (Bool × (List UInt8) × Int × Int × Nat × (List Vstep)))
def dP(N:RecC)(y0_0:List UInt8)(y0_1:Int)(y0_2:Int)(y0_3:Nat)(y1:List Vstep):Option (PR (Bool × (List UInt8) × Int × Int × Nat × (List Vstep))):=N.k y0_0 y0_1 y0_2 y0_3 y1
abbrev aA:=Bool × (List UInt8) × Int × Int × Nat × (List Vstep)
def cQ(N:RecC):Nat→Int→(List Bool)→(List UInt8)→Int→Int→Nat→(List Vstep)→Option (PR aA)
 |0,_,_,_,_,_,_,_=>none
 |n+1,x51,b4,b100000_0,b100000_1,b100000_2,b100000_3_n,b200001=>
  bif decide (x51 < 256) then
   (eR 256 x51).bind fun z13=>
   (uX b4 (0+z13) true).bind fun z14=>
   cQ N n (w64 (x51+1)) z14 b100000_0 b100000_1 b100000_2 b100000_3_n b200001
  else
   (px 256 b4).bind fun z15=>
   (az N.n ({ kind:=0,a:=0,b:=0,set_:=(some z15) }:Vstep) b100000_0 b100000_1 b100000_2 b100000_3_n b200001).bind fun z16=>
   match z16 with
   |.pan vz16=>
    some (.pan vz16)
   |.ok z17=>
    some (.ok (false,z17.2.1,z17.2.2.1,z17.2.2.2.1,z17.2.2.2.2.1,z17.2.2.2.2.2))
def cM(N:RecC)(n:Nat)(x6:UInt8)(b100000_0:List UInt8)(b100000_1:Int)(b100000_2:Int)(b100000_3_n:Nat)(b200001:List Vstep):Option (PR aA):=
 (aX N.n 1 b100000_1 b100000_0 b100000_1 b100000_2 b100000_3_n b200001).bind fun z34=>
 match z34 with
 |.pan vz34=>
  some (.pan vz34)
 |.ok z35=>
  (fH N.n x6).bind fun z36=>
  (az N.n ({ kind:=0,a:=0,b:=0,set_:=z36 }:Vstep) z35.1 (w64 (z35.2.1+1)) z35.2.2.1 z35.2.2.2.1 z35.2.2.2.2).bind fun z37=>
  match z37 with
  |.pan vz37=>
   some (.pan vz37)
  |.ok z38=>
   some (.ok (false,z38.2.1,z38.2.2.1,z38.2.2.2.1,z38.2.2.2.2.1,z38.2.2.2.2.2))
def aF(N:RecC)(n:Nat)(x6:UInt8)(x7:Bool)(x8:Bool)(b100000_0:List UInt8)(b100000_1:Int)(b100000_2:Int)(b100000_3_n:Nat)(b200001:List Vstep):Option (PR aA):=
 bif !x7 then
  cM N n x6 b100000_0 b100000_1 b100000_2 b100000_3_n b200001
 else
  bif x8 then
   cM N n x6 b100000_0 b100000_1 b100000_2 b100000_3_n b200001
  else
   (fH N.n x6).bind fun z18=>
   (az N.n ({ kind:=0,a:=0,b:=0,set_:=z18 }:Vstep) b100000_0 (w64 (b100000_1+1)) b100000_2 b100000_3_n b200001).bind fun z19=>
   match z19 with
   |.pan vz19=>
    some (.pan vz19)
   |.ok z20=>
    some (.ok (false,z20.2.1,z20.2.2.1,z20.2.2.2.1,z20.2.2.2.2.1,z20.2.2.2.2.2))
def cm(N:RecC)(n:Nat)(b100000_0:List UInt8)(b100000_1:Int)(b100000_2:Int)(b100000_3_n:Nat)(b200001:List Vstep):Option (PR aA):=
 (az N.n ({ kind:=3,a:=w64 (2 * (w64 (b100000_2+1))),b:=0,set_:=(none:Option (List Bool)) }:Vstep) b100000_0 (w64 (b100000_1+1)) (w64 (b100000_2+1)) b100000_3_n b200001).bind fun z21=>
 match z21 with
 |.pan vz21=>
  some (.pan vz21)
 |.ok z22=>
  (dP N z22.2.1 z22.2.2.1 z22.2.2.2.1 z22.2.2.2.2.1 z22.2.2.2.2.2).bind fun z23=>
  match z23 with
  |.pan vz23=>
   some (.pan vz23)
  |.ok z24=>
   (az N.n ({ kind:=3,a:=w64 ((w64 (2 * (w64 (b100000_2+1))))+1),b:=0,set_:=(none:Option (List Bool)) }:Vstep) z24.2.1 z24.2.2.1 z24.2.2.2.1 z24.2.2.2.2.1 z24.2.2.2.2.2).bind fun z25=>
   match z25 with
   |.pan vz25=>
    some (.pan vz25)
   |.ok z26=>
    (aO N.n 41 z26.2.1 z26.2.2.1 z26.2.2.2.1 z26.2.2.2.2.1 z26.2.2.2.2.2).bind fun z27=>
    match z27 with
    |.pan vz27=>
     some (.pan vz27)
    |.ok z28=>
     bif !z28.1 then
      (aX N.n 1 z28.2.2.1 z28.2.1 z28.2.2.1 z28.2.2.2.1 z28.2.2.2.2.1 z28.2.2.2.2.2).bind fun z29=>
      match z29 with
      |.pan vz29=>
       some (.pan vz29)
      |.ok z30=>
       some (.ok (z24.1,z30.1,z30.2.1,z30.2.2.1,z30.2.2.2.1,z30.2.2.2.2))
     else
      some (.ok (z24.1,z28.2.1,z28.2.2.1,z28.2.2.2.1,z28.2.2.2.2.1,z28.2.2.2.2.2))
def cx(N:RecC)(n:Nat)(x3:UInt8)(b100000_0:List UInt8)(b100000_1:Int)(b100000_2:Int)(b100000_3_n:Nat)(b200001:List Vstep):Option (PR aA):=
 (fH N.n x3).bind fun z31=>
 (az N.n ({ kind:=0,a:=0,b:=0,set_:=z31 }:Vstep) b100000_0 (w64 (b100000_1+1)) b100000_2 b100000_3_n b200001).bind fun z32=>
 match z32 with
 |.pan vz32=>
  some (.pan vz32)
 |.ok z33=>
  some (.ok (false,z33.2.1,z33.2.2.1,z33.2.2.2.1,z33.2.2.2.2.1,z33.2.2.2.2.2))
def bM(N:RecC)(y0_0:List UInt8)(y0_1:Int)(y0_2:Int)(y0_3:Nat)(y1:List Vstep):Option (PR aA):=
 (ap y0_0 y0_1).bind fun z1=>
 bif (b2i z1)==(b2i 46) then
  cQ N N.n 0 (List.replicate 256 false) y0_0 (w64 (y0_1+1)) y0_2 y0_3 y1
 else
  bif (b2i z1)==(b2i 92) then
   (aW N.n y0_0 (w64 (y0_1+1)) y0_2 y0_3 y1).bind fun z2=>
   match z2 with
   |.pan vz2=>
    some (.pan vz2)
   |.ok z3=>
    bif decide ((b2i z3.1)≥(b2i 97)) then
     bif decide ((b2i z3.1)≤(b2i 122)) then
      aF N N.n z3.1 z3.2.1 true z3.2.2.1 z3.2.2.2.1 z3.2.2.2.2.1 z3.2.2.2.2.2.1 z3.2.2.2.2.2.2
     else
      bif decide ((b2i z3.1)≥(b2i 65)) then
       bif decide ((b2i z3.1)≤(b2i 90)) then
        aF N N.n z3.1 z3.2.1 true z3.2.2.1 z3.2.2.2.1 z3.2.2.2.2.1 z3.2.2.2.2.2.1 z3.2.2.2.2.2.2
       else
        bif decide ((b2i z3.1)≥(b2i 48)) then
         aF N N.n z3.1 z3.2.1 (decide ((b2i z3.1)≤(b2i 57))) z3.2.2.1 z3.2.2.2.1 z3.2.2.2.2.1 z3.2.2.2.2.2.1 z3.2.2.2.2.2.2
        else
         aF N N.n z3.1 z3.2.1 false z3.2.2.1 z3.2.2.2.1 z3.2.2.2.2.1 z3.2.2.2.2.2.1 z3.2.2.2.2.2.2
      else
       bif decide ((b2i z3.1)≥(b2i 48)) then
        aF N N.n z3.1 z3.2.1 (decide ((b2i z3.1)≤(b2i 57))) z3.2.2.1 z3.2.2.2.1 z3.2.2.2.2.1 z3.2.2.2.2.2.1 z3.2.2.2.2.2.2
       else
        aF N N.n z3.1 z3.2.1 false z3.2.2.1 z3.2.2.2.1 z3.2.2.2.2.1 z3.2.2.2.2.2.1 z3.2.2.2.2.2.2
    else
     bif decide ((b2i z3.1)≥(b2i 65)) then
      bif decide ((b2i z3.1)≤(b2i 90)) then
       aF N N.n z3.1 z3.2.1 true z3.2.2.1 z3.2.2.2.1 z3.2.2.2.2.1 z3.2.2.2.2.2.1 z3.2.2.2.2.2.2
      else
       bif decide ((b2i z3.1)≥(b2i 48)) then
        aF N N.n z3.1 z3.2.1 (decide ((b2i z3.1)≤(b2i 57))) z3.2.2.1 z3.2.2.2.1 z3.2.2.2.2.1 z3.2.2.2.2.2.1 z3.2.2.2.2.2.2
       else
        aF N N.n z3.1 z3.2.1 false z3.2.2.1 z3.2.2.2.1 z3.2.2.2.2.1 z3.2.2.2.2.2.1 z3.2.2.2.2.2.2
     else
      bif decide ((b2i z3.1)≥(b2i 48)) then
       aF N N.n z3.1 z3.2.1 (decide ((b2i z3.1)≤(b2i 57))) z3.2.2.1 z3.2.2.2.1 z3.2.2.2.2.1 z3.2.2.2.2.2.1 z3.2.2.2.2.2.2
      else
       aF N N.n z3.1 z3.2.1 false z3.2.2.1 z3.2.2.2.1 z3.2.2.2.2.1 z3.2.2.2.2.2.1 z3.2.2.2.2.2.2
  else
   bif (b2i z1)==(b2i 91) then
    (dO N.n y0_0 (w64 (y0_1+1)) y0_2 y0_3 y1).bind fun z4=>
    match z4 with
    |.pan vz4=>
     some (.pan vz4)
    |.ok z5=>
     (az N.n ({ kind:=0,a:=0,b:=0,set_:=z5.1 }:Vstep) z5.2.1 z5.2.2.1 z5.2.2.2.1 z5.2.2.2.2.1 z5.2.2.2.2.2).bind fun z6=>
     match z6 with
     |.pan vz6=>
      some (.pan vz6)
     |.ok z7=>
      some (.ok (false,z7.2.1,z7.2.2.1,z7.2.2.2.1,z7.2.2.2.2.1,z7.2.2.2.2.2))
   else
    bif (b2i z1)==(b2i 40) then
     bif y0_2==9 then
      (aX N.n 2 y0_1 y0_0 y0_1 y0_2 y0_3 y1).bind fun z8=>
      match z8 with
      |.pan vz8=>
       some (.pan vz8)
      |.ok z9=>
       cm N N.n z9.1 z9.2.1 z9.2.2.1 z9.2.2.2.1 z9.2.2.2.2
     else
      cm N N.n y0_0 y0_1 y0_2 y0_3 y1
    else
     (bX N.n ([42,43,63,41,124,93] :List UInt8) z1).bind fun z10=>
     bif decide (z10≥0) then
      (aX N.n 1 y0_1 y0_0 y0_1 y0_2 y0_3 y1).bind fun z11=>
      match z11 with
      |.pan vz11=>
       some (.pan vz11)
      |.ok z12=>
       cx N N.n z1 z12.1 z12.2.1 z12.2.2.1 z12.2.2.2.1 z12.2.2.2.2
     else
      cx N N.n z1 y0_0 y0_1 y0_2 y0_3 y1
abbrev aJ:=Bool × (List UInt8) × Int × Int × Nat × (List Vstep)
def bm(N:RecC)(n:Nat)(x3:Int)(x6:UInt8)(b100000_0:List UInt8)(b100000_1:Int)(b100000_2:Int)(b100000_3_n:Nat)(b200001:List Vstep):Option (PR aJ):=
 (cE N.n x3 b100000_0 (w64 (b100000_1+1)) b100000_2 b100000_3_n b200001).bind fun z8=>
 match z8 with
 |.pan vz8=>
  some (.pan vz8)
 |.ok z9=>
  bif (b2i x6)==(b2i 42) then
   (az N.n ({ kind:=1,a:=0,b:=0,set_:=(none:Option (List Bool)) }:Vstep) z9.2.1 z9.2.2.1 z9.2.2.2.1 z9.2.2.2.2.1 z9.2.2.2.2.2).bind fun z10=>
   match z10 with
   |.pan vz10=>
    some (.pan vz10)
   |.ok z11=>
    (eR z11.2.2.2.2.1 z11.1).bind fun z12=>
    (z11.2.2.2.2.2[z12]?).bind fun z13=>
    (bu N.n z9.1 x3 z11.2.1 z11.2.2.1 z11.2.2.2.1 z11.2.2.2.2.1 (List.set z11.2.2.2.2.2 z12 ({ kind:=z13.kind,a:=(z11.2.2.2.2.1:Int),b:=z13.b,set_:=z13.set_ }:Vstep))).bind fun z14=>
    match z14 with
    |.pan vz14=>
     some (.pan vz14)
    |.ok z15=>
     (az N.n ({ kind:=2,a:=z11.1,b:=0,set_:=(none:Option (List Bool)) }:Vstep) z15.1 z15.2.1 z15.2.2.1 z15.2.2.2.1 z15.2.2.2.2).bind fun z16=>
     match z16 with
     |.pan vz16=>
      some (.pan vz16)
     |.ok z17=>
      (eR z17.2.2.2.2.1 z11.1).bind fun z18=>
      (z17.2.2.2.2.2[z18]?).bind fun z19=>
      some (.ok (true,z17.2.1,z17.2.2.1,z17.2.2.2.1,z17.2.2.2.2.1,List.set z17.2.2.2.2.2 z18 ({ kind:=z19.kind,a:=z19.a,b:=(z17.2.2.2.2.1:Int),set_:=z19.set_ }:Vstep)))
  else
   bif (b2i x6)==(b2i 43) then
    (bu N.n z9.1 x3 z9.2.1 z9.2.2.1 z9.2.2.2.1 z9.2.2.2.2.1 z9.2.2.2.2.2).bind fun z20=>
    match z20 with
    |.pan vz20=>
     some (.pan vz20)
    |.ok z21=>
     (az N.n ({ kind:=1,a:=x3,b:=0,set_:=(none:Option (List Bool)) }:Vstep) z21.1 z21.2.1 z21.2.2.1 z21.2.2.2.1 z21.2.2.2.2).bind fun z22=>
     match z22 with
     |.pan vz22=>
      some (.pan vz22)
     |.ok z23=>
      (eR z23.2.2.2.2.1 z23.1).bind fun z24=>
      (z23.2.2.2.2.2[z24]?).bind fun z25=>
      some (.ok (false,z23.2.1,z23.2.2.1,z23.2.2.2.1,z23.2.2.2.2.1,List.set z23.2.2.2.2.2 z24 ({ kind:=z25.kind,a:=z25.a,b:=(z23.2.2.2.2.1:Int),set_:=z25.set_ }:Vstep)))
   else
    (az N.n ({ kind:=1,a:=0,b:=0,set_:=(none:Option (List Bool)) }:Vstep) z9.2.1 z9.2.2.1 z9.2.2.2.1 z9.2.2.2.2.1 z9.2.2.2.2.2).bind fun z26=>
    match z26 with
    |.pan vz26=>
     some (.pan vz26)
    |.ok z27=>
     (eR z27.2.2.2.2.1 z27.1).bind fun z28=>
     (z27.2.2.2.2.2[z28]?).bind fun z29=>
     (bu N.n z9.1 x3 z27.2.1 z27.2.2.1 z27.2.2.2.1 z27.2.2.2.2.1 (List.set z27.2.2.2.2.2 z28 ({ kind:=z29.kind,a:=(z27.2.2.2.2.1:Int),b:=z29.b,set_:=z29.set_ }:Vstep))).bind fun z30=>
     match z30 with
     |.pan vz30=>
      some (.pan vz30)
     |.ok z31=>
      (eR z31.2.2.2.1 z27.1).bind fun z32=>
      (z31.2.2.2.2[z32]?).bind fun z33=>
      some (.ok (true,z31.1,z31.2.1,z31.2.2.1,z31.2.2.2.1,List.set z31.2.2.2.2 z32 ({ kind:=z33.kind,a:=z33.a,b:=(z31.2.2.2.1:Int),set_:=z33.set_ }:Vstep)))
def bO(N:RecC)(n:Nat)(x3:Int)(x4:Bool)(x5:Bool)(x6:UInt8)(b100000_0:List UInt8)(b100000_1:Int)(b100000_2:Int)(b100000_3_n:Nat)(b200001:List Vstep):Option (PR aJ):=
 bif x5 then
  bif x4 then
   bif (b2i x6) != (b2i 63) then
    (aX N.n 4 b100000_1 b100000_0 b100000_1 b100000_2 b100000_3_n b200001).bind fun z6=>
    match z6 with
    |.pan vz6=>
     some (.pan vz6)
    |.ok z7=>
     bm N n x3 x6 z7.1 z7.2.1 z7.2.2.1 z7.2.2.2.1 z7.2.2.2.2
   else
    bm N n x3 x6 b100000_0 b100000_1 b100000_2 b100000_3_n b200001
  else
   bm N n x3 x6 b100000_0 b100000_1 b100000_2 b100000_3_n b200001
 else
  bm N n x3 x6 b100000_0 b100000_1 b100000_2 b100000_3_n b200001
def bq(N:RecC)(y0_0:List UInt8)(y0_1:Int)(y0_2:Int)(y0_3:Nat)(y1:List Vstep):Option (PR aJ):=
 (ap y0_0 y0_1).bind fun z1=>
 (bM N y0_0 y0_1 y0_2 y0_3 y1).bind fun z2=>
 match z2 with
 |.pan vz2=>
  some (.pan vz2)
 |.ok z3=>
  (aW N.n z3.2.1 z3.2.2.1 z3.2.2.2.1 z3.2.2.2.2.1 z3.2.2.2.2.2).bind fun z4=>
  match z4 with
  |.pan vz4=>
   some (.pan vz4)
  |.ok z5=>
   bif !z5.2.1 then
    some (.ok (z3.1,z5.2.2.1,z5.2.2.2.1,z5.2.2.2.2.1,z5.2.2.2.2.2.1,z5.2.2.2.2.2.2))
   else
    bif (b2i z5.1) != (b2i 42) then
     bif (b2i z5.1) != (b2i 43) then
      bif (b2i z5.1) != (b2i 63) then
       some (.ok (z3.1,z5.2.2.1,z5.2.2.2.1,z5.2.2.2.2.1,z5.2.2.2.2.2.1,z5.2.2.2.2.2.2))
      else
       bO N N.n (y0_3:Int) ((b2i z1)==(b2i 40)) z3.1 z5.1 z5.2.2.1 z5.2.2.2.1 z5.2.2.2.2.1 z5.2.2.2.2.2.1 z5.2.2.2.2.2.2
     else
      bO N N.n (y0_3:Int) ((b2i z1)==(b2i 40)) z3.1 z5.1 z5.2.2.1 z5.2.2.2.1 z5.2.2.2.2.1 z5.2.2.2.2.2.1 z5.2.2.2.2.2.2
    else
     bO N N.n (y0_3:Int) ((b2i z1)==(b2i 40)) z3.1 z5.1 z5.2.2.1 z5.2.2.2.1 z5.2.2.2.2.1 z5.2.2.2.2.2.1 z5.2.2.2.2.2.2
abbrev bc:=Bool × (List UInt8) × Int × Int × Nat × (List Vstep)
def aZ(N:RecC):Nat→Bool→(List UInt8)→Int→Int→Nat→(List Vstep)→Option (PR bc)
 |0,_,_,_,_,_,_=>none
 |n+1,x3,b100000_0,b100000_1,b100000_2,b100000_3_n,b200001=>
  (aW N.n b100000_0 b100000_1 b100000_2 b100000_3_n b200001).bind fun z1=>
  match z1 with
  |.pan vz1=>
   some (.pan vz1)
  |.ok z2=>
   bif !z2.2.1 then
    some (.ok (x3,z2.2.2.1,z2.2.2.2.1,z2.2.2.2.2.1,z2.2.2.2.2.2.1,z2.2.2.2.2.2.2))
   else
    bif (b2i z2.1)==(b2i 124) then
     some (.ok (x3,z2.2.2.1,z2.2.2.2.1,z2.2.2.2.2.1,z2.2.2.2.2.2.1,z2.2.2.2.2.2.2))
    else
     bif (b2i z2.1)==(b2i 41) then
      some (.ok (x3,z2.2.2.1,z2.2.2.2.1,z2.2.2.2.2.1,z2.2.2.2.2.2.1,z2.2.2.2.2.2.2))
     else
      (bq N z2.2.2.1 z2.2.2.2.1 z2.2.2.2.2.1 z2.2.2.2.2.2.1 z2.2.2.2.2.2.2).bind fun z3=>
      match z3 with
      |.pan vz3=>
       some (.pan vz3)
      |.ok z4=>
       bif !z4.1 then
        aZ N n false z4.2.1 z4.2.2.1 z4.2.2.2.1 z4.2.2.2.2.1 z4.2.2.2.2.2
       else
        aZ N n x3 z4.2.1 z4.2.2.1 z4.2.2.2.1 z4.2.2.2.2.1 z4.2.2.2.2.2
def bW(N:RecC)(y0_0:List UInt8)(y0_1:Int)(y0_2:Int)(y0_3:Nat)(y1:List Vstep):Option (PR bc):=
 aZ N N.n true y0_0 y0_1 y0_2 y0_3 y1
abbrev bz:=Bool × (List UInt8) × Int × Int × Nat × (List Vstep)
def dB(N:RecC)(y0_0:List UInt8)(y0_1:Int)(y0_2:Int)(y0_3:Nat)(y1:List Vstep):Option (PR bz):=
 (dP N y0_0 y0_1 y0_2 y0_3 y1).bind fun z1=>
 match z1 with
 |.pan vz1=>
  some (.pan vz1)
 |.ok z2=>
  some (.ok (z2.1,z2.2.1,z2.2.2.1,z2.2.2.2.1,z2.2.2.2.2.1,z2.2.2.2.2.2))
abbrev aG:=Bool × (List UInt8) × Int × Int × Nat × (List Vstep)
def cO(N:RecC)(k3:Int→Bool→(List UInt8)→Int→Int→Nat→(List Vstep)→Option (PR aG))(n:Nat)(x4:Bool)(x7:Int)(b100000_0:List UInt8)(b100000_1:Int)(b100000_2:Int)(b100000_3_n:Nat)(b200001:List Vstep):Option (PR aG):=
 (eR b100000_3_n x7).bind fun z19=>
 (b200001[z19]?).bind fun z20=>
 some (.ok (x4,b100000_0,b100000_1,b100000_2,b100000_3_n,List.set b200001 z19 ({ kind:=z20.kind,a:=(b100000_3_n:Int),b:=z20.b,set_:=z20.set_ }:Vstep)))
def bi(N:RecC):Nat→Int→Bool→(List UInt8)→Int→Int→Nat→(List Vstep)→Option (PR aG)
 |0,_,_,_,_,_,_,_=>none
 |n+1,x3,x4,b100000_0,b100000_1,b100000_2,b100000_3_n,b200001=>
  (aO N.n 124 b100000_0 b100000_1 b100000_2 b100000_3_n b200001).bind fun z3=>
  match z3 with
  |.pan vz3=>
   some (.pan vz3)
  |.ok z4=>
   bif z4.1 then
    (cE N.n x3 z4.2.1 z4.2.2.1 z4.2.2.2.1 z4.2.2.2.2.1 z4.2.2.2.2.2).bind fun z5=>
    match z5 with
    |.pan vz5=>
     some (.pan vz5)
    |.ok z6=>
     (az N.n ({ kind:=1,a:=0,b:=0,set_:=(none:Option (List Bool)) }:Vstep) z6.2.1 z6.2.2.1 z6.2.2.2.1 z6.2.2.2.2.1 z6.2.2.2.2.2).bind fun z7=>
     match z7 with
     |.pan vz7=>
      some (.pan vz7)
     |.ok z8=>
      (eR z8.2.2.2.2.1 z8.1).bind fun z9=>
      (z8.2.2.2.2.2[z9]?).bind fun z10=>
      (bu N.n z6.1 x3 z8.2.1 z8.2.2.1 z8.2.2.2.1 z8.2.2.2.2.1 (List.set z8.2.2.2.2.2 z9 ({ kind:=z10.kind,a:=(z8.2.2.2.2.1:Int),b:=z10.b,set_:=z10.set_ }:Vstep))).bind fun z11=>
      match z11 with
      |.pan vz11=>
       some (.pan vz11)
      |.ok z12=>
       (az N.n ({ kind:=2,a:=0,b:=0,set_:=(none:Option (List Bool)) }:Vstep) z12.1 z12.2.1 z12.2.2.1 z12.2.2.2.1 z12.2.2.2.2).bind fun z13=>
       match z13 with
       |.pan vz13=>
        some (.pan vz13)
       |.ok z14=>
        (eR z14.2.2.2.2.1 z8.1).bind fun z15=>
        (z14.2.2.2.2.2[z15]?).bind fun z16=>
        (dB N z14.2.1 z14.2.2.1 z14.2.2.2.1 z14.2.2.2.2.1 (List.set z14.2.2.2.2.2 z15 ({ kind:=z16.kind,a:=z16.a,b:=(z14.2.2.2.2.1:Int),set_:=z16.set_ }:Vstep))).bind fun z17=>
        match z17 with
        |.pan vz17=>
         some (.pan vz17)
        |.ok z18=>
         bif z18.1 then
          cO N (bi N n) n true z14.1 z18.2.1 z18.2.2.1 z18.2.2.2.1 z18.2.2.2.2.1 z18.2.2.2.2.2
         else
          cO N (bi N n) n x4 z14.1 z18.2.1 z18.2.2.1 z18.2.2.2.1 z18.2.2.2.2.1 z18.2.2.2.2.2
   else
    some (.ok (x4,z4.2.1,z4.2.2.1,z4.2.2.2.1,z4.2.2.2.2.1,z4.2.2.2.2.2))
def bL(N:RecC)(y0_0:List UInt8)(y0_1:Int)(y0_2:Int)(y0_3:Nat)(y1:List Vstep):Option (PR aG):=
 (bW N y0_0 y0_1 y0_2 y0_3 y1).bind fun z1=>
 match z1 with
 |.pan vz1=>
  some (.pan vz1)
 |.ok z2=>
  bi N N.n (y0_3:Int) z2.1 z2.2.1 z2.2.2.1 z2.2.2.2.1 z2.2.2.2.2.1 z2.2.2.2.2.2
def bt(n0:Nat):Nat→(List UInt8)→Int→Int→Nat→(List Vstep)→Option (PR (Bool × (List UInt8) × Int × Int × Nat × (List Vstep)))
 |0,_,_,_,_,_=>none
 |m+1,y0_0,y0_1,y0_2,y0_3,y1=>bL ⟨n0,bt n0 m⟩ y0_0 y0_1 y0_2 y0_3 y1
abbrev aK:=(List (List UInt8)) × VMask
def br(N:Nat)(k3:(List UInt8)→(List Int)→(List (List UInt8))→Int→VMask→Option aK)(n:Nat)(x1:List UInt8)(x2:List Int)(x7:List (List UInt8))(x8:Int)(x9:List UInt8)(b100000:VMask):Option aK:=
 (jP 16 x7 ([x9] :List (List UInt8))).bind fun z7=>
 k3 x1 x2 z7 (w64 (x8+1)) b100000
def bg(N:Nat):Nat→(List UInt8)→(List Int)→(List (List UInt8))→Int→VMask→Option aK
 |0,_,_,_,_,_=>none
 |n+1,x1,x2,x7,x8,b100000=>
  bif decide (x8≤b100000.Groups) then
   (ap x2 (w64 (2 * x8))).bind fun z1=>
   bif decide (z1≥0) then
    (ap x2 (w64 ((w64 (2 * x8))+1))).bind fun z2=>
    (ap x2 (w64 (2 * x8))).bind fun z3=>
    bif decide (z2≥z3) then
     (ap x2 (w64 (2 * x8))).bind fun z4=>
     (ap x2 (w64 ((w64 (2 * x8))+1))).bind fun z5=>
     (kn x1 z4 z5).bind fun z6=>
     br N (bg N n) n x1 x2 x7 x8 z6 b100000
    else
     br N (bg N n) n x1 x2 x7 x8 ([] :List UInt8) b100000
   else
    br N (bg N n) n x1 x2 x7 x8 ([] :List UInt8) b100000
  else
   some (x7,b100000)
def bD(N:Nat)(x1:List UInt8)(x2:List Int)(y0:VMask):Option aK:=
 bg N N x1 x2 ([] :List (List UInt8)) 1 y0
def e9(N:Nat)(x0:UInt8):Option Bool:=
 bif decide ((b2i x0)≥(b2i 48)) then
  some (decide ((b2i x0)≤(b2i 57)))
 else
  some false
abbrev cI:=(List Vpiece) × Bool
def cF(N:Nat):Nat→(List UInt8)→(List Vpiece)→Option cI
 |0,_,_=>none
 |n+1,x0,x4=>
  bif !decide (x0=([] :List UInt8)) then
   (ap x0 0).bind fun z1=>
   bif (b2i z1) != (b2i 36) then
    (nW x0 ([36] :List UInt8)).bind fun z2=>
    (bX N z2 36).bind fun z3=>
    (kn x0 0 z3).bind fun z4=>
    (jP 24 x4 ([({ text:=z4,group:=(-1) }:Vpiece)] :List Vpiece)).bind fun z5=>
    (kn x0 z3 (x0.length:Int)).bind fun z6=>
    cF N n z6 z5
   else
    (kn x0 1 (x0.length:Int)).bind fun z7=>
    bif decide (z7=([] :List UInt8)) then
     some (([] :List Vpiece),false)
    else
     (ap z7 0).bind fun z8=>
     bif (b2i z8)==(b2i 36) then
      (jP 24 x4 ([({ text:=([36] :List UInt8),group:=(-1) }:Vpiece)] :List Vpiece)).bind fun z9=>
      (kn z7 1 (z7.length:Int)).bind fun z10=>
      cF N n z10 z9
     else
      (ap z7 0).bind fun z11=>
      (e9 N z11).bind fun z12=>
      bif z12 then
       (ap z7 0).bind fun z13=>
       (jP 24 x4 ([({ text:=([] :List UInt8),group:=w64 (b2i (toB (IntKind.wrap .u8 ((b2i z13) - (b2i 48))))) }:Vpiece)] :List Vpiece)).bind fun z14=>
       (kn z7 1 (z7.length:Int)).bind fun z15=>
       cF N n z15 z14
      else
       bif decide ((z7.length:Int) > 2) then
        (ap z7 0).bind fun z16=>
        bif (b2i z16)==(b2i 123) then
         (ap z7 1).bind fun z17=>
         (e9 N z17).bind fun z18=>
         bif z18 then
          (ap z7 2).bind fun z19=>
          bif (b2i z19)==(b2i 125) then
           (ap z7 1).bind fun z20=>
           (jP 24 x4 ([({ text:=([] :List UInt8),group:=w64 (b2i (toB (IntKind.wrap .u8 ((b2i z20) - (b2i 48))))) }:Vpiece)] :List Vpiece)).bind fun z21=>
           (kn z7 3 (z7.length:Int)).bind fun z22=>
           cF N n z22 z21
          else
           some (([] :List Vpiece),false)
         else
          some (([] :List Vpiece),false)
        else
         some (([] :List Vpiece),false)
       else
        some (([] :List Vpiece),false)
  else
   some (x4,true)
def iB(N:Nat)(x0:List UInt8):Option cI:=
 cF N N x0 ([] :List Vpiece)
structure RecC2 where
 n:Nat
 k:Nat→Vthread→Int→VMask→(List Vthread)→(List (Int × Bool))→Option (PR (Nat × VMask × (List Vthread) × (List (Int × Bool))))
def cZ(N:RecC2)(x1_n:Nat)(x3:Vthread)(x4:Int)(y0:VMask)(y1:List Vthread)(y2:List (Int × Bool)):Option (PR (Nat × VMask × (List Vthread) × (List (Int × Bool)))):=N.k x1_n x3 x4 y0 y1 y2
abbrev bo:=Nat × VMask × (List Vthread) × (List (Int × Bool))
def ae(N:RecC2)(n:Nat)(x1_n:Nat)(x4:Int)(b8:Vthread)(b11:Vstep)(b100000:VMask)(b100002:List (Int × Bool))(b200001:List Vthread):Option (PR bo):=
 bif b11.kind==2 then
  (cZ N x1_n ({ at_:=b11.a,slots:=b8.slots }:Vthread) x4 b100000 b200001 b100002).bind fun z121=>
  match z121 with
  |.pan vz121=>
   some (.pan vz121)
  |.ok z122=>
   some (.ok (z122.1,z122.2.1,z122.2.2.1,z122.2.2.2))
 else
  bif b11.kind==1 then
   (cZ N x1_n ({ at_:=b11.a,slots:=b8.slots }:Vthread) x4 b100000 b200001 b100002).bind fun z123=>
   match z123 with
   |.pan vz123=>
    some (.pan vz123)
   |.ok z124=>
    (cZ N z124.1 ({ at_:=b11.b,slots:=b8.slots }:Vthread) x4 z124.2.1 z124.2.2.1 z124.2.2.2).bind fun z125=>
    match z125 with
    |.pan vz125=>
     some (.pan vz125)
    |.ok z126=>
     some (.ok (z126.1,z126.2.1,z126.2.2.1,z126.2.2.2))
  else
   bif b11.kind==3 then
    (i6 N.n b8.slots).bind fun z127=>
    match z127 with
    |.pan vz127=>
     some (.pan vz127)
    |.ok z128=>
     (eR z128.1 b11.a).bind fun z129=>
     (z128.2[z129]?).bind fun z130=>
     (px z128.1 (List.set z128.2 z129 x4)).bind fun z131=>
     (cZ N x1_n ({ at_:=w64 (b8.at_+1),slots:=z131 }:Vthread) x4 b100000 b200001 b100002).bind fun z132=>
     match z132 with
     |.pan vz132=>
      some (.pan vz132)
     |.ok z133=>
      some (.ok (z133.1,z133.2.1,z133.2.2.1,z133.2.2.2))
   else
    (mb 32 x1_n b200001 ([b8] :List Vthread)).bind fun z134=>
    some (.ok (z134.length,b100000,z134,b100002))
def cy(N:RecC2)(x1_n:Nat)(x3:Vthread)(x4:Int)(y0:VMask)(y1:List Vthread)(y2:List (Int × Bool)):Option (PR bo):=
 bif (jv y2 x3.at_).getD false then
  some (.ok (x1_n,y0,y1,y2))
 else
  (ap y0.steps x3.at_).bind fun z120=>
  ae N N.n x1_n x4 x3 z120 y0 (aE y2 x3.at_ true) y1
def cG(n0:Nat):Nat→Nat→Vthread→Int→VMask→(List Vthread)→(List (Int × Bool))→Option (PR (Nat × VMask × (List Vthread) × (List (Int × Bool))))
 |0,_,_,_,_,_,_=>none
 |m+1,x1_n,x3,x4,y0,y1,y2=>cy ⟨n0,cG n0 m⟩ x1_n x3 x4 y0 y1 y2
def bR(N:Nat)(x1_n:Nat)(x3:Vthread)(x4:Int)(y0:VMask)(y1:List Vthread)(y2:List (Int × Bool)):Option (PR (Nat × VMask × (List Vthread) × (List (Int × Bool)))):=cG N N x1_n x3 x4 y0 y1 y2
end Go.Proofs.Ytlhjbhgkhpbnfaa
namespace Go.Proofs.Ytlhjbhgkhpbnfaa
open Go.RowKit P
set_option linter.unusedVariables false
set_option linter.unusedSimpArgs false
set_option maxRecDepth 100000
def eg(i0:Nat)(i1:Nat)(r:bG):TV EE.T:=.a (.d (.int .i64) r.1)
def rV(i0:Nat)(i1:Nat)(r:bG):List (Nat × TB EE.T):=[(i0,.cs [.d .str r.2.1,.d (.int .i64) r.2.2.1,.d (.int .i64) r.2.2.2.1,.vec (.nam 7) i1 r.2.2.2.2.1]),(i1,.vec i1 (.nam 7) r.2.2.2.2.2)]
def pH(r:PR bG):RL EE.T:=lX (eg 100000 200001) (rV 100000 200001) r
def Iy:Lvs:=⟨[(1,⟨[(0,false),(3,false)],[],[(3,(some 7,[])),(100000,(none,[])),(200001,(none,[]))],[]⟩)],[],[],[],false,[(100000,(none,[]))],[100000,200001],[],[(12,200001)]⟩
def HS:List ResultVar:=[.tmp 4]
def GC(N:Nat):Gam EE:=⟨[],EQT,[],[]⟩
theorem F5(N:Nat):GOk Try.prog TT EE (GC N):=GOk.nil dx
def Hi(c:Code):List It2:=[.c c]
def EN(x1:Vstep)(y0_0:List UInt8)(y0_1:Int)(y0_2:Int)(y0_3:Nat)(y1:List Vstep):TS EE.T:=⟨21,[(0,.a (.box 100000 0)),(1,.ag (eE EE (.nam 7) x1))],[(100000,.cs [.d .str y0_0,.d (.int .i64) y0_1,.d (.int .i64) y0_2,.vec (.nam 7) 200001 y0_3]),(200001,.vec 200001 (.nam 7) y1)],[]⟩
abbrev H6(N:Nat)(r:PR bG)(k:List It2)(s:TS EE.T):Prop:=fX (Y:=TT) EE (GC N) Iy HS (fun u=>u=pH r) k s
def HX(x:PR bG):Tree (Lf EE.T × Option (PR bG)):=.leaf (.done (pH x),some x)
theorem EQ{N:Nat}{r:PR bG}(x1:Vstep)(y0_0:List UInt8)(y0_1:Int)(y0_2:Int)(y0_3:Nat)(y1:List Vstep)(h:az N x1 y0_0 y0_1 y0_2 y0_3 y1=some r):H6 N r (Hi (ai 0 Try.f36)) (EN x1 y0_0 y0_1 y0_2 y0_3 y1):=
 aT (m:=4000) (t:=
 .bnd (mb 32 y0_3 y1 ([x1] :List Vstep)) fun z1=>
 HX (.ok (w64 ((z1.length:Int) - 1),y0_0,y0_1,y0_2,z1.length,z1))) (by kernel_rfl) (by kernel_rfl) h (fun _=>be (enc:=pH) rfl)
def Cd(x1:Vstep)(y0_0:List UInt8)(y0_1:Int)(y0_2:Int)(y0_3:Nat)(y1:List Vstep):List (TV EE.T):=[.a (.box 100000 0),.ag (eE EE (.nam 7) x1)]
def wJ(x1:Vstep)(y0_0:List UInt8)(y0_1:Int)(y0_2:Int)(y0_3:Nat)(y1:List Vstep):List (Nat × TB EE.T):=[(100000,.cs [.d .str y0_0,.d (.int .i64) y0_1,.d (.int .i64) y0_2,.vec (.nam 7) 200001 y0_3]),(200001,.vec 200001 (.nam 7) y1)]
theorem gt{N:Nat}(x1:Vstep)(y0_0:List UInt8)(y0_1:Int)(y0_2:Int)(y0_3:Nat)(y1:List Vstep){r:PR bG}(h:az N x1 y0_0 y0_1 y0_2 y0_3 y1=some r)(ρ:Rn)(hi:Inj ρ (wJ x1 y0_0 y0_1 y0_2 y0_3 y1)):aR Try.prog 36 ((Cd x1 y0_0 y0_1 y0_2 y0_3 y1).map (TV.to EE.toEnc ρ)) (hTo EE.toEnc ρ (wJ x1 y0_0 y0_1 y0_2 y0_3 y1)) (df EE ρ fun u=>u=pH r):=
 fg (ai 0 Try.f36) 21 mixed (F5 N) Try.func36 (by kernel_rfl) rfl rfl rfl rfl (EQ x1 y0_0 y0_1 y0_2 y0_3 y1 h) ρ hi
def dv(N:Nat)(us:List (TV EE.T))(hs:List (Nat × TB EE.T)):XR EE.T:=
 gdX (fJ us 2) <|
 bnX (aB us 0) fun i0=>
 bnX (aS EE 7 us 1) fun x1=>
 bnX (bC hs i0) fun l0=>
 gdX (fJ l0 4) <|
 bnX (cD .str l0 0) fun y0_0=>
 bnX (cD (.int .i64) l0 1) fun y0_1=>
 bnX (cD (.int .i64) l0 2) fun y0_2=>
 bnX (cVi (.nam 7) l0 3) fun i1=>
 bnX (cVn (.nam 7) l0 3) fun y0_3=>
 bnX (bV (.nam 7) hs i1) fun y1=>
 gdX (b9 hs [i0,i1]) <|
 gdX (hU [i0,i1]) <|
 .mv (az N x1 y0_0 y0_1 y0_2 y0_3 y1) [i0,i1] (mvL [i0,i1] [100000,200001]) 0 (eg i0 i1) (rV i0 i1)
theorem dK(N:Nat):XOk Try.prog EE 36 (dv N):=fun us hs=>
 ba fun h1=>aC fun i0 h2=>aC fun x1 h3=>aC fun l0 h4=>ba fun h5=>aC fun y0_0 h6=>aC fun y0_1 h7=>aC fun y0_2 h8=>aC fun i1 h9=>aC fun y0_3 h10=>aC fun y1 h11=>ba fun h12=>ba fun h13=>fun p hz ρ hi=>fW (ex:=[]) (ks:=[100000,200001]) (us':=Cd x1 y0_0 y0_1 y0_2 y0_3 y1) (h0:=wJ x1 y0_0 y0_1 y0_2 y0_3 y1) (ρ':=mR ρ [i0,i1]) (uc:=eg 100000 200001) (u:=eg i0 i1) (hc:=rV 100000 200001) (h:=rV i0 i1) hi h12 (by kernel_rfl) ⟨iR h2 (by kernel_rfl),GY h3,cq h1⟩ ⟨(by kernel_rfl),kV h4 ⟨dt h6,dt h7,dt h8,io h9 h10 (by kernel_rfl),cq h5⟩,(by kernel_rfl),jf h11 (by kernel_rfl),trivial⟩ ⟨.inr rfl,.inl rfl,trivial⟩ h13 (fun hj=>gt x1 y0_0 y0_1 y0_2 y0_3 y1 hz _ hj) (fun z=>⟨by kernel_rfl,by kernel_rfl,by kernel_rfl,by kernel_rfl⟩)
def dX(i0:Nat)(i1:Nat)(r:bx):TV EE.T:=.tu [.a (.d .byte r.1),.a (.d .bool r.2.1)]
def sg(i0:Nat)(i1:Nat)(r:bx):List (Nat × TB EE.T):=[(i0,.cs [.d .str r.2.2.1,.d (.int .i64) r.2.2.2.1,.d (.int .i64) r.2.2.2.2.1,.vec (.nam 7) i1 r.2.2.2.2.2.1]),(i1,.vec i1 (.nam 7) r.2.2.2.2.2.2)]
def mH(r:PR bx):RL EE.T:=lX (dX 100000 200001) (sg 100000 200001) r
def Im:Lvs:=⟨[(1,⟨[(0,false)],[],[(100000,(none,[])),(200001,(none,[]))],[]⟩),(2,⟨[(0,false)],[],[(100000,(none,[])),(200001,(none,[]))],[]⟩)],[],[],[],false,[(100000,(none,[]))],[100000,200001],[],[]⟩
def Ib:List ResultVar:=[.tmp 2,.tmp 3]
def EZ(N:Nat):Gam EE:=⟨[],EQT,[],[]⟩
theorem DO(N:Nat):GOk Try.prog TT EE (EZ N):=GOk.nil dx
def DQ(c:Code):List It2:=[.c c]
def FG(y0_0:List UInt8)(y0_1:Int)(y0_2:Int)(y0_3:Nat)(y1:List Vstep):TS EE.T:=⟨23,[(0,.a (.box 100000 0))],[(100000,.cs [.d .str y0_0,.d (.int .i64) y0_1,.d (.int .i64) y0_2,.vec (.nam 7) 200001 y0_3]),(200001,.vec 200001 (.nam 7) y1)],[]⟩
abbrev HO(N:Nat)(r:PR bx)(k:List It2)(s:TS EE.T):Prop:=fX (Y:=TT) EE (EZ N) Im Ib (fun u=>u=mH r) k s
def B3(x:PR bx):Tree (Lf EE.T × Option (PR bx)):=.leaf (.done (mH x),some x)
theorem Gl{N:Nat}{r:PR bx}(y0_0:List UInt8)(y0_1:Int)(y0_2:Int)(y0_3:Nat)(y1:List Vstep)(h:aW N y0_0 y0_1 y0_2 y0_3 y1=some r):HO N r (DQ (ai 0 Try.f61)) (FG y0_0 y0_1 y0_2 y0_3 y1):=
 aT (m:=4000) (t:=
 .cond (decide (y0_1 < (y0_0.length:Int)))
 (
  .bnd (ap y0_0 y0_1) fun z1=>
  B3 (.ok (z1,true,y0_0,y0_1,y0_2,y0_3,y1)))
 (
  B3 (.ok (0,false,y0_0,y0_1,y0_2,y0_3,y1)))) (by kernel_rfl) (by kernel_rfl) h (⟨fun _=>be (enc:=mH) rfl,be (enc:=mH) rfl⟩)
def Ce(y0_0:List UInt8)(y0_1:Int)(y0_2:Int)(y0_3:Nat)(y1:List Vstep):List (TV EE.T):=[.a (.box 100000 0)]
def wN(y0_0:List UInt8)(y0_1:Int)(y0_2:Int)(y0_3:Nat)(y1:List Vstep):List (Nat × TB EE.T):=[(100000,.cs [.d .str y0_0,.d (.int .i64) y0_1,.d (.int .i64) y0_2,.vec (.nam 7) 200001 y0_3]),(200001,.vec 200001 (.nam 7) y1)]
theorem j8{N:Nat}(y0_0:List UInt8)(y0_1:Int)(y0_2:Int)(y0_3:Nat)(y1:List Vstep){r:PR bx}(h:aW N y0_0 y0_1 y0_2 y0_3 y1=some r)(ρ:Rn)(hi:Inj ρ (wN y0_0 y0_1 y0_2 y0_3 y1)):aR Try.prog 61 ((Ce y0_0 y0_1 y0_2 y0_3 y1).map (TV.to EE.toEnc ρ)) (hTo EE.toEnc ρ (wN y0_0 y0_1 y0_2 y0_3 y1)) (df EE ρ fun u=>u=mH r):=
 fg (ai 0 Try.f61) 23 mixed (DO N) Try.func61 (by kernel_rfl) rfl rfl rfl rfl (Gl y0_0 y0_1 y0_2 y0_3 y1 h) ρ hi
def cC(N:Nat)(us:List (TV EE.T))(hs:List (Nat × TB EE.T)):XR EE.T:=
 gdX (fJ us 1) <|
 bnX (aB us 0) fun i0=>
 bnX (bC hs i0) fun l0=>
 gdX (fJ l0 4) <|
 bnX (cD .str l0 0) fun y0_0=>
 bnX (cD (.int .i64) l0 1) fun y0_1=>
 bnX (cD (.int .i64) l0 2) fun y0_2=>
 bnX (cVi (.nam 7) l0 3) fun i1=>
 bnX (cVn (.nam 7) l0 3) fun y0_3=>
 bnX (bV (.nam 7) hs i1) fun y1=>
 gdX (b9 hs [i0,i1]) <|
 gdX (hU [i0,i1]) <|
 .mv (aW N y0_0 y0_1 y0_2 y0_3 y1) [i0,i1] (mvL [i0,i1] [100000,200001]) 0 (dX i0 i1) (sg i0 i1)
theorem cN(N:Nat):XOk Try.prog EE 61 (cC N):=fun us hs=>
 ba fun h1=>aC fun i0 h2=>aC fun l0 h3=>ba fun h4=>aC fun y0_0 h5=>aC fun y0_1 h6=>aC fun y0_2 h7=>aC fun i1 h8=>aC fun y0_3 h9=>aC fun y1 h10=>ba fun h11=>ba fun h12=>fun p hz ρ hi=>fW (ex:=[]) (ks:=[100000,200001]) (us':=Ce y0_0 y0_1 y0_2 y0_3 y1) (h0:=wN y0_0 y0_1 y0_2 y0_3 y1) (ρ':=mR ρ [i0,i1]) (uc:=dX 100000 200001) (u:=dX i0 i1) (hc:=sg 100000 200001) (h:=sg i0 i1) hi h11 (by kernel_rfl) ⟨iR h2 (by kernel_rfl),cq h1⟩ ⟨(by kernel_rfl),kV h3 ⟨dt h5,dt h6,dt h7,io h8 h9 (by kernel_rfl),cq h4⟩,(by kernel_rfl),jf h10 (by kernel_rfl),trivial⟩ ⟨.inr rfl,.inl rfl,trivial⟩ h12 (fun hj=>j8 y0_0 y0_1 y0_2 y0_3 y1 hz _ hj) (fun z=>⟨by kernel_rfl,by kernel_rfl,by kernel_rfl,by kernel_rfl⟩)
def d7(i0:Nat)(i1:Nat)(r:bw):TV EE.T:=.tu []
def rU(i0:Nat)(i1:Nat)(r:bw):List (Nat × TB EE.T):=[(i0,.cs [.d .str r.1,.d (.int .i64) r.2.1,.d (.int .i64) r.2.2.1,.vec (.nam 7) i1 r.2.2.2.1]),(i1,.vec i1 (.nam 7) r.2.2.2.2)]
def pm(r:PR bw):RL EE.T:=lX (d7 100000 200001) (rU 100000 200001) r
def IG:Lvs:=⟨[],[],[],[],false,[],[100000,200001],[],[]⟩
def HW:List ResultVar:=[]
def EP(N:Nat):Gam EE:=⟨[],EQT,[],[]⟩
theorem Eg(N:Nat):GOk Try.prog TT EE (EP N):=GOk.nil dx
def FI(c:Code):List It2:=[.c c]
def Hg(x1:Int)(x2:Int)(y0_0:List UInt8)(y0_1:Int)(y0_2:Int)(y0_3:Nat)(y1:List Vstep):TS EE.T:=⟨10,[(0,.a (.box 100000 0)),(1,.a (.d (.int .i64) x1)),(2,.a (.d (.int .i64) x2))],[(100000,.cs [.d .str y0_0,.d (.int .i64) y0_1,.d (.int .i64) y0_2,.vec (.nam 7) 200001 y0_3]),(200001,.vec 200001 (.nam 7) y1)],[]⟩
abbrev IQ(N:Nat)(r:PR bw)(k:List It2)(s:TS EE.T):Prop:=fX (Y:=TT) EE (EP N) IG HW (fun u=>u=pm r) k s
def Ig(x:PR bw):Tree (Lf EE.T × Option (PR bw)):=.leaf (.done (pm x),some x)
theorem Fm{N:Nat}{r:PR bw}(x1:Int)(x2:Int)(y0_0:List UInt8)(y0_1:Int)(y0_2:Int)(y0_3:Nat)(y1:List Vstep)(h:aX N x1 x2 y0_0 y0_1 y0_2 y0_3 y1=some r):IQ N r (FI (ai 0 Try.f35)) (Hg x1 x2 y0_0 y0_1 y0_2 y0_3 y1):=
 aT (m:=4000) (t:=
 Ig (.pan (Value.iface 28 (.agg #[.int .i64 x1,.int .i64 x2])))) (by kernel_rfl) (by kernel_rfl) h (be (enc:=pm) rfl)
def BD(x1:Int)(x2:Int)(y0_0:List UInt8)(y0_1:Int)(y0_2:Int)(y0_3:Nat)(y1:List Vstep):List (TV EE.T):=[.a (.box 100000 0),.a (.d (.int .i64) x1),.a (.d (.int .i64) x2)]
def wz(x1:Int)(x2:Int)(y0_0:List UInt8)(y0_1:Int)(y0_2:Int)(y0_3:Nat)(y1:List Vstep):List (Nat × TB EE.T):=[(100000,.cs [.d .str y0_0,.d (.int .i64) y0_1,.d (.int .i64) y0_2,.vec (.nam 7) 200001 y0_3]),(200001,.vec 200001 (.nam 7) y1)]
theorem fZ{N:Nat}(x1:Int)(x2:Int)(y0_0:List UInt8)(y0_1:Int)(y0_2:Int)(y0_3:Nat)(y1:List Vstep){r:PR bw}(h:aX N x1 x2 y0_0 y0_1 y0_2 y0_3 y1=some r)(ρ:Rn)(hi:Inj ρ (wz x1 x2 y0_0 y0_1 y0_2 y0_3 y1)):aR Try.prog 35 ((BD x1 x2 y0_0 y0_1 y0_2 y0_3 y1).map (TV.to EE.toEnc ρ)) (hTo EE.toEnc ρ (wz x1 x2 y0_0 y0_1 y0_2 y0_3 y1)) (df EE ρ fun u=>u=pm r):=
 fg (ai 0 Try.f35) 10 mixed (Eg N) Try.func35 (by kernel_rfl) rfl rfl rfl rfl (Fm x1 x2 y0_0 y0_1 y0_2 y0_3 y1 h) ρ hi
def dl(N:Nat)(us:List (TV EE.T))(hs:List (Nat × TB EE.T)):XR EE.T:=
 gdX (fJ us 3) <|
 bnX (aB us 0) fun i0=>
 bnX (aD (.int .i64) us 1) fun x1=>
 bnX (aD (.int .i64) us 2) fun x2=>
 bnX (bC hs i0) fun l0=>
 gdX (fJ l0 4) <|
 bnX (cD .str l0 0) fun y0_0=>
 bnX (cD (.int .i64) l0 1) fun y0_1=>
 bnX (cD (.int .i64) l0 2) fun y0_2=>
 bnX (cVi (.nam 7) l0 3) fun i1=>
 bnX (cVn (.nam 7) l0 3) fun y0_3=>
 bnX (bV (.nam 7) hs i1) fun y1=>
 gdX (b9 hs [i0,i1]) <|
 gdX (hU [i0,i1]) <|
 .mv (aX N x1 x2 y0_0 y0_1 y0_2 y0_3 y1) [i0,i1] (mvL [i0,i1] [100000,200001]) 0 (d7 i0 i1) (rU i0 i1)
theorem dz(N:Nat):XOk Try.prog EE 35 (dl N):=fun us hs=>
 ba fun h1=>aC fun i0 h2=>aC fun x1 h3=>aC fun x2 h4=>aC fun l0 h5=>ba fun h6=>aC fun y0_0 h7=>aC fun y0_1 h8=>aC fun y0_2 h9=>aC fun i1 h10=>aC fun y0_3 h11=>aC fun y1 h12=>ba fun h13=>ba fun h14=>fun p hz ρ hi=>fW (ex:=[]) (ks:=[100000,200001]) (us':=BD x1 x2 y0_0 y0_1 y0_2 y0_3 y1) (h0:=wz x1 x2 y0_0 y0_1 y0_2 y0_3 y1) (ρ':=mR ρ [i0,i1]) (uc:=d7 100000 200001) (u:=d7 i0 i1) (hc:=rU 100000 200001) (h:=rU i0 i1) hi h13 (by kernel_rfl) ⟨iR h2 (by kernel_rfl),mQ h3,mQ h4,cq h1⟩ ⟨(by kernel_rfl),kV h5 ⟨dt h7,dt h8,dt h9,io h10 h11 (by kernel_rfl),cq h6⟩,(by kernel_rfl),jf h12 (by kernel_rfl),trivial⟩ ⟨.inr rfl,.inl rfl,trivial⟩ h14 (fun hj=>fZ x1 x2 y0_0 y0_1 y0_2 y0_3 y1 hz _ hj) (fun z=>⟨by kernel_rfl,by kernel_rfl,by kernel_rfl,by kernel_rfl⟩)
def oS(r:fO):TV EE.T:=.a (.d (.ptr (.bits 256)) r)
def Bp(r:fO):RL EE.T:=.ret (oS r) []
def Mk:Lvs:=⟨[],[],[],[],false,[],[],[(3,[.cl 3 (.a 256) (.s 3)])],[]⟩
def LJ:List ResultVar:=[.tmp 2]
def LC(N:Nat):Gam EE:=⟨[],EQT,[],[]⟩
theorem Kj(N:Nat):GOk Try.prog TT EE (LC N):=GOk.nil dx
def Ly(c:Code):List It2:=[.c c]
def KH(x0:UInt8):TS EE.T:=⟨6,[(0,.a (.d .byte x0))],[],[]⟩
abbrev Mq(N:Nat)(r:fO)(k:List It2)(s:TS EE.T):Prop:=fX (Y:=TT) EE (LC N) Mk LJ (fun u=>u=Bp r) k s
def LF(x:fO):Tree (Lf EE.T × Option fO):=.leaf (.done (Bp x),some x)
theorem Lq{N:Nat}{r:fO}(x0:UInt8)(h:fH N x0=some r):Mq N r (Ly (ai 0 Try.f68)) (KH x0):=
 aT (m:=4000) (t:=
 .bnd (eR 256 (b2i x0)) fun z1=>
 .bnd (uX (List.replicate 256 false) (0+z1) true) fun z2=>
 .bnd (px 256 z2) fun z3=>
 LF (some z3)) (by kernel_rfl) (by kernel_rfl) h (fun _=>fun _=>fun _=>be (enc:=Bp) rfl)
theorem zS{N:Nat}(x0:UInt8){r:fO}(h:fH N x0=some r)(ρ:Rn):aR Try.prog 68 (([.a (.d .byte x0)] :List (TV EE.T)).map (TV.to EE.toEnc ρ)) [] (fun out H=>out=.ret ((oS r).to EE.toEnc ρ)∧H=[]):=
 (o9 (ai 0 Try.f68) 6 mixed (Kj N) Try.func68 (by kernel_rfl) rfl rfl rfl rfl (Lq x0 h) ρ).mono fun out H h=>df.ret rfl h
def o3(N:Nat):List (TV EE.T)→PV EE.T
 | [u0] =>match j9 .byte u0 with
   |some x0=>.opt (fH N x0) oS
   |_=>.bad
 |_=>.bad
theorem wV(N:Nat)(us:List (TV EE.T)):(o3 N us).ok fun u=>∀ρ,aR Try.prog 68 (us.map (TV.to EE.toEnc ρ)) [] (fun out H=>out=.ret (u.to EE.toEnc ρ)∧H=[]):=by
 unfold o3
 split
 ·split
  ·rename_i h0
   intro z hz ρ;refine fo ?_ (zS _ hz ρ);exact⟨em h0 ρ,trivial⟩
  ·trivial
 ·trivial
def ei(i0:Nat)(i1:Nat)(r:bH):TV EE.T:=.a (.d .bool r.1)
def rS(i0:Nat)(i1:Nat)(r:bH):List (Nat × TB EE.T):=[(i0,.cs [.d .str r.2.1,.d (.int .i64) r.2.2.1,.d (.int .i64) r.2.2.2.1,.vec (.nam 7) i1 r.2.2.2.2.1]),(i1,.vec i1 (.nam 7) r.2.2.2.2.2)]
def ji(r:PR bH):RL EE.T:=lX (ei 100000 200001) (rS 100000 200001) r
def If:Lvs:=⟨[],[],[],[],false,[(100000,(none,[]))],[100000,200001],[],[]⟩
def HN:List ResultVar:=[.tmp 4]
def GU(N:Nat):Gam EE:=⟨[],EQT,[⟨61,cC N⟩],[]⟩
theorem EF(N:Nat):GOk Try.prog TT EE (GU N):=GOk.consx (cN N) (GOk.nil dx)
def FL(c:Code):List It2:=[.c c]
def EX(x1:UInt8)(y0_0:List UInt8)(y0_1:Int)(y0_2:Int)(y0_3:Nat)(y1:List Vstep):TS EE.T:=⟨25,[(0,.a (.box 100000 0)),(1,.a (.d .byte x1))],[(100000,.cs [.d .str y0_0,.d (.int .i64) y0_1,.d (.int .i64) y0_2,.vec (.nam 7) 200001 y0_3]),(200001,.vec 200001 (.nam 7) y1)],[]⟩
abbrev IE(N:Nat)(r:PR bH)(k:List It2)(s:TS EE.T):Prop:=fX (Y:=TT) EE (GU N) If HN (fun u=>u=ji r) k s
def rT(x:PR bH):Tree (Lf EE.T × Option (PR bH)):=.leaf (.done (ji x),some x)
theorem E2{N:Nat}{r:PR bH}(x1:UInt8)(y0_0:List UInt8)(y0_1:Int)(y0_2:Int)(y0_3:Nat)(y1:List Vstep)(h:aO N x1 y0_0 y0_1 y0_2 y0_3 y1=some r):IE N r (FL (ai 0 Try.f50)) (EX x1 y0_0 y0_1 y0_2 y0_3 y1):=
 aT (m:=4000) (t:=
 .bnd (aW N y0_0 y0_1 y0_2 y0_3 y1) fun z1=>
 .sm z1 (fun z2=>
  .cond (z2.2.1)
  (
   .cond ((b2i z2.1)==(b2i x1))
   (
    rT (.ok (true,z2.2.2.1,w64 (z2.2.2.2.1+1),z2.2.2.2.2.1,z2.2.2.2.2.2.1,z2.2.2.2.2.2.2)))
   (
    rT (.ok (false,z2.2.2.1,z2.2.2.2.1,z2.2.2.2.2.1,z2.2.2.2.2.2.1,z2.2.2.2.2.2.2))))
  (
   rT (.ok (false,z2.2.2.1,z2.2.2.2.1,z2.2.2.2.2.1,z2.2.2.2.2.2.1,z2.2.2.2.2.2.2)))) (fun vz1=>
  rT (.pan vz1))) (by kernel_rfl) (by kernel_rfl) h (fun _=>⟨fun _=>⟨⟨be (enc:=ji) rfl,be (enc:=ji) rfl⟩,be (enc:=ji) rfl⟩,fun _=>be (enc:=ji) rfl⟩)
def BS(x1:UInt8)(y0_0:List UInt8)(y0_1:Int)(y0_2:Int)(y0_3:Nat)(y1:List Vstep):List (TV EE.T):=[.a (.box 100000 0),.a (.d .byte x1)]
def wY(x1:UInt8)(y0_0:List UInt8)(y0_1:Int)(y0_2:Int)(y0_3:Nat)(y1:List Vstep):List (Nat × TB EE.T):=[(100000,.cs [.d .str y0_0,.d (.int .i64) y0_1,.d (.int .i64) y0_2,.vec (.nam 7) 200001 y0_3]),(200001,.vec 200001 (.nam 7) y1)]
theorem kU{N:Nat}(x1:UInt8)(y0_0:List UInt8)(y0_1:Int)(y0_2:Int)(y0_3:Nat)(y1:List Vstep){r:PR bH}(h:aO N x1 y0_0 y0_1 y0_2 y0_3 y1=some r)(ρ:Rn)(hi:Inj ρ (wY x1 y0_0 y0_1 y0_2 y0_3 y1)):aR Try.prog 50 ((BS x1 y0_0 y0_1 y0_2 y0_3 y1).map (TV.to EE.toEnc ρ)) (hTo EE.toEnc ρ (wY x1 y0_0 y0_1 y0_2 y0_3 y1)) (df EE ρ fun u=>u=ji r):=
 fg (ai 0 Try.f50) 25 mixed (EF N) Try.func50 (by kernel_rfl) rfl rfl rfl rfl (E2 x1 y0_0 y0_1 y0_2 y0_3 y1 h) ρ hi
def ef(N:Nat)(us:List (TV EE.T))(hs:List (Nat × TB EE.T)):XR EE.T:=
 gdX (fJ us 2) <|
 bnX (aB us 0) fun i0=>
 bnX (aD .byte us 1) fun x1=>
 bnX (bC hs i0) fun l0=>
 gdX (fJ l0 4) <|
 bnX (cD .str l0 0) fun y0_0=>
 bnX (cD (.int .i64) l0 1) fun y0_1=>
 bnX (cD (.int .i64) l0 2) fun y0_2=>
 bnX (cVi (.nam 7) l0 3) fun i1=>
 bnX (cVn (.nam 7) l0 3) fun y0_3=>
 bnX (bV (.nam 7) hs i1) fun y1=>
 gdX (b9 hs [i0,i1]) <|
 gdX (hU [i0,i1]) <|
 .mv (aO N x1 y0_0 y0_1 y0_2 y0_3 y1) [i0,i1] (mvL [i0,i1] [100000,200001]) 0 (ei i0 i1) (rS i0 i1)
theorem eI(N:Nat):XOk Try.prog EE 50 (ef N):=fun us hs=>
 ba fun h1=>aC fun i0 h2=>aC fun x1 h3=>aC fun l0 h4=>ba fun h5=>aC fun y0_0 h6=>aC fun y0_1 h7=>aC fun y0_2 h8=>aC fun i1 h9=>aC fun y0_3 h10=>aC fun y1 h11=>ba fun h12=>ba fun h13=>fun p hz ρ hi=>fW (ex:=[]) (ks:=[100000,200001]) (us':=BS x1 y0_0 y0_1 y0_2 y0_3 y1) (h0:=wY x1 y0_0 y0_1 y0_2 y0_3 y1) (ρ':=mR ρ [i0,i1]) (uc:=ei 100000 200001) (u:=ei i0 i1) (hc:=rS 100000 200001) (h:=rS i0 i1) hi h12 (by kernel_rfl) ⟨iR h2 (by kernel_rfl),mQ h3,cq h1⟩ ⟨(by kernel_rfl),kV h4 ⟨dt h6,dt h7,dt h8,io h9 h10 (by kernel_rfl),cq h5⟩,(by kernel_rfl),jf h11 (by kernel_rfl),trivial⟩ ⟨.inr rfl,.inl rfl,trivial⟩ h13 (fun hj=>kU x1 y0_0 y0_1 y0_2 y0_3 y1 hz _ hj) (fun z=>⟨by kernel_rfl,by kernel_rfl,by kernel_rfl,by kernel_rfl⟩)
def fV(r:Int):TV EE.T:=.a (.d (.int .i64) r)
def AB(r:Int):RL EE.T:=.ret (fV r) []
def MG:Lvs:=⟨[],[],[],[],false,[],[],[],[]⟩
def Mu:List ResultVar:=[.tmp 4]
def Ml(N:Nat):Gam EE:=⟨[⟨59,jA N⟩],EQT,[],[]⟩
theorem Li(N:Nat):GOk Try.prog TT EE (Ml N):=GOk.cons (pZ N) (GOk.nil dx)
def KK(c:Code):List It2:=[.c c]
def K8(x0:List UInt8)(x1:UInt8):TS EE.T:=⟨8,[(0,.a (.d .str x0)),(1,.a (.d .byte x1))],[],[]⟩
abbrev Mr(N:Nat)(r:Int)(k:List It2)(s:TS EE.T):Prop:=fX (Y:=TT) EE (Ml N) MG Mu (fun u=>u=AB r) k s
def L0(x:Int):Tree (Lf EE.T × Option Int):=.leaf (.done (AB x),some x)
theorem Lo{N:Nat}{r:Int}(x0:List UInt8)(x1:UInt8)(h:bX N x0 x1=some r):Mr N r (KK (ai 0 Try.f46)) (K8 x0 x1):=
 aT (m:=4000) (t:=
 .bnd (lm N x0 x1) fun z1=>
 L0 z1) (by kernel_rfl) (by kernel_rfl) h (fun _=>be (enc:=AB) rfl)
theorem mr{N:Nat}(x0:List UInt8)(x1:UInt8){r:Int}(h:bX N x0 x1=some r)(ρ:Rn):aR Try.prog 46 (([.a (.d .str x0),.a (.d .byte x1)] :List (TV EE.T)).map (TV.to EE.toEnc ρ)) [] (fun out H=>out=.ret ((fV r).to EE.toEnc ρ)∧H=[]):=
 (o9 (ai 0 Try.f46) 8 mixed (Li N) Try.func46 (by kernel_rfl) rfl rfl rfl rfl (Lo x0 x1 h) ρ).mono fun out H h=>df.ret rfl h
def ea(N:Nat):List (TV EE.T)→PV EE.T
 | [u0,u1] =>match j9 .str u0,j9 .byte u1 with
   |some x0,some x1=>.opt (bX N x0 x1) fV
   |_,_=>.bad
 |_=>.bad
theorem fx(N:Nat)(us:List (TV EE.T)):(ea N us).ok fun u=>∀ρ,aR Try.prog 46 (us.map (TV.to EE.toEnc ρ)) [] (fun out H=>out=.ret (u.to EE.toEnc ρ)∧H=[]):=by
 unfold ea
 split
 ·split
  ·rename_i h0 h1
   intro z hz ρ;refine fo ?_ (mr _ _ hz ρ);exact⟨em h0 ρ,em h1 ρ,trivial⟩
  ·trivial
 ·trivial
def dN(i0:Nat)(i1:Nat)(r:a6):TV EE.T:=.a (.d .byte r.1)
def rE(i0:Nat)(i1:Nat)(r:a6):List (Nat × TB EE.T):=[(i0,.cs [.d .str r.2.1,.d (.int .i64) r.2.2.1,.d (.int .i64) r.2.2.2.1,.vec (.nam 7) i1 r.2.2.2.2.1]),(i1,.vec i1 (.nam 7) r.2.2.2.2.2)]
def jx(r:PR a6):RL EE.T:=lX (dN 100000 200001) (rE 100000 200001) r
def Io:Lvs:=⟨[(3,⟨[(0,false),(3,false)],[],[(100000,(none,[])),(200001,(none,[]))],[]⟩)],[],[3],[],false,[(100000,(none,[]))],[100000,200001],[],[]⟩
def H7:List ResultVar:=[.tmp 2]
def G8(N:Nat):Gam EE:=⟨[⟨46,ea N⟩],EQT,[⟨35,dl N⟩,⟨61,cC N⟩],[]⟩
theorem DL(N:Nat):GOk Try.prog TT EE (G8 N):=GOk.cons (fx N) (GOk.consx (dz N) (GOk.consx (cN N) (GOk.nil dx)))
def Aa(c:Code):List It2:=atR 3 c
def zN(x3:UInt8)(b100000_0:List UInt8)(b100000_1:Int)(b100000_2:Int)(b100000_3_n:Nat)(b200001:List Vstep):TS EE.T:=⟨31,[(0,.a (.box 100000 0)),(3,.a (.d .byte x3))],[(100000,.cs [.d .str b100000_0,.d (.int .i64) b100000_1,.d (.int .i64) b100000_2,.vec (.nam 7) 200001 b100000_3_n]),(200001,.vec 200001 (.nam 7) b200001)],[]⟩
def Ev(c:Code):List It2:=[.c c]
def Gb(y0_0:List UInt8)(y0_1:Int)(y0_2:Int)(y0_3:Nat)(y1:List Vstep):TS EE.T:=⟨31,[(0,.a (.box 100000 0))],[(100000,.cs [.d .str y0_0,.d (.int .i64) y0_1,.d (.int .i64) y0_2,.vec (.nam 7) 200001 y0_3]),(200001,.vec 200001 (.nam 7) y1)],[]⟩
def yu(c:Code)(f:UInt8→(List UInt8)→Int→Int→Nat→(List Vstep)→Option (PR a6))(x3:UInt8)(b100000_0:List UInt8)(b100000_1:Int)(b100000_2:Int)(b100000_3_n:Nat)(b200001:List Vstep):Tree (Lf EE.T × Option (PR a6)):=.leaf (.go (Aa c) (zN x3 b100000_0 b100000_1 b100000_2 b100000_3_n b200001),f x3 b100000_0 b100000_1 b100000_2 b100000_3_n b200001)
abbrev BZ(N:Nat)(r:PR a6)(k:List It2)(s:TS EE.T):Prop:=fX (Y:=TT) EE (G8 N) Io H7 (fun u=>u=jx r) k s
def so(x:PR a6):Tree (Lf EE.T × Option (PR a6)):=.leaf (.done (jx x),some x)
theorem zi{N:Nat}{r:PR a6}(n:Nat)(x3:UInt8)(b100000_0:List UInt8)(b100000_1:Int)(b100000_2:Int)(b100000_3_n:Nat)(b200001:List Vstep)(h:cP N n x3 b100000_0 b100000_1 b100000_2 b100000_3_n b200001=some r):BZ N r (Aa (ai 0 Try.f70)) (zN x3 b100000_0 b100000_1 b100000_2 b100000_3_n b200001):=
 aT (m:=4000) (t:=
 .bnd (aX N 1 b100000_1 b100000_0 b100000_1 b100000_2 b100000_3_n b200001) fun z4=>
 .sm z4 (fun z5=>
  so (.ok (x3,z5.1,w64 (z5.2.1+1),z5.2.2.1,z5.2.2.2.1,z5.2.2.2.2))) (fun vz4=>
  so (.pan vz4))) (by kernel_rfl) (by kernel_rfl) h (fun _=>⟨fun _=>be (enc:=jx) rfl,fun _=>be (enc:=jx) rfl⟩)
theorem Hs{N:Nat}{r:PR a6}(y0_0:List UInt8)(y0_1:Int)(y0_2:Int)(y0_3:Nat)(y1:List Vstep)(h:cn N y0_0 y0_1 y0_2 y0_3 y1=some r):BZ N r (Ev (ai 0 Try.f70)) (Gb y0_0 y0_1 y0_2 y0_3 y1):=
 aT (m:=4000) (t:=
 .bnd (aW N y0_0 y0_1 y0_2 y0_3 y1) fun z1=>
 .sm z1 (fun z2=>
  .cond (!z2.2.1)
  (
   yu (ai 0 Try.f70) (cP N N) z2.1 z2.2.2.1 z2.2.2.2.1 z2.2.2.2.2.1 z2.2.2.2.2.2.1 z2.2.2.2.2.2.2)
  (
   .bnd (bX N ([91,93,92,94,45] :List UInt8) z2.1) fun z3=>
   .cond (decide (z3≥0))
   (
    yu (ai 0 Try.f70) (cP N N) z2.1 z2.2.2.1 z2.2.2.2.1 z2.2.2.2.2.1 z2.2.2.2.2.2.1 z2.2.2.2.2.2.2)
   (
    so (.ok (z2.1,z2.2.2.1,w64 (z2.2.2.2.1+1),z2.2.2.2.2.1,z2.2.2.2.2.2.1,z2.2.2.2.2.2.2))))) (fun vz1=>
  so (.pan vz1))) (by kernel_rfl) (by kernel_rfl) h (fun _=>⟨fun _=>⟨fun h=>zi N _ _ _ _ _ _ h,fun _=>⟨fun h=>zi N _ _ _ _ _ _ h,be (enc:=jx) rfl⟩⟩,fun _=>be (enc:=jx) rfl⟩)
def CE(y0_0:List UInt8)(y0_1:Int)(y0_2:Int)(y0_3:Nat)(y1:List Vstep):List (TV EE.T):=[.a (.box 100000 0)]
def xd(y0_0:List UInt8)(y0_1:Int)(y0_2:Int)(y0_3:Nat)(y1:List Vstep):List (Nat × TB EE.T):=[(100000,.cs [.d .str y0_0,.d (.int .i64) y0_1,.d (.int .i64) y0_2,.vec (.nam 7) 200001 y0_3]),(200001,.vec 200001 (.nam 7) y1)]
theorem jK{N:Nat}(y0_0:List UInt8)(y0_1:Int)(y0_2:Int)(y0_3:Nat)(y1:List Vstep){r:PR a6}(h:cn N y0_0 y0_1 y0_2 y0_3 y1=some r)(ρ:Rn)(hi:Inj ρ (xd y0_0 y0_1 y0_2 y0_3 y1)):aR Try.prog 70 ((CE y0_0 y0_1 y0_2 y0_3 y1).map (TV.to EE.toEnc ρ)) (hTo EE.toEnc ρ (xd y0_0 y0_1 y0_2 y0_3 y1)) (df EE ρ fun u=>u=jx r):=
 fg (ai 0 Try.f70) 31 mixed (DL N) Try.func70 (by kernel_rfl) rfl rfl rfl rfl (Hs y0_0 y0_1 y0_2 y0_3 y1 h) ρ hi
def ge(N:Nat)(us:List (TV EE.T))(hs:List (Nat × TB EE.T)):XR EE.T:=
 gdX (fJ us 1) <|
 bnX (aB us 0) fun i0=>
 bnX (bC hs i0) fun l0=>
 gdX (fJ l0 4) <|
 bnX (cD .str l0 0) fun y0_0=>
 bnX (cD (.int .i64) l0 1) fun y0_1=>
 bnX (cD (.int .i64) l0 2) fun y0_2=>
 bnX (cVi (.nam 7) l0 3) fun i1=>
 bnX (cVn (.nam 7) l0 3) fun y0_3=>
 bnX (bV (.nam 7) hs i1) fun y1=>
 gdX (b9 hs [i0,i1]) <|
 gdX (hU [i0,i1]) <|
 .mv (cn N y0_0 y0_1 y0_2 y0_3 y1) [i0,i1] (mvL [i0,i1] [100000,200001]) 0 (dN i0 i1) (rE i0 i1)
theorem jo(N:Nat):XOk Try.prog EE 70 (ge N):=fun us hs=>
 ba fun h1=>aC fun i0 h2=>aC fun l0 h3=>ba fun h4=>aC fun y0_0 h5=>aC fun y0_1 h6=>aC fun y0_2 h7=>aC fun i1 h8=>aC fun y0_3 h9=>aC fun y1 h10=>ba fun h11=>ba fun h12=>fun p hz ρ hi=>fW (ex:=[]) (ks:=[100000,200001]) (us':=CE y0_0 y0_1 y0_2 y0_3 y1) (h0:=xd y0_0 y0_1 y0_2 y0_3 y1) (ρ':=mR ρ [i0,i1]) (uc:=dN 100000 200001) (u:=dN i0 i1) (hc:=rE 100000 200001) (h:=rE i0 i1) hi h11 (by kernel_rfl) ⟨iR h2 (by kernel_rfl),cq h1⟩ ⟨(by kernel_rfl),kV h3 ⟨dt h5,dt h6,dt h7,io h8 h9 (by kernel_rfl),cq h4⟩,(by kernel_rfl),jf h10 (by kernel_rfl),trivial⟩ ⟨.inr rfl,.inl rfl,trivial⟩ h12 (fun hj=>jK y0_0 y0_1 y0_2 y0_3 y1 hz _ hj) (fun z=>⟨by kernel_rfl,by kernel_rfl,by kernel_rfl,by kernel_rfl⟩)
def eq(i0:Nat)(i1:Nat)(r:ax):TV EE.T:=.a (.d (.ptr (.bits 256)) r.1)
def rK(i0:Nat)(i1:Nat)(r:ax):List (Nat × TB EE.T):=[(i0,.cs [.d .str r.2.1,.d (.int .i64) r.2.2.1,.d (.int .i64) r.2.2.2.1,.vec (.nam 7) i1 r.2.2.2.2.1]),(i1,.vec i1 (.nam 7) r.2.2.2.2.2)]
def f0(r:PR ax):RL EE.T:=lX (eq 100000 200001) (rK 100000 200001) r
def Jb:Lvs:=⟨[(6,⟨[(0,false),(3,false),(4,false)],[],[(4,(none,[])),(100000,(none,[])),(200001,(none,[]))],[]⟩),(13,⟨[(0,false),(3,false),(4,false),(6,false),(7,false)],[],[(4,(none,[])),(100000,(none,[])),(200001,(none,[]))],[]⟩)],[(4,⟨[(0,false),(3,false),(4,false),(5,false)],[],[(4,(none,[])),(100000,(none,[])),(200001,(none,[]))],[]⟩),(14,⟨[(0,false),(3,false),(4,false),(7,false),(9,false)],[],[(4,(none,[])),(100000,(none,[])),(200001,(none,[]))],[]⟩),(18,⟨[(3,false),(4,false),(46,false)],[],[(4,(none,[])),(100000,(none,[])),(200001,(none,[]))],[]⟩)],[6,13],[],false,[(100000,(none,[]))],[100000,200001],[(22,[.cl 4 (.a 256) (.s 4)])],[]⟩
def qIO:List ResultVar:=[.tmp 2]
def HD(N:Nat):Gam EE:=⟨[],EQT,[⟨35,dl N⟩,⟨50,ef N⟩,⟨70,ge N⟩],[]⟩
theorem E5(N:Nat):GOk Try.prog TT EE (HD N):=GOk.consx (dz N) (GOk.consx (eI N) (GOk.consx (jo N) (GOk.nil dx)))
def vb(c:Code):List It2:=atL 14 c
def v7(x3:Bool)(x7:UInt8)(x9:Int)(b4:List Bool)(b100000_0:List UInt8)(b100000_1:Int)(b100000_2:Int)(b100000_3_n:Nat)(b200001:List Vstep):TS EE.T:=⟨57,[(0,.a (.box 100000 0)),(3,.a (.d .bool x3)),(4,.a (.box 4 0)),(7,.a (.d .byte x7)),(9,.a (.d (.int .i64) x9))],[(4,.row .bool b4),(100000,.cs [.d .str b100000_0,.d (.int .i64) b100000_1,.d (.int .i64) b100000_2,.vec (.nam 7) 200001 b100000_3_n]),(200001,.vec 200001 (.nam 7) b200001)],[]⟩
def vp(c:Code):List It2:=atR 13 c
def vG(x3:Bool)(x6:UInt8)(x7:UInt8)(b4:List Bool)(b100000_0:List UInt8)(b100000_1:Int)(b100000_2:Int)(b100000_3_n:Nat)(b200001:List Vstep):TS EE.T:=⟨57,[(0,.a (.box 100000 0)),(3,.a (.d .bool x3)),(4,.a (.box 4 0)),(6,.a (.d .byte x6)),(7,.a (.d .byte x7))],[(4,.row .bool b4),(100000,.cs [.d .str b100000_0,.d (.int .i64) b100000_1,.d (.int .i64) b100000_2,.vec (.nam 7) 200001 b100000_3_n]),(200001,.vec 200001 (.nam 7) b200001)],[]⟩
def yl(c:Code):List It2:=atR 6 c
def zB(x3:Bool)(b4:List Bool)(b100000_0:List UInt8)(b100000_1:Int)(b100000_2:Int)(b100000_3_n:Nat)(b200001:List Vstep):TS EE.T:=⟨57,[(0,.a (.box 100000 0)),(3,.a (.d .bool x3)),(4,.a (.box 4 0))],[(4,.row .bool b4),(100000,.cs [.d .str b100000_0,.d (.int .i64) b100000_1,.d (.int .i64) b100000_2,.vec (.nam 7) 200001 b100000_3_n]),(200001,.vec 200001 (.nam 7) b200001)],[]⟩
def va(c:Code):List It2:=atL 18 c
def vm(x3:Bool)(x46:Int)(b4:List Bool)(b100000_0:List UInt8)(b100000_1:Int)(b100000_2:Int)(b100000_3_n:Nat)(b200001:List Vstep):TS EE.T:=⟨57,[(3,.a (.d .bool x3)),(4,.a (.box 4 0)),(46,.a (.d (.int .i64) x46))],[(4,.row .bool b4),(100000,.cs [.d .str b100000_0,.d (.int .i64) b100000_1,.d (.int .i64) b100000_2,.vec (.nam 7) 200001 b100000_3_n]),(200001,.vec 200001 (.nam 7) b200001)],[]⟩
def mw(c:Code):List It2:=atL 4 c
def mM(x3:Bool)(x5:Bool)(b4:List Bool)(b100000_0:List UInt8)(b100000_1:Int)(b100000_2:Int)(b100000_3_n:Nat)(b200001:List Vstep):TS EE.T:=⟨57,[(0,.a (.box 100000 0)),(3,.a (.d .bool x3)),(4,.a (.box 4 0)),(5,.a (.d .bool x5))],[(4,.row .bool b4),(100000,.cs [.d .str b100000_0,.d (.int .i64) b100000_1,.d (.int .i64) b100000_2,.vec (.nam 7) 200001 b100000_3_n]),(200001,.vec 200001 (.nam 7) b200001)],[]⟩
def GL(c:Code):List It2:=[.c c]
def Hv(y0_0:List UInt8)(y0_1:Int)(y0_2:Int)(y0_3:Nat)(y1:List Vstep):TS EE.T:=⟨57,[(0,.a (.box 100000 0))],[(100000,.cs [.d .str y0_0,.d (.int .i64) y0_1,.d (.int .i64) y0_2,.vec (.nam 7) 200001 y0_3]),(200001,.vec 200001 (.nam 7) y1)],[]⟩
def wq(c:Code)(f:Bool→UInt8→Int→(List Bool)→(List UInt8)→Int→Int→Nat→(List Vstep)→Option (PR ax))(x3:Bool)(x7:UInt8)(x9:Int)(b4:List Bool)(b100000_0:List UInt8)(b100000_1:Int)(b100000_2:Int)(b100000_3_n:Nat)(b200001:List Vstep):Tree (Lf EE.T × Option (PR ax)):=.leaf (.go (vb c) (v7 x3 x7 x9 b4 b100000_0 b100000_1 b100000_2 b100000_3_n b200001),f x3 x7 x9 b4 b100000_0 b100000_1 b100000_2 b100000_3_n b200001)
def qF(c:Code)(f:Bool→UInt8→UInt8→(List Bool)→(List UInt8)→Int→Int→Nat→(List Vstep)→Option (PR ax))(x3:Bool)(x6:UInt8)(x7:UInt8)(b4:List Bool)(b100000_0:List UInt8)(b100000_1:Int)(b100000_2:Int)(b100000_3_n:Nat)(b200001:List Vstep):Tree (Lf EE.T × Option (PR ax)):=.leaf (.go (vp c) (vG x3 x6 x7 b4 b100000_0 b100000_1 b100000_2 b100000_3_n b200001),f x3 x6 x7 b4 b100000_0 b100000_1 b100000_2 b100000_3_n b200001)
def zK(c:Code)(f:Bool→(List Bool)→(List UInt8)→Int→Int→Nat→(List Vstep)→Option (PR ax))(x3:Bool)(b4:List Bool)(b100000_0:List UInt8)(b100000_1:Int)(b100000_2:Int)(b100000_3_n:Nat)(b200001:List Vstep):Tree (Lf EE.T × Option (PR ax)):=.leaf (.go (yl c) (zB x3 b4 b100000_0 b100000_1 b100000_2 b100000_3_n b200001),f x3 b4 b100000_0 b100000_1 b100000_2 b100000_3_n b200001)
def vA(c:Code)(f:Bool→Int→(List Bool)→(List UInt8)→Int→Int→Nat→(List Vstep)→Option (PR ax))(x3:Bool)(x46:Int)(b4:List Bool)(b100000_0:List UInt8)(b100000_1:Int)(b100000_2:Int)(b100000_3_n:Nat)(b200001:List Vstep):Tree (Lf EE.T × Option (PR ax)):=.leaf (.go (va c) (vm x3 x46 b4 b100000_0 b100000_1 b100000_2 b100000_3_n b200001),f x3 x46 b4 b100000_0 b100000_1 b100000_2 b100000_3_n b200001)
def Aq(c:Code)(f:Bool→Bool→(List Bool)→(List UInt8)→Int→Int→Nat→(List Vstep)→Option (PR ax))(x3:Bool)(x5:Bool)(b4:List Bool)(b100000_0:List UInt8)(b100000_1:Int)(b100000_2:Int)(b100000_3_n:Nat)(b200001:List Vstep):Tree (Lf EE.T × Option (PR ax)):=.leaf (.go (mw c) (mM x3 x5 b4 b100000_0 b100000_1 b100000_2 b100000_3_n b200001),f x3 x5 b4 b100000_0 b100000_1 b100000_2 b100000_3_n b200001)
abbrev iU(N:Nat)(r:PR ax)(k:List It2)(s:TS EE.T):Prop:=fX (Y:=TT) EE (HD N) Jb qIO (fun u=>u=f0 r) k s
def lJ(x:PR ax):Tree (Lf EE.T × Option (PR ax)):=.leaf (.done (f0 x),some x)
theorem u4{N:Nat}{r:PR ax}{k4:Bool→Bool→(List Bool)→(List UInt8)→Int→Int→Nat→(List Vstep)→Option (PR ax)}(hk4:∀x3 x5 b4 b100000_0 b100000_1 b100000_2 b100000_3_n b200001,k4 x3 x5 b4 b100000_0 b100000_1 b100000_2 b100000_3_n b200001=some r→iU N r (mw (ai 0 Try.f69)) (mM x3 x5 b4 b100000_0 b100000_1 b100000_2 b100000_3_n b200001)):∀ (n:Nat) (x3:Bool) (x7:UInt8) (x9:Int) (b4:List Bool) (b100000_0:List UInt8) (b100000_1:Int) (b100000_2:Int) (b100000_3_n:Nat) (b200001:List Vstep),cU N k4 n x3 x7 x9 b4 b100000_0 b100000_1 b100000_2 b100000_3_n b200001=some r→iU N r (vb (ai 0 Try.f69)) (v7 x3 x7 x9 b4 b100000_0 b100000_1 b100000_2 b100000_3_n b200001)
 |0,_,_,_,_,_,_,_,_,_,h=>by cases h
 |n+1,x3,x7,x9,b4,b100000_0,b100000_1,b100000_2,b100000_3_n,b200001,h=>aT (m:=4000) (t:=
  .cond (decide (x9≤(w64 (b2i x7))))
  (
   .bnd (eR 256 x9) fun z18=>
   .bnd (uX b4 (0+z18) true) fun z19=>
   wq (ai 0 Try.f69) (cU N k4 n) x3 x7 (w64 (x9+1)) z19 b100000_0 b100000_1 b100000_2 b100000_3_n b200001)
  (
   Aq (ai 0 Try.f69) k4 x3 false b4 b100000_0 b100000_1 b100000_2 b100000_3_n b200001)) (by kernel_rfl) (by kernel_rfl) h (⟨fun _=>fun _=>fun h=>(u4 hk4 n) _ _ _ _ _ _ _ _ _ h,fun h=>hk4 _ _ _ _ _ _ _ _ h⟩)
theorem p8{N:Nat}{r:PR ax}{k4:Bool→Bool→(List Bool)→(List UInt8)→Int→Int→Nat→(List Vstep)→Option (PR ax)}(hk4:∀x3 x5 b4 b100000_0 b100000_1 b100000_2 b100000_3_n b200001,k4 x3 x5 b4 b100000_0 b100000_1 b100000_2 b100000_3_n b200001=some r→iU N r (mw (ai 0 Try.f69)) (mM x3 x5 b4 b100000_0 b100000_1 b100000_2 b100000_3_n b200001))(n:Nat)(x3:Bool)(x6:UInt8)(x7:UInt8)(b4:List Bool)(b100000_0:List UInt8)(b100000_1:Int)(b100000_2:Int)(b100000_3_n:Nat)(b200001:List Vstep)(h:bY N k4 n x3 x6 x7 b4 b100000_0 b100000_1 b100000_2 b100000_3_n b200001=some r):iU N r (vp (ai 0 Try.f69)) (vG x3 x6 x7 b4 b100000_0 b100000_1 b100000_2 b100000_3_n b200001):=
 aT (m:=4000) (t:=
 wq (ai 0 Try.f69) (cU N k4 n) x3 x7 (w64 (b2i x6)) b4 b100000_0 b100000_1 b100000_2 b100000_3_n b200001) (by kernel_rfl) (by kernel_rfl) h (fun h=>u4 hk4 n _ _ _ _ _ _ _ _ _ h)
theorem zb{N:Nat}{r:PR ax}{k4:Bool→Bool→(List Bool)→(List UInt8)→Int→Int→Nat→(List Vstep)→Option (PR ax)}(hk4:∀x3 x5 b4 b100000_0 b100000_1 b100000_2 b100000_3_n b200001,k4 x3 x5 b4 b100000_0 b100000_1 b100000_2 b100000_3_n b200001=some r→iU N r (mw (ai 0 Try.f69)) (mM x3 x5 b4 b100000_0 b100000_1 b100000_2 b100000_3_n b200001))(n:Nat)(x3:Bool)(b4:List Bool)(b100000_0:List UInt8)(b100000_1:Int)(b100000_2:Int)(b100000_3_n:Nat)(b200001:List Vstep)(h:dk N k4 n x3 b4 b100000_0 b100000_1 b100000_2 b100000_3_n b200001=some r):iU N r (yl (ai 0 Try.f69)) (zB x3 b4 b100000_0 b100000_1 b100000_2 b100000_3_n b200001):=
 aT (m:=4000) (t:=
 .bnd (cn N b100000_0 b100000_1 b100000_2 b100000_3_n b200001) fun z5=>
 .sm z5 (fun z6=>
  .bnd (aO N 45 z6.2.1 z6.2.2.1 z6.2.2.2.1 z6.2.2.2.2.1 z6.2.2.2.2.2) fun z7=>
  .sm z7 (fun z8=>
   .cond (z8.1)
   (
    .bnd (cn N z8.2.1 z8.2.2.1 z8.2.2.2.1 z8.2.2.2.2.1 z8.2.2.2.2.2) fun z9=>
    .sm z9 (fun z10=>
     .cond (decide ((b2i z10.1) < (b2i z6.1)))
     (
      .bnd (aX N 3 z8.2.2.1 z10.2.1 z10.2.2.1 z10.2.2.2.1 z10.2.2.2.2.1 z10.2.2.2.2.2) fun z11=>
      .sm z11 (fun z12=>
       qF (ai 0 Try.f69) (bY N k4 n) x3 z6.1 z10.1 b4 z12.1 z12.2.1 z12.2.2.1 z12.2.2.2.1 z12.2.2.2.2) (fun vz11=>
       lJ (.pan vz11)))
     (
      qF (ai 0 Try.f69) (bY N k4 n) x3 z6.1 z10.1 b4 z10.2.1 z10.2.2.1 z10.2.2.2.1 z10.2.2.2.2.1 z10.2.2.2.2.2)) (fun vz9=>
     lJ (.pan vz9)))
   (
    qF (ai 0 Try.f69) (bY N k4 n) x3 z6.1 z6.1 b4 z8.2.1 z8.2.2.1 z8.2.2.2.1 z8.2.2.2.2.1 z8.2.2.2.2.2)) (fun vz7=>
   lJ (.pan vz7))) (fun vz5=>
  lJ (.pan vz5))) (by kernel_rfl) (by kernel_rfl) h (fun _=>⟨fun _=>fun _=>⟨fun _=>⟨fun _=>⟨fun _=>⟨fun _=>⟨fun _=>fun h=>p8 hk4 n _ _ _ _ _ _ _ _ _ h,fun _=>be (enc:=f0) rfl⟩,fun h=>p8 hk4 n _ _ _ _ _ _ _ _ _ h⟩,fun _=>be (enc:=f0) rfl⟩,fun h=>p8 hk4 n _ _ _ _ _ _ _ _ _ h⟩,fun _=>be (enc:=f0) rfl⟩,fun _=>be (enc:=f0) rfl⟩)
theorem vv{N:Nat}{r:PR ax}:∀ (n:Nat) (x3:Bool) (x46:Int) (b4:List Bool) (b100000_0:List UInt8) (b100000_1:Int) (b100000_2:Int) (b100000_3_n:Nat) (b200001:List Vstep),cW N n x3 x46 b4 b100000_0 b100000_1 b100000_2 b100000_3_n b200001=some r→iU N r (va (ai 0 Try.f69)) (vm x3 x46 b4 b100000_0 b100000_1 b100000_2 b100000_3_n b200001)
 |0,_,_,_,_,_,_,_,_,h=>by cases h
 |n+1,x3,x46,b4,b100000_0,b100000_1,b100000_2,b100000_3_n,b200001,h=>aT (m:=4000) (t:=
  .cond (decide (x46 < 256))
  (
   .bnd (eR 256 x46) fun z13=>
   .bnd (b4[0+z13]?) fun z14=>
   .bnd (eR 256 x46) fun z15=>
   .bnd (uX b4 (0+z15) (!(z14==x3))) fun z16=>
   vA (ai 0 Try.f69) (cW N n) x3 (w64 (x46+1)) z16 b100000_0 b100000_1 b100000_2 b100000_3_n b200001)
  (
   .bnd (px 256 b4) fun z17=>
   lJ (.ok ((some z17),b100000_0,b100000_1,b100000_2,b100000_3_n,b200001)))) (by kernel_rfl) (by kernel_rfl) h (⟨fun _=>fun _=>fun _=>fun _=>fun h=>(vv n) _ _ _ _ _ _ _ _ h,fun _=>be (enc:=f0) rfl⟩)
theorem s7{N:Nat}{r:PR ax}:∀ (n:Nat) (x3:Bool) (x5:Bool) (b4:List Bool) (b100000_0:List UInt8) (b100000_1:Int) (b100000_2:Int) (b100000_3_n:Nat) (b200001:List Vstep),ce N n x3 x5 b4 b100000_0 b100000_1 b100000_2 b100000_3_n b200001=some r→iU N r (mw (ai 0 Try.f69)) (mM x3 x5 b4 b100000_0 b100000_1 b100000_2 b100000_3_n b200001)
 |0,_,_,_,_,_,_,_,_,h=>by cases h
 |n+1,x3,x5,b4,b100000_0,b100000_1,b100000_2,b100000_3_n,b200001,h=>aT (m:=4000) (t:=
  .cond (x5)
  (
   zK (ai 0 Try.f69) (dk N (ce N n) n) x3 b4 b100000_0 b100000_1 b100000_2 b100000_3_n b200001)
  (
   .bnd (aO N 93 b100000_0 b100000_1 b100000_2 b100000_3_n b200001) fun z3=>
   .sm z3 (fun z4=>
    .cond (!z4.1)
    (
     zK (ai 0 Try.f69) (dk N (ce N n) n) x3 b4 z4.2.1 z4.2.2.1 z4.2.2.2.1 z4.2.2.2.2.1 z4.2.2.2.2.2)
    (
     vA (ai 0 Try.f69) (cW N n) x3 0 b4 z4.2.1 z4.2.2.1 z4.2.2.2.1 z4.2.2.2.2.1 z4.2.2.2.2.2)) (fun vz3=>
    lJ (.pan vz3)))) (by kernel_rfl) (by kernel_rfl) h (⟨fun h=>zb (s7 n) n _ _ _ _ _ _ _ h,fun _=>⟨fun _=>⟨fun h=>zb (s7 n) n _ _ _ _ _ _ _ h,fun h=>vv n _ _ _ _ _ _ _ _ h⟩,fun _=>be (enc:=f0) rfl⟩⟩)
theorem EY{N:Nat}{r:PR ax}(y0_0:List UInt8)(y0_1:Int)(y0_2:Int)(y0_3:Nat)(y1:List Vstep)(h:dO N y0_0 y0_1 y0_2 y0_3 y1=some r):iU N r (GL (ai 0 Try.f69)) (Hv y0_0 y0_1 y0_2 y0_3 y1):=
 aT (m:=4000) (t:=
 .bnd (aO N 94 y0_0 y0_1 y0_2 y0_3 y1) fun z1=>
 .sm z1 (fun z2=>
  Aq (ai 0 Try.f69) (ce N N) z2.1 true (List.replicate 256 false) z2.2.1 z2.2.2.1 z2.2.2.2.1 z2.2.2.2.2.1 z2.2.2.2.2.2) (fun vz1=>
  lJ (.pan vz1))) (by kernel_rfl) (by kernel_rfl) h (fun _=>⟨fun _=>fun h=>s7 N _ _ _ _ _ _ _ _ h,fun _=>be (enc:=f0) rfl⟩)
def B6(y0_0:List UInt8)(y0_1:Int)(y0_2:Int)(y0_3:Nat)(y1:List Vstep):List (TV EE.T):=[.a (.box 100000 0)]
def wS(y0_0:List UInt8)(y0_1:Int)(y0_2:Int)(y0_3:Nat)(y1:List Vstep):List (Nat × TB EE.T):=[(100000,.cs [.d .str y0_0,.d (.int .i64) y0_1,.d (.int .i64) y0_2,.vec (.nam 7) 200001 y0_3]),(200001,.vec 200001 (.nam 7) y1)]
theorem kz{N:Nat}(y0_0:List UInt8)(y0_1:Int)(y0_2:Int)(y0_3:Nat)(y1:List Vstep){r:PR ax}(h:dO N y0_0 y0_1 y0_2 y0_3 y1=some r)(ρ:Rn)(hi:Inj ρ (wS y0_0 y0_1 y0_2 y0_3 y1)):aR Try.prog 69 ((B6 y0_0 y0_1 y0_2 y0_3 y1).map (TV.to EE.toEnc ρ)) (hTo EE.toEnc ρ (wS y0_0 y0_1 y0_2 y0_3 y1)) (df EE ρ fun u=>u=f0 r):=
 fg (ai 0 Try.f69) 57 mixed (E5 N) Try.func69 (by kernel_rfl) rfl rfl rfl rfl (EY y0_0 y0_1 y0_2 y0_3 y1 h) ρ hi
def g9(N:Nat)(us:List (TV EE.T))(hs:List (Nat × TB EE.T)):XR EE.T:=
 gdX (fJ us 1) <|
 bnX (aB us 0) fun i0=>
 bnX (bC hs i0) fun l0=>
 gdX (fJ l0 4) <|
 bnX (cD .str l0 0) fun y0_0=>
 bnX (cD (.int .i64) l0 1) fun y0_1=>
 bnX (cD (.int .i64) l0 2) fun y0_2=>
 bnX (cVi (.nam 7) l0 3) fun i1=>
 bnX (cVn (.nam 7) l0 3) fun y0_3=>
 bnX (bV (.nam 7) hs i1) fun y1=>
 gdX (b9 hs [i0,i1]) <|
 gdX (hU [i0,i1]) <|
 .mv (dO N y0_0 y0_1 y0_2 y0_3 y1) [i0,i1] (mvL [i0,i1] [100000,200001]) 0 (eq i0 i1) (rK i0 i1)
theorem kl(N:Nat):XOk Try.prog EE 69 (g9 N):=fun us hs=>
 ba fun h1=>aC fun i0 h2=>aC fun l0 h3=>ba fun h4=>aC fun y0_0 h5=>aC fun y0_1 h6=>aC fun y0_2 h7=>aC fun i1 h8=>aC fun y0_3 h9=>aC fun y1 h10=>ba fun h11=>ba fun h12=>fun p hz ρ hi=>fW (ex:=[]) (ks:=[100000,200001]) (us':=B6 y0_0 y0_1 y0_2 y0_3 y1) (h0:=wS y0_0 y0_1 y0_2 y0_3 y1) (ρ':=mR ρ [i0,i1]) (uc:=eq 100000 200001) (u:=eq i0 i1) (hc:=rK 100000 200001) (h:=rK i0 i1) hi h11 (by kernel_rfl) ⟨iR h2 (by kernel_rfl),cq h1⟩ ⟨(by kernel_rfl),kV h3 ⟨dt h5,dt h6,dt h7,io h8 h9 (by kernel_rfl),cq h4⟩,(by kernel_rfl),jf h10 (by kernel_rfl),trivial⟩ ⟨.inr rfl,.inl rfl,trivial⟩ h12 (fun hj=>kz y0_0 y0_1 y0_2 y0_3 y1 hz _ hj) (fun z=>⟨by kernel_rfl,by kernel_rfl,by kernel_rfl,by kernel_rfl⟩)
def bT(i0:Nat)(r:aQ):TV EE.T:=.a (.d (.sl (.nam 7)) r.1)
def rW(i0:Nat)(r:aQ):List (Nat × TB EE.T):=[(i0,.vec i0 (.nam 7) r.2)]
def mZ(r:PR aQ):RL EE.T:=lX (bT 100000) (rW 100000) r
def Jx:Lvs:=⟨[],[],[],[],false,[],[100000],[],[]⟩
def HK:List ResultVar:=[.tmp 2]
def En(N:Nat):Gam EE:=⟨[],EQT,[],[]⟩
theorem Hx(N:Nat):GOk Try.prog TT EE (En N):=GOk.nil dx
def Hb(c:Code):List It2:=[.c c]
def FM(x0_o:Nat)(x0_n:Nat)(y0:List Vstep):TS EE.T:=⟨8,[(0,.a (.vsl (.nam 7) 100000 x0_o x0_n))],[(100000,.vec 100000 (.nam 7) y0)],[]⟩
abbrev JD(N:Nat)(r:PR aQ)(k:List It2)(s:TS EE.T):Prop:=fX (Y:=TT) EE (En N) Jx HK (fun u=>u=mZ r) k s
def CD(x:PR aQ):Tree (Lf EE.T × Option (PR aQ)):=.leaf (.done (mZ x),some x)
theorem EA{N:Nat}{r:PR aQ}(x0_o:Nat)(x0_n:Nat)(y0:List Vstep)(h:bB N x0_o x0_n y0=some r):JD N r (Hb (ai 0 Try.f63)) (FM x0_o x0_n y0):=
 aT (m:=4000) (t:=
 .nl ((List.drop x0_o y0).take x0_n)
 (
  CD (.ok (([] :List Vstep),y0)))
 (
  .bnd (Dx x0_o x0_n y0) fun z1=>
  .bnd (jP 32 ([] :List Vstep) z1) fun z2=>
  CD (.ok (z2,y0)))) (by kernel_rfl) (by kernel_rfl) h (⟨fun e _ h=>Lk e h,be (enc:=mZ) rfl,fun _=>fun _=>be (enc:=mZ) rfl⟩)
def Ca(x0_o:Nat)(x0_n:Nat)(y0:List Vstep):List (TV EE.T):=[.a (.vsl (.nam 7) 100000 x0_o x0_n)]
def wO(x0_o:Nat)(x0_n:Nat)(y0:List Vstep):List (Nat × TB EE.T):=[(100000,.vec 100000 (.nam 7) y0)]
theorem fB{N:Nat}(x0_o:Nat)(x0_n:Nat)(y0:List Vstep){r:PR aQ}(h:bB N x0_o x0_n y0=some r)(ρ:Rn)(hi:Inj ρ (wO x0_o x0_n y0)):aR Try.prog 63 ((Ca x0_o x0_n y0).map (TV.to EE.toEnc ρ)) (hTo EE.toEnc ρ (wO x0_o x0_n y0)) (df EE ρ fun u=>u=mZ r):=
 fg (ai 0 Try.f63) 8 mixed (Hx N) Try.func63 (by kernel_rfl) rfl rfl rfl rfl (EA x0_o x0_n y0 h) ρ hi
def dQ(N:Nat)(us:List (TV EE.T))(hs:List (Nat × TB EE.T)):XR EE.T:=
 gdX (fJ us 1) <|
 bnX (aUi (.nam 7) us 0) fun i0=>
 bnX (aUo (.nam 7) us 0) fun x0_o=>
 bnX (aUn (.nam 7) us 0) fun x0_n=>
 bnX (bV (.nam 7) hs i0) fun y0=>
 gdX (b9 hs [i0]) <|
 gdX (hU [i0]) <|
 .mv (bB N x0_o x0_n y0) [i0] (mvL [i0] [100000]) 0 (bT i0) (rW i0)
theorem fz(N:Nat):XOk Try.prog EE 63 (dQ N):=fun us hs=>
 ba fun h1=>aC fun i0 h2=>aC fun x0_o h3=>aC fun x0_n h4=>aC fun y0 h5=>ba fun h6=>ba fun h7=>fun p hz ρ hi=>fW (ex:=[]) (ks:=[100000]) (us':=Ca x0_o x0_n y0) (h0:=wO x0_o x0_n y0) (ρ':=mR ρ [i0]) (uc:=bT 100000) (u:=bT i0) (hc:=rW 100000) (h:=rW i0) hi h6 (by kernel_rfl) ⟨Mg h2 h3 h4 (by kernel_rfl),cq h1⟩ ⟨(by kernel_rfl),jf h5 (by kernel_rfl),trivial⟩ ⟨.inr rfl,trivial⟩ h7 (fun hj=>fB x0_o x0_n y0 hz _ hj) (fun z=>⟨by kernel_rfl,by kernel_rfl,by kernel_rfl,by kernel_rfl⟩)
def er(i0:Nat)(i1:Nat)(r:bF):TV EE.T:=.a (.d (.sl (.nam 7)) r.1)
def r9(i0:Nat)(i1:Nat)(r:bF):List (Nat × TB EE.T):=[(i0,.cs [.d .str r.2.1,.d (.int .i64) r.2.2.1,.d (.int .i64) r.2.2.2.1,.vec (.nam 7) i1 r.2.2.2.2.1]),(i1,.vec i1 (.nam 7) r.2.2.2.2.2)]
def mT(r:PR bF):RL EE.T:=lX (er 100000 200001) (r9 100000 200001) r
def Jf:Lvs:=⟨[],[],[],[],false,[(100000,(none,[]))],[100000,200001],[],[(19,200001)]⟩
def Ia:List ResultVar:=[.tmp 4]
def EU(N:Nat):Gam EE:=⟨[],EQT,[⟨63,dQ N⟩],[]⟩
theorem Gu(N:Nat):GOk Try.prog TT EE (EU N):=GOk.consx (fz N) (GOk.nil dx)
def ED(c:Code):List It2:=[.c c]
def DI(x1:Int)(y0_0:List UInt8)(y0_1:Int)(y0_2:Int)(y0_3:Nat)(y1:List Vstep):TS EE.T:=⟨23,[(0,.a (.box 100000 0)),(1,.a (.d (.int .i64) x1))],[(100000,.cs [.d .str y0_0,.d (.int .i64) y0_1,.d (.int .i64) y0_2,.vec (.nam 7) 200001 y0_3]),(200001,.vec 200001 (.nam 7) y1)],[]⟩
abbrev Jo(N:Nat)(r:PR bF)(k:List It2)(s:TS EE.T):Prop:=fX (Y:=TT) EE (EU N) Jf Ia (fun u=>u=mT r) k s
def BC(x:PR bF):Tree (Lf EE.T × Option (PR bF)):=.leaf (.done (mT x),some x)
theorem Fd{N:Nat}{r:PR bF}(x1:Int)(y0_0:List UInt8)(y0_1:Int)(y0_2:Int)(y0_3:Nat)(y1:List Vstep)(h:cE N x1 y0_0 y0_1 y0_2 y0_3 y1=some r):Jo N r (ED (ai 0 Try.f51)) (DI x1 y0_0 y0_1 y0_2 y0_3 y1):=
 aT (m:=4000) (t:=
 .bnd (AZ y0_3 x1 (y0_3:Int)) fun z1=>
 .bnd (bB N z1.1 (y0_3 - z1.1) y1) fun z2=>
 .sm z2 (fun z3=>
  .bnd (DY y0_3 z3.2 x1) fun z4=>
  BC (.ok (z3.1,y0_0,y0_1,y0_2,z4.length,z4))) (fun vz2=>
  BC (.pan vz2))) (by kernel_rfl) (by kernel_rfl) h (fun _=>fun _=>⟨fun _=>fun _=>be (enc:=mT) rfl,fun _=>be (enc:=mT) rfl⟩)
def BI(x1:Int)(y0_0:List UInt8)(y0_1:Int)(y0_2:Int)(y0_3:Nat)(y1:List Vstep):List (TV EE.T):=[.a (.box 100000 0),.a (.d (.int .i64) x1)]
def xe(x1:Int)(y0_0:List UInt8)(y0_1:Int)(y0_2:Int)(y0_3:Nat)(y1:List Vstep):List (Nat × TB EE.T):=[(100000,.cs [.d .str y0_0,.d (.int .i64) y0_1,.d (.int .i64) y0_2,.vec (.nam 7) 200001 y0_3]),(200001,.vec 200001 (.nam 7) y1)]
theorem kG{N:Nat}(x1:Int)(y0_0:List UInt8)(y0_1:Int)(y0_2:Int)(y0_3:Nat)(y1:List Vstep){r:PR bF}(h:cE N x1 y0_0 y0_1 y0_2 y0_3 y1=some r)(ρ:Rn)(hi:Inj ρ (xe x1 y0_0 y0_1 y0_2 y0_3 y1)):aR Try.prog 51 ((BI x1 y0_0 y0_1 y0_2 y0_3 y1).map (TV.to EE.toEnc ρ)) (hTo EE.toEnc ρ (xe x1 y0_0 y0_1 y0_2 y0_3 y1)) (df EE ρ fun u=>u=mT r):=
 fg (ai 0 Try.f51) 23 mixed (Gu N) Try.func51 (by kernel_rfl) rfl rfl rfl rfl (Fd x1 y0_0 y0_1 y0_2 y0_3 y1 h) ρ hi
def fh(N:Nat)(us:List (TV EE.T))(hs:List (Nat × TB EE.T)):XR EE.T:=
 gdX (fJ us 2) <|
 bnX (aB us 0) fun i0=>
 bnX (aD (.int .i64) us 1) fun x1=>
 bnX (bC hs i0) fun l0=>
 gdX (fJ l0 4) <|
 bnX (cD .str l0 0) fun y0_0=>
 bnX (cD (.int .i64) l0 1) fun y0_1=>
 bnX (cD (.int .i64) l0 2) fun y0_2=>
 bnX (cVi (.nam 7) l0 3) fun i1=>
 bnX (cVn (.nam 7) l0 3) fun y0_3=>
 bnX (bV (.nam 7) hs i1) fun y1=>
 gdX (b9 hs [i0,i1]) <|
 gdX (hU [i0,i1]) <|
 .mv (cE N x1 y0_0 y0_1 y0_2 y0_3 y1) [i0,i1] (mvL [i0,i1] [100000,200001]) 0 (er i0 i1) (r9 i0 i1)
theorem f8(N:Nat):XOk Try.prog EE 51 (fh N):=fun us hs=>
 ba fun h1=>aC fun i0 h2=>aC fun x1 h3=>aC fun l0 h4=>ba fun h5=>aC fun y0_0 h6=>aC fun y0_1 h7=>aC fun y0_2 h8=>aC fun i1 h9=>aC fun y0_3 h10=>aC fun y1 h11=>ba fun h12=>ba fun h13=>fun p hz ρ hi=>fW (ex:=[]) (ks:=[100000,200001]) (us':=BI x1 y0_0 y0_1 y0_2 y0_3 y1) (h0:=xe x1 y0_0 y0_1 y0_2 y0_3 y1) (ρ':=mR ρ [i0,i1]) (uc:=er 100000 200001) (u:=er i0 i1) (hc:=r9 100000 200001) (h:=r9 i0 i1) hi h12 (by kernel_rfl) ⟨iR h2 (by kernel_rfl),mQ h3,cq h1⟩ ⟨(by kernel_rfl),kV h4 ⟨dt h6,dt h7,dt h8,io h9 h10 (by kernel_rfl),cq h5⟩,(by kernel_rfl),jf h11 (by kernel_rfl),trivial⟩ ⟨.inr rfl,.inl rfl,trivial⟩ h13 (fun hj=>kG x1 y0_0 y0_1 y0_2 y0_3 y1 hz _ hj) (fun z=>⟨by kernel_rfl,by kernel_rfl,by kernel_rfl,by kernel_rfl⟩)
def en(i0:Nat)(i1:Nat)(r:aI):TV EE.T:=.tu []
def sc(i0:Nat)(i1:Nat)(r:aI):List (Nat × TB EE.T):=[(i0,.cs [.d .str r.1,.d (.int .i64) r.2.1,.d (.int .i64) r.2.2.1,.vec (.nam 7) i1 r.2.2.2.1]),(i1,.vec i1 (.nam 7) r.2.2.2.2)]
def l9(r:PR aI):RL EE.T:=lX (en 100000 200001) (sc 100000 200001) r
def Iq:Lvs:=⟨[(9,⟨[(0,false),(6,false),(8,false),(16,false),(17,false),(18,false)],[],[(8,(some 7,[])),(100000,(none,[])),(200001,(none,[]))],[]⟩)],[(2,⟨[(0,false),(6,false),(16,false),(17,false),(18,false)],[],[(100000,(none,[])),(200001,(none,[]))],[]⟩)],[9],[],false,[(100000,(none,[]))],[100000,200001],[],[]⟩
def IR:List ResultVar:=[]
def D8(N:Nat):Gam EE:=⟨[],EQT,[⟨36,dv N⟩],[]⟩
theorem D7(N:Nat):GOk Try.prog TT EE (D8 N):=GOk.consx (dK N) (GOk.nil dx)
def zJ(c:Code):List It2:=atR 9 c
def zR(x6:Int)(x16:List Vstep)(x17:Int)(x18:Int)(b8:Vstep)(b100000_0:List UInt8)(b100000_1:Int)(b100000_2:Int)(b100000_3_n:Nat)(b200001:List Vstep):TS EE.T:=⟨47,[(0,.a (.box 100000 0)),(6,.a (.d (.int .i64) x6)),(8,.a (.box 8 0)),(16,.a (.d (.sl (.nam 7)) x16)),(17,.a (.d (.int .i64) x17)),(18,.a (.d (.int .i64) x18))],[(8,.cs (eE EE (.nam 7) b8)),(100000,.cs [.d .str b100000_0,.d (.int .i64) b100000_1,.d (.int .i64) b100000_2,.vec (.nam 7) 200001 b100000_3_n]),(200001,.vec 200001 (.nam 7) b200001)],[]⟩
def uh(c:Code):List It2:=atL 2 c
def sC(x6:Int)(x16:List Vstep)(x17:Int)(x18:Int)(b100000_0:List UInt8)(b100000_1:Int)(b100000_2:Int)(b100000_3_n:Nat)(b200001:List Vstep):TS EE.T:=⟨47,[(0,.a (.box 100000 0)),(6,.a (.d (.int .i64) x6)),(16,.a (.d (.sl (.nam 7)) x16)),(17,.a (.d (.int .i64) x17)),(18,.a (.d (.int .i64) x18))],[(100000,.cs [.d .str b100000_0,.d (.int .i64) b100000_1,.d (.int .i64) b100000_2,.vec (.nam 7) 200001 b100000_3_n]),(200001,.vec 200001 (.nam 7) b200001)],[]⟩
def F2(c:Code):List It2:=[.c c]
def F0(x1:List Vstep)(x2:Int)(y0_0:List UInt8)(y0_1:Int)(y0_2:Int)(y0_3:Nat)(y1:List Vstep):TS EE.T:=⟨47,[(0,.a (.box 100000 0)),(1,.a (.d (.sl (.nam 7)) x1)),(2,.a (.d (.int .i64) x2))],[(100000,.cs [.d .str y0_0,.d (.int .i64) y0_1,.d (.int .i64) y0_2,.vec (.nam 7) 200001 y0_3]),(200001,.vec 200001 (.nam 7) y1)],[]⟩
def tw(c:Code)(f:Int→(List Vstep)→Int→Int→Vstep→(List UInt8)→Int→Int→Nat→(List Vstep)→Option (PR aI))(x6:Int)(x16:List Vstep)(x17:Int)(x18:Int)(b8:Vstep)(b100000_0:List UInt8)(b100000_1:Int)(b100000_2:Int)(b100000_3_n:Nat)(b200001:List Vstep):Tree (Lf EE.T × Option (PR aI)):=.leaf (.go (zJ c) (zR x6 x16 x17 x18 b8 b100000_0 b100000_1 b100000_2 b100000_3_n b200001),f x6 x16 x17 x18 b8 b100000_0 b100000_1 b100000_2 b100000_3_n b200001)
def Ac(c:Code)(f:Int→(List Vstep)→Int→Int→(List UInt8)→Int→Int→Nat→(List Vstep)→Option (PR aI))(x6:Int)(x16:List Vstep)(x17:Int)(x18:Int)(b100000_0:List UInt8)(b100000_1:Int)(b100000_2:Int)(b100000_3_n:Nat)(b200001:List Vstep):Tree (Lf EE.T × Option (PR aI)):=.leaf (.go (uh c) (sC x6 x16 x17 x18 b100000_0 b100000_1 b100000_2 b100000_3_n b200001),f x6 x16 x17 x18 b100000_0 b100000_1 b100000_2 b100000_3_n b200001)
abbrev sd(N:Nat)(r:PR aI)(k:List It2)(s:TS EE.T):Prop:=fX (Y:=TT) EE (D8 N) Iq IR (fun u=>u=l9 r) k s
def BK(x:PR aI):Tree (Lf EE.T × Option (PR aI)):=.leaf (.done (l9 x),some x)
theorem sM{N:Nat}{r:PR aI}{k2:Int→(List Vstep)→Int→Int→(List UInt8)→Int→Int→Nat→(List Vstep)→Option (PR aI)}(hk2:∀x6 x16 x17 x18 b100000_0 b100000_1 b100000_2 b100000_3_n b200001,k2 x6 x16 x17 x18 b100000_0 b100000_1 b100000_2 b100000_3_n b200001=some r→sd N r (uh (ai 0 Try.f52)) (sC x6 x16 x17 x18 b100000_0 b100000_1 b100000_2 b100000_3_n b200001))(n:Nat)(x6:Int)(x16:List Vstep)(x17:Int)(x18:Int)(b8:Vstep)(b100000_0:List UInt8)(b100000_1:Int)(b100000_2:Int)(b100000_3_n:Nat)(b200001:List Vstep)(h:cb N k2 n x6 x16 x17 x18 b8 b100000_0 b100000_1 b100000_2 b100000_3_n b200001=some r):sd N r (zJ (ai 0 Try.f52)) (zR x6 x16 x17 x18 b8 b100000_0 b100000_1 b100000_2 b100000_3_n b200001):=
 aT (m:=4000) (t:=
 .bnd (az N b8 b100000_0 b100000_1 b100000_2 b100000_3_n b200001) fun z2=>
 .sm z2 (fun z3=>
  Ac (ai 0 Try.f52) k2 x6 x16 x17 (w64 (x18+1)) z3.2.1 z3.2.2.1 z3.2.2.2.1 z3.2.2.2.2.1 z3.2.2.2.2.2) (fun vz2=>
  BK (.pan vz2))) (by kernel_rfl) (by kernel_rfl) h (fun _=>⟨fun _=>fun h=>hk2 _ _ _ _ _ _ _ _ _ h,fun _=>be (enc:=l9) rfl⟩)
theorem pu{N:Nat}{r:PR aI}:∀ (n:Nat) (x6:Int) (x16:List Vstep) (x17:Int) (x18:Int) (b100000_0:List UInt8) (b100000_1:Int) (b100000_2:Int) (b100000_3_n:Nat) (b200001:List Vstep),bA N n x6 x16 x17 x18 b100000_0 b100000_1 b100000_2 b100000_3_n b200001=some r→sd N r (uh (ai 0 Try.f52)) (sC x6 x16 x17 x18 b100000_0 b100000_1 b100000_2 b100000_3_n b200001)
 |0,_,_,_,_,_,_,_,_,_,h=>by cases h
 |n+1,x6,x16,x17,x18,b100000_0,b100000_1,b100000_2,b100000_3_n,b200001,h=>aT (m:=4000) (t:=
  .cond (decide (x18 < x17))
  (
   .bnd (ap x16 x18) fun z1=>
   .cond (z1.kind==1)
   (
    tw (ai 0 Try.f52) (cb N (bA N n) n) x6 x16 x17 x18 ({ kind:=z1.kind,a:=w64 (z1.a+x6),b:=w64 (z1.b+x6),set_:=z1.set_ }:Vstep) b100000_0 b100000_1 b100000_2 b100000_3_n b200001)
   (
    .cond (z1.kind==2)
    (
     tw (ai 0 Try.f52) (cb N (bA N n) n) x6 x16 x17 x18 ({ kind:=z1.kind,a:=w64 (z1.a+x6),b:=z1.b,set_:=z1.set_ }:Vstep) b100000_0 b100000_1 b100000_2 b100000_3_n b200001)
    (
     tw (ai 0 Try.f52) (cb N (bA N n) n) x6 x16 x17 x18 z1 b100000_0 b100000_1 b100000_2 b100000_3_n b200001)))
  (
   BK (.ok (b100000_0,b100000_1,b100000_2,b100000_3_n,b200001)))) (by kernel_rfl) (by kernel_rfl) h (⟨fun _=>⟨fun h=>sM (pu n) n _ _ _ _ _ _ _ _ _ _ h,⟨fun h=>sM (pu n) n _ _ _ _ _ _ _ _ _ _ h,fun h=>sM (pu n) n _ _ _ _ _ _ _ _ _ _ h⟩⟩,be (enc:=l9) rfl⟩)
theorem Ff{N:Nat}{r:PR aI}(x1:List Vstep)(x2:Int)(y0_0:List UInt8)(y0_1:Int)(y0_2:Int)(y0_3:Nat)(y1:List Vstep)(h:bu N x1 x2 y0_0 y0_1 y0_2 y0_3 y1=some r):sd N r (F2 (ai 0 Try.f52)) (F0 x1 x2 y0_0 y0_1 y0_2 y0_3 y1):=
 aT (m:=4000) (t:=
 Ac (ai 0 Try.f52) (bA N N) (w64 ((y0_3:Int) - x2)) x1 (x1.length:Int) 0 y0_0 y0_1 y0_2 y0_3 y1) (by kernel_rfl) (by kernel_rfl) h (fun h=>pu N _ _ _ _ _ _ _ _ _ h)
def BT(x1:List Vstep)(x2:Int)(y0_0:List UInt8)(y0_1:Int)(y0_2:Int)(y0_3:Nat)(y1:List Vstep):List (TV EE.T):=[.a (.box 100000 0),.a (.d (.sl (.nam 7)) x1),.a (.d (.int .i64) x2)]
def xH(x1:List Vstep)(x2:Int)(y0_0:List UInt8)(y0_1:Int)(y0_2:Int)(y0_3:Nat)(y1:List Vstep):List (Nat × TB EE.T):=[(100000,.cs [.d .str y0_0,.d (.int .i64) y0_1,.d (.int .i64) y0_2,.vec (.nam 7) 200001 y0_3]),(200001,.vec 200001 (.nam 7) y1)]
theorem kT{N:Nat}(x1:List Vstep)(x2:Int)(y0_0:List UInt8)(y0_1:Int)(y0_2:Int)(y0_3:Nat)(y1:List Vstep){r:PR aI}(h:bu N x1 x2 y0_0 y0_1 y0_2 y0_3 y1=some r)(ρ:Rn)(hi:Inj ρ (xH x1 x2 y0_0 y0_1 y0_2 y0_3 y1)):aR Try.prog 52 ((BT x1 x2 y0_0 y0_1 y0_2 y0_3 y1).map (TV.to EE.toEnc ρ)) (hTo EE.toEnc ρ (xH x1 x2 y0_0 y0_1 y0_2 y0_3 y1)) (df EE ρ fun u=>u=l9 r):=
 fg (ai 0 Try.f52) 47 mixed (D7 N) Try.func52 (by kernel_rfl) rfl rfl rfl rfl (Ff x1 x2 y0_0 y0_1 y0_2 y0_3 y1 h) ρ hi
def eZ(N:Nat)(us:List (TV EE.T))(hs:List (Nat × TB EE.T)):XR EE.T:=
 gdX (fJ us 3) <|
 bnX (aB us 0) fun i0=>
 bnX (aD (.sl (.nam 7)) us 1) fun x1=>
 bnX (aD (.int .i64) us 2) fun x2=>
 bnX (bC hs i0) fun l0=>
 gdX (fJ l0 4) <|
 bnX (cD .str l0 0) fun y0_0=>
 bnX (cD (.int .i64) l0 1) fun y0_1=>
 bnX (cD (.int .i64) l0 2) fun y0_2=>
 bnX (cVi (.nam 7) l0 3) fun i1=>
 bnX (cVn (.nam 7) l0 3) fun y0_3=>
 bnX (bV (.nam 7) hs i1) fun y1=>
 gdX (b9 hs [i0,i1]) <|
 gdX (hU [i0,i1]) <|
 .mv (bu N x1 x2 y0_0 y0_1 y0_2 y0_3 y1) [i0,i1] (mvL [i0,i1] [100000,200001]) 0 (en i0 i1) (sc i0 i1)
theorem gc(N:Nat):XOk Try.prog EE 52 (eZ N):=fun us hs=>
 ba fun h1=>aC fun i0 h2=>aC fun x1 h3=>aC fun x2 h4=>aC fun l0 h5=>ba fun h6=>aC fun y0_0 h7=>aC fun y0_1 h8=>aC fun y0_2 h9=>aC fun i1 h10=>aC fun y0_3 h11=>aC fun y1 h12=>ba fun h13=>ba fun h14=>fun p hz ρ hi=>fW (ex:=[]) (ks:=[100000,200001]) (us':=BT x1 x2 y0_0 y0_1 y0_2 y0_3 y1) (h0:=xH x1 x2 y0_0 y0_1 y0_2 y0_3 y1) (ρ':=mR ρ [i0,i1]) (uc:=en 100000 200001) (u:=en i0 i1) (hc:=sc 100000 200001) (h:=sc i0 i1) hi h13 (by kernel_rfl) ⟨iR h2 (by kernel_rfl),mQ h3,mQ h4,cq h1⟩ ⟨(by kernel_rfl),kV h5 ⟨dt h7,dt h8,dt h9,io h10 h11 (by kernel_rfl),cq h6⟩,(by kernel_rfl),jf h12 (by kernel_rfl),trivial⟩ ⟨.inr rfl,.inl rfl,trivial⟩ h14 (fun hj=>kT x1 x2 y0_0 y0_1 y0_2 y0_3 y1 hz _ hj) (fun z=>⟨by kernel_rfl,by kernel_rfl,by kernel_rfl,by kernel_rfl⟩)
def lH(i0:Nat)(i1:Nat)(r:Bool × (List UInt8) × Int × Int × Nat × (List Vstep)):TV EE.T:=.a (.d .bool r.1)
def ko(i0:Nat)(i1:Nat)(r:Bool × (List UInt8) × Int × Int × Nat × (List Vstep)):List (Nat × TB EE.T):=[(i0,.cs [.d .str r.2.1,.d (.int .i64) r.2.2.1,.d (.int .i64) r.2.2.2.1,.vec (.nam 7) i1 r.2.2.2.2.1]),(i1,.vec i1 (.nam 7) r.2.2.2.2.2)]
def eo(N:RecC)(us:List (TV EE.T))(hs:List (Nat × TB EE.T)):XR EE.T:=
 gdX (fJ us 1) <|
 bnX (aB us 0) fun i0=>
 bnX (bC hs i0) fun l0=>
 gdX (fJ l0 4) <|
 bnX (cD .str l0 0) fun y0_0=>
 bnX (cD (.int .i64) l0 1) fun y0_1=>
 bnX (cD (.int .i64) l0 2) fun y0_2=>
 bnX (cVi (.nam 7) l0 3) fun i1=>
 bnX (cVn (.nam 7) l0 3) fun y0_3=>
 bnX (bV (.nam 7) hs i1) fun y1=>
 gdX (b9 hs [i0,i1]) <|
 gdX (hU [i0,i1]) <|
 .mv (dP N y0_0 y0_1 y0_2 y0_3 y1) [i0,i1] (mvL [i0,i1] [100000,200001]) 0 (lH i0 i1) (ko i0 i1)
def hY(N:RecC):Prop:=XOk Try.prog EE 34 (eo N)
theorem ga(N:RecC)(hN:hY N):XOk Try.prog EE 34 (eo N):=hN
theorem Ei(n:Nat):hY ⟨n,fun _ _ _ _ _=>none⟩:=fun us hs=>
 ba fun h1=>aC fun i0 h2=>aC fun l0 h3=>ba fun h4=>aC fun y0_0 h5=>aC fun y0_1 h6=>aC fun y0_2 h7=>aC fun i1 h8=>aC fun y0_3 h9=>aC fun y1 h10=>ba fun h11=>ba fun h12=>fun p hz=>by cases hz
def dU(i0:Nat)(i1:Nat)(r:aA):TV EE.T:=.a (.d .bool r.1)
def sb(i0:Nat)(i1:Nat)(r:aA):List (Nat × TB EE.T):=[(i0,.cs [.d .str r.2.1,.d (.int .i64) r.2.2.1,.d (.int .i64) r.2.2.2.1,.vec (.nam 7) i1 r.2.2.2.2.1]),(i1,.vec i1 (.nam 7) r.2.2.2.2.2)]
def cv(r:PR aA):RL EE.T:=lX (dU 100000 200001) (sb 100000 200001) r
def I8:Lvs:=⟨[(1,⟨[(0,false)],[],[(100000,(none,[])),(200001,(none,[]))],[]⟩),(5,⟨[(0,false),(3,false)],[],[(100000,(none,[])),(200001,(none,[]))],[]⟩),(20,⟨[(0,false),(6,false),(7,false),(8,false)],[],[(100000,(none,[])),(200001,(none,[]))],[]⟩),(21,⟨[(0,false),(6,false)],[],[(100000,(none,[])),(200001,(none,[]))],[]⟩),(30,⟨[(0,false)],[],[(100000,(none,[])),(200001,(none,[]))],[]⟩)],[(11,⟨[(0,false),(4,false),(51,false)],[],[(4,(none,[])),(100000,(none,[])),(200001,(none,[]))],[]⟩)],[5,20,21,30],[],false,[(100000,(none,[]))],[100000,200001],[(15,[.cl 4 (.a 256) (.s 4)])],[]⟩
def Ic:List ResultVar:=[.tmp 2]
def Ec(N:RecC):Gam EE:=⟨[⟨68,o3 N.n⟩,⟨46,ea N.n⟩],EQT,[⟨69,g9 N.n⟩,⟨34,eo N⟩,⟨35,dl N.n⟩,⟨50,ef N.n⟩,⟨36,dv N.n⟩,⟨61,cC N.n⟩],[]⟩
theorem FF(N:RecC)(hN:hY N):GOk Try.prog TT EE (Ec N):=GOk.cons (wV N.n) (GOk.cons (fx N.n) (GOk.consx (kl N.n) (GOk.consx (ga N hN) (GOk.consx (dz N.n) (GOk.consx (eI N.n) (GOk.consx (dK N.n) (GOk.consx (cN N.n) (GOk.nil dx))))))))
def vy(c:Code):List It2:=atL 11 c
def vH(x51:Int)(b4:List Bool)(b100000_0:List UInt8)(b100000_1:Int)(b100000_2:Int)(b100000_3_n:Nat)(b200001:List Vstep):TS EE.T:=⟨187,[(0,.a (.box 100000 0)),(4,.a (.box 4 0)),(51,.a (.d (.int .i64) x51))],[(4,.row .bool b4),(100000,.cs [.d .str b100000_0,.d (.int .i64) b100000_1,.d (.int .i64) b100000_2,.vec (.nam 7) 200001 b100000_3_n]),(200001,.vec 200001 (.nam 7) b200001)],[]⟩
def wg(c:Code):List It2:=atR 21 c
def vD(x6:UInt8)(b100000_0:List UInt8)(b100000_1:Int)(b100000_2:Int)(b100000_3_n:Nat)(b200001:List Vstep):TS EE.T:=⟨187,[(0,.a (.box 100000 0)),(6,.a (.d .byte x6))],[(100000,.cs [.d .str b100000_0,.d (.int .i64) b100000_1,.d (.int .i64) b100000_2,.vec (.nam 7) 200001 b100000_3_n]),(200001,.vec 200001 (.nam 7) b200001)],[]⟩
def wj(c:Code):List It2:=atR 20 c
def vz(x6:UInt8)(x7:Bool)(x8:Bool)(b100000_0:List UInt8)(b100000_1:Int)(b100000_2:Int)(b100000_3_n:Nat)(b200001:List Vstep):TS EE.T:=⟨187,[(0,.a (.box 100000 0)),(6,.a (.d .byte x6)),(7,.a (.d .bool x7)),(8,.a (.d .bool x8))],[(100000,.cs [.d .str b100000_0,.d (.int .i64) b100000_1,.d (.int .i64) b100000_2,.vec (.nam 7) 200001 b100000_3_n]),(200001,.vec 200001 (.nam 7) b200001)],[]⟩
def vW(c:Code):List It2:=atR 30 c
def wv(b100000_0:List UInt8)(b100000_1:Int)(b100000_2:Int)(b100000_3_n:Nat)(b200001:List Vstep):TS EE.T:=⟨187,[(0,.a (.box 100000 0))],[(100000,.cs [.d .str b100000_0,.d (.int .i64) b100000_1,.d (.int .i64) b100000_2,.vec (.nam 7) 200001 b100000_3_n]),(200001,.vec 200001 (.nam 7) b200001)],[]⟩
def yy(c:Code):List It2:=atR 5 c
def As(x3:UInt8)(b100000_0:List UInt8)(b100000_1:Int)(b100000_2:Int)(b100000_3_n:Nat)(b200001:List Vstep):TS EE.T:=⟨187,[(0,.a (.box 100000 0)),(3,.a (.d .byte x3))],[(100000,.cs [.d .str b100000_0,.d (.int .i64) b100000_1,.d (.int .i64) b100000_2,.vec (.nam 7) 200001 b100000_3_n]),(200001,.vec 200001 (.nam 7) b200001)],[]⟩
def GE(c:Code):List It2:=[.c c]
def Gr(y0_0:List UInt8)(y0_1:Int)(y0_2:Int)(y0_3:Nat)(y1:List Vstep):TS EE.T:=⟨187,[(0,.a (.box 100000 0))],[(100000,.cs [.d .str y0_0,.d (.int .i64) y0_1,.d (.int .i64) y0_2,.vec (.nam 7) 200001 y0_3]),(200001,.vec 200001 (.nam 7) y1)],[]⟩
def vB(c:Code)(f:Int→(List Bool)→(List UInt8)→Int→Int→Nat→(List Vstep)→Option (PR aA))(x51:Int)(b4:List Bool)(b100000_0:List UInt8)(b100000_1:Int)(b100000_2:Int)(b100000_3_n:Nat)(b200001:List Vstep):Tree (Lf EE.T × Option (PR aA)):=.leaf (.go (vy c) (vH x51 b4 b100000_0 b100000_1 b100000_2 b100000_3_n b200001),f x51 b4 b100000_0 b100000_1 b100000_2 b100000_3_n b200001)
def vN(c:Code)(f:UInt8→(List UInt8)→Int→Int→Nat→(List Vstep)→Option (PR aA))(x6:UInt8)(b100000_0:List UInt8)(b100000_1:Int)(b100000_2:Int)(b100000_3_n:Nat)(b200001:List Vstep):Tree (Lf EE.T × Option (PR aA)):=.leaf (.go (wg c) (vD x6 b100000_0 b100000_1 b100000_2 b100000_3_n b200001),f x6 b100000_0 b100000_1 b100000_2 b100000_3_n b200001)
def eT(c:Code)(f:UInt8→Bool→Bool→(List UInt8)→Int→Int→Nat→(List Vstep)→Option (PR aA))(x6:UInt8)(x7:Bool)(x8:Bool)(b100000_0:List UInt8)(b100000_1:Int)(b100000_2:Int)(b100000_3_n:Nat)(b200001:List Vstep):Tree (Lf EE.T × Option (PR aA)):=.leaf (.go (wj c) (vz x6 x7 x8 b100000_0 b100000_1 b100000_2 b100000_3_n b200001),f x6 x7 x8 b100000_0 b100000_1 b100000_2 b100000_3_n b200001)
def vK(c:Code)(f:(List UInt8)→Int→Int→Nat→(List Vstep)→Option (PR aA))(b100000_0:List UInt8)(b100000_1:Int)(b100000_2:Int)(b100000_3_n:Nat)(b200001:List Vstep):Tree (Lf EE.T × Option (PR aA)):=.leaf (.go (vW c) (wv b100000_0 b100000_1 b100000_2 b100000_3_n b200001),f b100000_0 b100000_1 b100000_2 b100000_3_n b200001)
def yV(c:Code)(f:UInt8→(List UInt8)→Int→Int→Nat→(List Vstep)→Option (PR aA))(x3:UInt8)(b100000_0:List UInt8)(b100000_1:Int)(b100000_2:Int)(b100000_3_n:Nat)(b200001:List Vstep):Tree (Lf EE.T × Option (PR aA)):=.leaf (.go (yy c) (As x3 b100000_0 b100000_1 b100000_2 b100000_3_n b200001),f x3 b100000_0 b100000_1 b100000_2 b100000_3_n b200001)
abbrev nq(N:RecC)(r:PR aA)(k:List It2)(s:TS EE.T):Prop:=fX (Y:=TT) EE (Ec N) I8 Ic (fun u=>u=cv r) k s
def dy(x:PR aA):Tree (Lf EE.T × Option (PR aA)):=.leaf (.done (cv x),some x)
theorem vn{N:RecC}{r:PR aA}:∀ (n:Nat) (x51:Int) (b4:List Bool) (b100000_0:List UInt8) (b100000_1:Int) (b100000_2:Int) (b100000_3_n:Nat) (b200001:List Vstep),cQ N n x51 b4 b100000_0 b100000_1 b100000_2 b100000_3_n b200001=some r→nq N r (vy (ai 0 Try.f67)) (vH x51 b4 b100000_0 b100000_1 b100000_2 b100000_3_n b200001)
 |0,_,_,_,_,_,_,_,h=>by cases h
 |n+1,x51,b4,b100000_0,b100000_1,b100000_2,b100000_3_n,b200001,h=>aT (m:=4000) (t:=
  .cond (decide (x51 < 256))
  (
   .bnd (eR 256 x51) fun z13=>
   .bnd (uX b4 (0+z13) true) fun z14=>
   vB (ai 0 Try.f67) (cQ N n) (w64 (x51+1)) z14 b100000_0 b100000_1 b100000_2 b100000_3_n b200001)
  (
   .bnd (px 256 b4) fun z15=>
   .bnd (az N.n ({ kind:=0,a:=0,b:=0,set_:=(some z15) }:Vstep) b100000_0 b100000_1 b100000_2 b100000_3_n b200001) fun z16=>
   .sm z16 (fun z17=>
    dy (.ok (false,z17.2.1,z17.2.2.1,z17.2.2.2.1,z17.2.2.2.2.1,z17.2.2.2.2.2))) (fun vz16=>
    dy (.pan vz16)))) (by kernel_rfl) (by kernel_rfl) h (⟨fun _=>fun _=>fun h=>(vn n) _ _ _ _ _ _ _ h,fun _=>fun _=>⟨fun _=>be (enc:=cv) rfl,fun _=>be (enc:=cv) rfl⟩⟩)
theorem vq{N:RecC}{r:PR aA}(n:Nat)(x6:UInt8)(b100000_0:List UInt8)(b100000_1:Int)(b100000_2:Int)(b100000_3_n:Nat)(b200001:List Vstep)(h:cM N n x6 b100000_0 b100000_1 b100000_2 b100000_3_n b200001=some r):nq N r (wg (ai 0 Try.f67)) (vD x6 b100000_0 b100000_1 b100000_2 b100000_3_n b200001):=
 aT (m:=4000) (t:=
 .bnd (aX N.n 1 b100000_1 b100000_0 b100000_1 b100000_2 b100000_3_n b200001) fun z34=>
 .sm z34 (fun z35=>
  .bnd (fH N.n x6) fun z36=>
  .bnd (az N.n ({ kind:=0,a:=0,b:=0,set_:=z36 }:Vstep) z35.1 (w64 (z35.2.1+1)) z35.2.2.1 z35.2.2.2.1 z35.2.2.2.2) fun z37=>
  .sm z37 (fun z38=>
   dy (.ok (false,z38.2.1,z38.2.2.1,z38.2.2.2.1,z38.2.2.2.2.1,z38.2.2.2.2.2))) (fun vz37=>
   dy (.pan vz37))) (fun vz34=>
  dy (.pan vz34))) (by kernel_rfl) (by kernel_rfl) h (fun _=>⟨fun _=>fun _=>fun _=>⟨fun _=>be (enc:=cv) rfl,fun _=>be (enc:=cv) rfl⟩,fun _=>be (enc:=cv) rfl⟩)
theorem w67i0oR20{N:RecC}{r:PR aA}(n:Nat)(x6:UInt8)(x7:Bool)(x8:Bool)(b100000_0:List UInt8)(b100000_1:Int)(b100000_2:Int)(b100000_3_n:Nat)(b200001:List Vstep)(h:aF N n x6 x7 x8 b100000_0 b100000_1 b100000_2 b100000_3_n b200001=some r):nq N r (wj (ai 0 Try.f67)) (vz x6 x7 x8 b100000_0 b100000_1 b100000_2 b100000_3_n b200001):=
 aT (m:=4000) (t:=
 .cond (!x7)
 (
  vN (ai 0 Try.f67) (cM N n) x6 b100000_0 b100000_1 b100000_2 b100000_3_n b200001)
 (
  .cond (x8)
  (
   vN (ai 0 Try.f67) (cM N n) x6 b100000_0 b100000_1 b100000_2 b100000_3_n b200001)
  (
   .bnd (fH N.n x6) fun z18=>
   .bnd (az N.n ({ kind:=0,a:=0,b:=0,set_:=z18 }:Vstep) b100000_0 (w64 (b100000_1+1)) b100000_2 b100000_3_n b200001) fun z19=>
   .sm z19 (fun z20=>
    dy (.ok (false,z20.2.1,z20.2.2.1,z20.2.2.2.1,z20.2.2.2.2.1,z20.2.2.2.2.2))) (fun vz19=>
    dy (.pan vz19))))) (by kernel_rfl) (by kernel_rfl) h (⟨fun h=>vq n _ _ _ _ _ _ h,⟨fun h=>vq n _ _ _ _ _ _ h,fun _=>fun _=>⟨fun _=>be (enc:=cv) rfl,fun _=>be (enc:=cv) rfl⟩⟩⟩)
theorem wc{N:RecC}{r:PR aA}(n:Nat)(b100000_0:List UInt8)(b100000_1:Int)(b100000_2:Int)(b100000_3_n:Nat)(b200001:List Vstep)(h:cm N n b100000_0 b100000_1 b100000_2 b100000_3_n b200001=some r):nq N r (vW (ai 0 Try.f67)) (wv b100000_0 b100000_1 b100000_2 b100000_3_n b200001):=
 aT (m:=4000) (t:=
 .bnd (az N.n ({ kind:=3,a:=w64 (2 * (w64 (b100000_2+1))),b:=0,set_:=(none:Option (List Bool)) }:Vstep) b100000_0 (w64 (b100000_1+1)) (w64 (b100000_2+1)) b100000_3_n b200001) fun z21=>
 .sm z21 (fun z22=>
  .bnd (dP N z22.2.1 z22.2.2.1 z22.2.2.2.1 z22.2.2.2.2.1 z22.2.2.2.2.2) fun z23=>
  .sm z23 (fun z24=>
   .bnd (az N.n ({ kind:=3,a:=w64 ((w64 (2 * (w64 (b100000_2+1))))+1),b:=0,set_:=(none:Option (List Bool)) }:Vstep) z24.2.1 z24.2.2.1 z24.2.2.2.1 z24.2.2.2.2.1 z24.2.2.2.2.2) fun z25=>
   .sm z25 (fun z26=>
    .bnd (aO N.n 41 z26.2.1 z26.2.2.1 z26.2.2.2.1 z26.2.2.2.2.1 z26.2.2.2.2.2) fun z27=>
    .sm z27 (fun z28=>
     .cond (!z28.1)
     (
      .bnd (aX N.n 1 z28.2.2.1 z28.2.1 z28.2.2.1 z28.2.2.2.1 z28.2.2.2.2.1 z28.2.2.2.2.2) fun z29=>
      .sm z29 (fun z30=>
       dy (.ok (z24.1,z30.1,z30.2.1,z30.2.2.1,z30.2.2.2.1,z30.2.2.2.2))) (fun vz29=>
       dy (.pan vz29)))
     (
      dy (.ok (z24.1,z28.2.1,z28.2.2.1,z28.2.2.2.1,z28.2.2.2.2.1,z28.2.2.2.2.2)))) (fun vz27=>
     dy (.pan vz27))) (fun vz25=>
    dy (.pan vz25))) (fun vz23=>
   dy (.pan vz23))) (fun vz21=>
  dy (.pan vz21))) (by kernel_rfl) (by kernel_rfl) h (fun _=>⟨fun _=>fun _=>⟨fun _=>fun _=>⟨fun _=>fun _=>⟨fun _=>⟨fun _=>⟨fun _=>be (enc:=cv) rfl,fun _=>be (enc:=cv) rfl⟩,be (enc:=cv) rfl⟩,fun _=>be (enc:=cv) rfl⟩,fun _=>be (enc:=cv) rfl⟩,fun _=>be (enc:=cv) rfl⟩,fun _=>be (enc:=cv) rfl⟩)
theorem zI{N:RecC}{r:PR aA}(n:Nat)(x3:UInt8)(b100000_0:List UInt8)(b100000_1:Int)(b100000_2:Int)(b100000_3_n:Nat)(b200001:List Vstep)(h:cx N n x3 b100000_0 b100000_1 b100000_2 b100000_3_n b200001=some r):nq N r (yy (ai 0 Try.f67)) (As x3 b100000_0 b100000_1 b100000_2 b100000_3_n b200001):=
 aT (m:=4000) (t:=
 .bnd (fH N.n x3) fun z31=>
 .bnd (az N.n ({ kind:=0,a:=0,b:=0,set_:=z31 }:Vstep) b100000_0 (w64 (b100000_1+1)) b100000_2 b100000_3_n b200001) fun z32=>
 .sm z32 (fun z33=>
  dy (.ok (false,z33.2.1,z33.2.2.1,z33.2.2.2.1,z33.2.2.2.2.1,z33.2.2.2.2.2))) (fun vz32=>
  dy (.pan vz32))) (by kernel_rfl) (by kernel_rfl) h (fun _=>fun _=>⟨fun _=>be (enc:=cv) rfl,fun _=>be (enc:=cv) rfl⟩)
theorem D6{N:RecC}{r:PR aA}(y0_0:List UInt8)(y0_1:Int)(y0_2:Int)(y0_3:Nat)(y1:List Vstep)(h:bM N y0_0 y0_1 y0_2 y0_3 y1=some r):nq N r (GE (ai 0 Try.f67)) (Gr y0_0 y0_1 y0_2 y0_3 y1):=
 aT (m:=4000) (t:=
 .bnd (ap y0_0 y0_1) fun z1=>
 .cond ((b2i z1)==(b2i 46))
 (
  vB (ai 0 Try.f67) (cQ N N.n) 0 (List.replicate 256 false) y0_0 (w64 (y0_1+1)) y0_2 y0_3 y1)
 (
  .cond ((b2i z1)==(b2i 92))
  (
   .bnd (aW N.n y0_0 (w64 (y0_1+1)) y0_2 y0_3 y1) fun z2=>
   .sm z2 (fun z3=>
    .cond (decide ((b2i z3.1)≥(b2i 97)))
    (
     .cond (decide ((b2i z3.1)≤(b2i 122)))
     (
      eT (ai 0 Try.f67) (aF N N.n) z3.1 z3.2.1 true z3.2.2.1 z3.2.2.2.1 z3.2.2.2.2.1 z3.2.2.2.2.2.1 z3.2.2.2.2.2.2)
     (
      .cond (decide ((b2i z3.1)≥(b2i 65)))
      (
       .cond (decide ((b2i z3.1)≤(b2i 90)))
       (
        eT (ai 0 Try.f67) (aF N N.n) z3.1 z3.2.1 true z3.2.2.1 z3.2.2.2.1 z3.2.2.2.2.1 z3.2.2.2.2.2.1 z3.2.2.2.2.2.2)
       (
        .cond (decide ((b2i z3.1)≥(b2i 48)))
        (
         eT (ai 0 Try.f67) (aF N N.n) z3.1 z3.2.1 (decide ((b2i z3.1)≤(b2i 57))) z3.2.2.1 z3.2.2.2.1 z3.2.2.2.2.1 z3.2.2.2.2.2.1 z3.2.2.2.2.2.2)
        (
         eT (ai 0 Try.f67) (aF N N.n) z3.1 z3.2.1 false z3.2.2.1 z3.2.2.2.1 z3.2.2.2.2.1 z3.2.2.2.2.2.1 z3.2.2.2.2.2.2)))
      (
       .cond (decide ((b2i z3.1)≥(b2i 48)))
       (
        eT (ai 0 Try.f67) (aF N N.n) z3.1 z3.2.1 (decide ((b2i z3.1)≤(b2i 57))) z3.2.2.1 z3.2.2.2.1 z3.2.2.2.2.1 z3.2.2.2.2.2.1 z3.2.2.2.2.2.2)
       (
        eT (ai 0 Try.f67) (aF N N.n) z3.1 z3.2.1 false z3.2.2.1 z3.2.2.2.1 z3.2.2.2.2.1 z3.2.2.2.2.2.1 z3.2.2.2.2.2.2))))
    (
     .cond (decide ((b2i z3.1)≥(b2i 65)))
     (
      .cond (decide ((b2i z3.1)≤(b2i 90)))
      (
       eT (ai 0 Try.f67) (aF N N.n) z3.1 z3.2.1 true z3.2.2.1 z3.2.2.2.1 z3.2.2.2.2.1 z3.2.2.2.2.2.1 z3.2.2.2.2.2.2)
      (
       .cond (decide ((b2i z3.1)≥(b2i 48)))
       (
        eT (ai 0 Try.f67) (aF N N.n) z3.1 z3.2.1 (decide ((b2i z3.1)≤(b2i 57))) z3.2.2.1 z3.2.2.2.1 z3.2.2.2.2.1 z3.2.2.2.2.2.1 z3.2.2.2.2.2.2)
       (
        eT (ai 0 Try.f67) (aF N N.n) z3.1 z3.2.1 false z3.2.2.1 z3.2.2.2.1 z3.2.2.2.2.1 z3.2.2.2.2.2.1 z3.2.2.2.2.2.2)))
     (
      .cond (decide ((b2i z3.1)≥(b2i 48)))
      (
       eT (ai 0 Try.f67) (aF N N.n) z3.1 z3.2.1 (decide ((b2i z3.1)≤(b2i 57))) z3.2.2.1 z3.2.2.2.1 z3.2.2.2.2.1 z3.2.2.2.2.2.1 z3.2.2.2.2.2.2)
      (
       eT (ai 0 Try.f67) (aF N N.n) z3.1 z3.2.1 false z3.2.2.1 z3.2.2.2.1 z3.2.2.2.2.1 z3.2.2.2.2.2.1 z3.2.2.2.2.2.2)))) (fun vz2=>
    dy (.pan vz2)))
  (
   .cond ((b2i z1)==(b2i 91))
   (
    .bnd (dO N.n y0_0 (w64 (y0_1+1)) y0_2 y0_3 y1) fun z4=>
    .sm z4 (fun z5=>
     .bnd (az N.n ({ kind:=0,a:=0,b:=0,set_:=z5.1 }:Vstep) z5.2.1 z5.2.2.1 z5.2.2.2.1 z5.2.2.2.2.1 z5.2.2.2.2.2) fun z6=>
     .sm z6 (fun z7=>
      dy (.ok (false,z7.2.1,z7.2.2.1,z7.2.2.2.1,z7.2.2.2.2.1,z7.2.2.2.2.2))) (fun vz6=>
      dy (.pan vz6))) (fun vz4=>
     dy (.pan vz4)))
   (
    .cond ((b2i z1)==(b2i 40))
    (
     .cond (y0_2==9)
     (
      .bnd (aX N.n 2 y0_1 y0_0 y0_1 y0_2 y0_3 y1) fun z8=>
      .sm z8 (fun z9=>
       vK (ai 0 Try.f67) (cm N N.n) z9.1 z9.2.1 z9.2.2.1 z9.2.2.2.1 z9.2.2.2.2) (fun vz8=>
       dy (.pan vz8)))
     (
      vK (ai 0 Try.f67) (cm N N.n) y0_0 y0_1 y0_2 y0_3 y1))
    (
     .bnd (bX N.n ([42,43,63,41,124,93] :List UInt8) z1) fun z10=>
     .cond (decide (z10≥0))
     (
      .bnd (aX N.n 1 y0_1 y0_0 y0_1 y0_2 y0_3 y1) fun z11=>
      .sm z11 (fun z12=>
       yV (ai 0 Try.f67) (cx N N.n) z1 z12.1 z12.2.1 z12.2.2.1 z12.2.2.2.1 z12.2.2.2.2) (fun vz11=>
       dy (.pan vz11)))
     (
      yV (ai 0 Try.f67) (cx N N.n) z1 y0_0 y0_1 y0_2 y0_3 y1)))))) (by kernel_rfl) (by kernel_rfl) h (fun _=>⟨fun h=>vn N.n _ _ _ _ _ _ _ h,⟨fun _=>⟨fun _=>⟨⟨fun h=>w67i0oR20 N.n _ _ _ _ _ _ _ _ h,⟨⟨fun h=>w67i0oR20 N.n _ _ _ _ _ _ _ _ h,⟨fun h=>w67i0oR20 N.n _ _ _ _ _ _ _ _ h,fun h=>w67i0oR20 N.n _ _ _ _ _ _ _ _ h⟩⟩,⟨fun h=>w67i0oR20 N.n _ _ _ _ _ _ _ _ h,fun h=>w67i0oR20 N.n _ _ _ _ _ _ _ _ h⟩⟩⟩,⟨⟨fun h=>w67i0oR20 N.n _ _ _ _ _ _ _ _ h,⟨fun h=>w67i0oR20 N.n _ _ _ _ _ _ _ _ h,fun h=>w67i0oR20 N.n _ _ _ _ _ _ _ _ h⟩⟩,⟨fun h=>w67i0oR20 N.n _ _ _ _ _ _ _ _ h,fun h=>w67i0oR20 N.n _ _ _ _ _ _ _ _ h⟩⟩⟩,fun _=>be (enc:=cv) rfl⟩,⟨fun _=>⟨fun _=>fun _=>⟨fun _=>be (enc:=cv) rfl,fun _=>be (enc:=cv) rfl⟩,fun _=>be (enc:=cv) rfl⟩,⟨⟨fun _=>⟨fun _=>fun h=>wc N.n _ _ _ _ _ h,fun _=>be (enc:=cv) rfl⟩,fun h=>wc N.n _ _ _ _ _ h⟩,fun _=>⟨fun _=>⟨fun _=>fun h=>zI N.n _ _ _ _ _ _ h,fun _=>be (enc:=cv) rfl⟩,fun h=>zI N.n _ _ _ _ _ _ h⟩⟩⟩⟩⟩)
def Bx(y0_0:List UInt8)(y0_1:Int)(y0_2:Int)(y0_3:Nat)(y1:List Vstep):List (TV EE.T):=[.a (.box 100000 0)]
def w8(y0_0:List UInt8)(y0_1:Int)(y0_2:Int)(y0_3:Nat)(y1:List Vstep):List (Nat × TB EE.T):=[(100000,.cs [.d .str y0_0,.d (.int .i64) y0_1,.d (.int .i64) y0_2,.vec (.nam 7) 200001 y0_3]),(200001,.vec 200001 (.nam 7) y1)]
theorem j0{N:RecC}(hN:hY N)(y0_0:List UInt8)(y0_1:Int)(y0_2:Int)(y0_3:Nat)(y1:List Vstep){r:PR aA}(h:bM N y0_0 y0_1 y0_2 y0_3 y1=some r)(ρ:Rn)(hi:Inj ρ (w8 y0_0 y0_1 y0_2 y0_3 y1)):aR Try.prog 67 ((Bx y0_0 y0_1 y0_2 y0_3 y1).map (TV.to EE.toEnc ρ)) (hTo EE.toEnc ρ (w8 y0_0 y0_1 y0_2 y0_3 y1)) (df EE ρ fun u=>u=cv r):=
 fg (ai 0 Try.f67) 187 mixed (FF N hN) Try.func67 (by kernel_rfl) rfl rfl rfl rfl (D6 y0_0 y0_1 y0_2 y0_3 y1 h) ρ hi
def gE(N:RecC)(us:List (TV EE.T))(hs:List (Nat × TB EE.T)):XR EE.T:=
 gdX (fJ us 1) <|
 bnX (aB us 0) fun i0=>
 bnX (bC hs i0) fun l0=>
 gdX (fJ l0 4) <|
 bnX (cD .str l0 0) fun y0_0=>
 bnX (cD (.int .i64) l0 1) fun y0_1=>
 bnX (cD (.int .i64) l0 2) fun y0_2=>
 bnX (cVi (.nam 7) l0 3) fun i1=>
 bnX (cVn (.nam 7) l0 3) fun y0_3=>
 bnX (bV (.nam 7) hs i1) fun y1=>
 gdX (b9 hs [i0,i1]) <|
 gdX (hU [i0,i1]) <|
 .mv (bM N y0_0 y0_1 y0_2 y0_3 y1) [i0,i1] (mvL [i0,i1] [100000,200001]) 0 (dU i0 i1) (sb i0 i1)
theorem jM(N:RecC)(hN:hY N):XOk Try.prog EE 67 (gE N):=fun us hs=>
 ba fun h1=>aC fun i0 h2=>aC fun l0 h3=>ba fun h4=>aC fun y0_0 h5=>aC fun y0_1 h6=>aC fun y0_2 h7=>aC fun i1 h8=>aC fun y0_3 h9=>aC fun y1 h10=>ba fun h11=>ba fun h12=>fun p hz ρ hi=>fW (ex:=[]) (ks:=[100000,200001]) (us':=Bx y0_0 y0_1 y0_2 y0_3 y1) (h0:=w8 y0_0 y0_1 y0_2 y0_3 y1) (ρ':=mR ρ [i0,i1]) (uc:=dU 100000 200001) (u:=dU i0 i1) (hc:=sb 100000 200001) (h:=sb i0 i1) hi h11 (by kernel_rfl) ⟨iR h2 (by kernel_rfl),cq h1⟩ ⟨(by kernel_rfl),kV h3 ⟨dt h5,dt h6,dt h7,io h8 h9 (by kernel_rfl),cq h4⟩,(by kernel_rfl),jf h10 (by kernel_rfl),trivial⟩ ⟨.inr rfl,.inl rfl,trivial⟩ h12 (fun hj=>j0 hN y0_0 y0_1 y0_2 y0_3 y1 hz _ hj) (fun z=>⟨by kernel_rfl,by kernel_rfl,by kernel_rfl,by kernel_rfl⟩)
def dJ(i0:Nat)(i1:Nat)(r:aJ):TV EE.T:=.a (.d .bool r.1)
def rN(i0:Nat)(i1:Nat)(r:aJ):List (Nat × TB EE.T):=[(i0,.cs [.d .str r.2.1,.d (.int .i64) r.2.2.1,.d (.int .i64) r.2.2.2.1,.vec (.nam 7) i1 r.2.2.2.2.1]),(i1,.vec i1 (.nam 7) r.2.2.2.2.2)]
def dn(r:PR aJ):RL EE.T:=lX (dJ 100000 200001) (rN 100000 200001) r
def Jd:Lvs:=⟨[(2,⟨[(0,false),(3,false)],[],[(100000,(none,[])),(200001,(none,[]))],[]⟩),(7,⟨[(0,false),(3,false),(4,false),(5,false),(6,false)],[],[(100000,(none,[])),(200001,(none,[]))],[]⟩),(9,⟨[(0,false),(3,false),(6,false)],[],[(100000,(none,[])),(200001,(none,[]))],[]⟩),(14,⟨[(0,false),(3,false),(8,false),(9,false)],[],[(100000,(none,[])),(200001,(none,[]))],[]⟩),(17,⟨[(0,false),(9,false)],[],[(100000,(none,[])),(200001,(none,[]))],[]⟩),(22,⟨[(0,false),(10,false)],[],[(100000,(none,[])),(200001,(none,[]))],[]⟩),(25,⟨[(0,false),(3,false),(8,false),(11,false)],[],[(100000,(none,[])),(200001,(none,[]))],[]⟩),(27,⟨[(0,false),(11,false)],[],[(100000,(none,[])),(200001,(none,[]))],[]⟩)],[],[7,9],[],false,[(100000,(none,[]))],[100000,200001],[],[]⟩
def Ih:List ResultVar:=[.tmp 2]
def Hu(N:RecC):Gam EE:=⟨[],EQT,[⟨51,fh N.n⟩,⟨35,dl N.n⟩,⟨67,gE N⟩,⟨52,eZ N.n⟩,⟨36,dv N.n⟩,⟨61,cC N.n⟩],[]⟩
theorem Gq(N:RecC)(hN:hY N):GOk Try.prog TT EE (Hu N):=GOk.consx (f8 N.n) (GOk.consx (dz N.n) (GOk.consx (jM N hN) (GOk.consx (gc N.n) (GOk.consx (dK N.n) (GOk.consx (cN N.n) (GOk.nil dx))))))
def Ag(c:Code):List It2:=atR 9 c
def zF(x3:Int)(x6:UInt8)(b100000_0:List UInt8)(b100000_1:Int)(b100000_2:Int)(b100000_3_n:Nat)(b200001:List Vstep):TS EE.T:=⟨164,[(0,.a (.box 100000 0)),(3,.a (.d (.int .i64) x3)),(6,.a (.d .byte x6))],[(100000,.cs [.d .str b100000_0,.d (.int .i64) b100000_1,.d (.int .i64) b100000_2,.vec (.nam 7) 200001 b100000_3_n]),(200001,.vec 200001 (.nam 7) b200001)],[]⟩
def zn(c:Code):List It2:=atR 7 c
def zD(x3:Int)(x4:Bool)(x5:Bool)(x6:UInt8)(b100000_0:List UInt8)(b100000_1:Int)(b100000_2:Int)(b100000_3_n:Nat)(b200001:List Vstep):TS EE.T:=⟨164,[(0,.a (.box 100000 0)),(3,.a (.d (.int .i64) x3)),(4,.a (.d .bool x4)),(5,.a (.d .bool x5)),(6,.a (.d .byte x6))],[(100000,.cs [.d .str b100000_0,.d (.int .i64) b100000_1,.d (.int .i64) b100000_2,.vec (.nam 7) 200001 b100000_3_n]),(200001,.vec 200001 (.nam 7) b200001)],[]⟩
def ER(c:Code):List It2:=[.c c]
def EB(y0_0:List UInt8)(y0_1:Int)(y0_2:Int)(y0_3:Nat)(y1:List Vstep):TS EE.T:=⟨164,[(0,.a (.box 100000 0))],[(100000,.cs [.d .str y0_0,.d (.int .i64) y0_1,.d (.int .i64) y0_2,.vec (.nam 7) 200001 y0_3]),(200001,.vec 200001 (.nam 7) y1)],[]⟩
def pI(c:Code)(f:Int→UInt8→(List UInt8)→Int→Int→Nat→(List Vstep)→Option (PR aJ))(x3:Int)(x6:UInt8)(b100000_0:List UInt8)(b100000_1:Int)(b100000_2:Int)(b100000_3_n:Nat)(b200001:List Vstep):Tree (Lf EE.T × Option (PR aJ)):=.leaf (.go (Ag c) (zF x3 x6 b100000_0 b100000_1 b100000_2 b100000_3_n b200001),f x3 x6 b100000_0 b100000_1 b100000_2 b100000_3_n b200001)
def tQ(c:Code)(f:Int→Bool→Bool→UInt8→(List UInt8)→Int→Int→Nat→(List Vstep)→Option (PR aJ))(x3:Int)(x4:Bool)(x5:Bool)(x6:UInt8)(b100000_0:List UInt8)(b100000_1:Int)(b100000_2:Int)(b100000_3_n:Nat)(b200001:List Vstep):Tree (Lf EE.T × Option (PR aJ)):=.leaf (.go (zn c) (zD x3 x4 x5 x6 b100000_0 b100000_1 b100000_2 b100000_3_n b200001),f x3 x4 x5 x6 b100000_0 b100000_1 b100000_2 b100000_3_n b200001)
abbrev wG(N:RecC)(r:PR aJ)(k:List It2)(s:TS EE.T):Prop:=fX (Y:=TT) EE (Hu N) Jd Ih (fun u=>u=dn r) k s
def eL(x:PR aJ):Tree (Lf EE.T × Option (PR aJ)):=.leaf (.done (dn x),some x)
theorem pB{N:RecC}{r:PR aJ}(n:Nat)(x3:Int)(x6:UInt8)(b100000_0:List UInt8)(b100000_1:Int)(b100000_2:Int)(b100000_3_n:Nat)(b200001:List Vstep)(h:bm N n x3 x6 b100000_0 b100000_1 b100000_2 b100000_3_n b200001=some r):wG N r (Ag (ai 0 Try.f62)) (zF x3 x6 b100000_0 b100000_1 b100000_2 b100000_3_n b200001):=
 aT (m:=4000) (t:=
 .bnd (cE N.n x3 b100000_0 (w64 (b100000_1+1)) b100000_2 b100000_3_n b200001) fun z8=>
 .sm z8 (fun z9=>
  .cond ((b2i x6)==(b2i 42))
  (
   .bnd (az N.n ({ kind:=1,a:=0,b:=0,set_:=(none:Option (List Bool)) }:Vstep) z9.2.1 z9.2.2.1 z9.2.2.2.1 z9.2.2.2.2.1 z9.2.2.2.2.2) fun z10=>
   .sm z10 (fun z11=>
    .bnd (eR z11.2.2.2.2.1 z11.1) fun z12=>
    .bnd (z11.2.2.2.2.2[z12]?) fun z13=>
    .bnd (bu N.n z9.1 x3 z11.2.1 z11.2.2.1 z11.2.2.2.1 z11.2.2.2.2.1 (List.set z11.2.2.2.2.2 z12 ({ kind:=z13.kind,a:=(z11.2.2.2.2.1:Int),b:=z13.b,set_:=z13.set_ }:Vstep))) fun z14=>
    .sm z14 (fun z15=>
     .bnd (az N.n ({ kind:=2,a:=z11.1,b:=0,set_:=(none:Option (List Bool)) }:Vstep) z15.1 z15.2.1 z15.2.2.1 z15.2.2.2.1 z15.2.2.2.2) fun z16=>
     .sm z16 (fun z17=>
      .bnd (eR z17.2.2.2.2.1 z11.1) fun z18=>
      .bnd (z17.2.2.2.2.2[z18]?) fun z19=>
      eL (.ok (true,z17.2.1,z17.2.2.1,z17.2.2.2.1,z17.2.2.2.2.1,List.set z17.2.2.2.2.2 z18 ({ kind:=z19.kind,a:=z19.a,b:=(z17.2.2.2.2.1:Int),set_:=z19.set_ }:Vstep)))) (fun vz16=>
      eL (.pan vz16))) (fun vz14=>
     eL (.pan vz14))) (fun vz10=>
    eL (.pan vz10)))
  (
   .cond ((b2i x6)==(b2i 43))
   (
    .bnd (bu N.n z9.1 x3 z9.2.1 z9.2.2.1 z9.2.2.2.1 z9.2.2.2.2.1 z9.2.2.2.2.2) fun z20=>
    .sm z20 (fun z21=>
     .bnd (az N.n ({ kind:=1,a:=x3,b:=0,set_:=(none:Option (List Bool)) }:Vstep) z21.1 z21.2.1 z21.2.2.1 z21.2.2.2.1 z21.2.2.2.2) fun z22=>
     .sm z22 (fun z23=>
      .bnd (eR z23.2.2.2.2.1 z23.1) fun z24=>
      .bnd (z23.2.2.2.2.2[z24]?) fun z25=>
      eL (.ok (false,z23.2.1,z23.2.2.1,z23.2.2.2.1,z23.2.2.2.2.1,List.set z23.2.2.2.2.2 z24 ({ kind:=z25.kind,a:=z25.a,b:=(z23.2.2.2.2.1:Int),set_:=z25.set_ }:Vstep)))) (fun vz22=>
      eL (.pan vz22))) (fun vz20=>
     eL (.pan vz20)))
   (
    .bnd (az N.n ({ kind:=1,a:=0,b:=0,set_:=(none:Option (List Bool)) }:Vstep) z9.2.1 z9.2.2.1 z9.2.2.2.1 z9.2.2.2.2.1 z9.2.2.2.2.2) fun z26=>
    .sm z26 (fun z27=>
     .bnd (eR z27.2.2.2.2.1 z27.1) fun z28=>
     .bnd (z27.2.2.2.2.2[z28]?) fun z29=>
     .bnd (bu N.n z9.1 x3 z27.2.1 z27.2.2.1 z27.2.2.2.1 z27.2.2.2.2.1 (List.set z27.2.2.2.2.2 z28 ({ kind:=z29.kind,a:=(z27.2.2.2.2.1:Int),b:=z29.b,set_:=z29.set_ }:Vstep))) fun z30=>
     .sm z30 (fun z31=>
      .bnd (eR z31.2.2.2.1 z27.1) fun z32=>
      .bnd (z31.2.2.2.2[z32]?) fun z33=>
      eL (.ok (true,z31.1,z31.2.1,z31.2.2.1,z31.2.2.2.1,List.set z31.2.2.2.2 z32 ({ kind:=z33.kind,a:=z33.a,b:=(z31.2.2.2.1:Int),set_:=z33.set_ }:Vstep)))) (fun vz30=>
      eL (.pan vz30))) (fun vz26=>
     eL (.pan vz26))))) (fun vz8=>
  eL (.pan vz8))) (by kernel_rfl) (by kernel_rfl) h (fun _=>⟨fun _=>⟨fun _=>⟨fun _=>fun _=>fun _=>fun _=>⟨fun _=>fun _=>⟨fun _=>fun _=>fun _=>be (enc:=dn) rfl,fun _=>be (enc:=dn) rfl⟩,fun _=>be (enc:=dn) rfl⟩,fun _=>be (enc:=dn) rfl⟩,⟨fun _=>⟨fun _=>fun _=>⟨fun _=>fun _=>fun _=>be (enc:=dn) rfl,fun _=>be (enc:=dn) rfl⟩,fun _=>be (enc:=dn) rfl⟩,fun _=>⟨fun _=>fun _=>fun _=>fun _=>⟨fun _=>fun _=>fun _=>be (enc:=dn) rfl,fun _=>be (enc:=dn) rfl⟩,fun _=>be (enc:=dn) rfl⟩⟩⟩,fun _=>be (enc:=dn) rfl⟩)
theorem sw{N:RecC}{r:PR aJ}(n:Nat)(x3:Int)(x4:Bool)(x5:Bool)(x6:UInt8)(b100000_0:List UInt8)(b100000_1:Int)(b100000_2:Int)(b100000_3_n:Nat)(b200001:List Vstep)(h:bO N n x3 x4 x5 x6 b100000_0 b100000_1 b100000_2 b100000_3_n b200001=some r):wG N r (zn (ai 0 Try.f62)) (zD x3 x4 x5 x6 b100000_0 b100000_1 b100000_2 b100000_3_n b200001):=
 aT (m:=4000) (t:=
 .cond (x5)
 (
  .cond (x4)
  (
   .cond ((b2i x6) != (b2i 63))
   (
    .bnd (aX N.n 4 b100000_1 b100000_0 b100000_1 b100000_2 b100000_3_n b200001) fun z6=>
    .sm z6 (fun z7=>
     pI (ai 0 Try.f62) (bm N n) x3 x6 z7.1 z7.2.1 z7.2.2.1 z7.2.2.2.1 z7.2.2.2.2) (fun vz6=>
     eL (.pan vz6)))
   (
    pI (ai 0 Try.f62) (bm N n) x3 x6 b100000_0 b100000_1 b100000_2 b100000_3_n b200001))
  (
   pI (ai 0 Try.f62) (bm N n) x3 x6 b100000_0 b100000_1 b100000_2 b100000_3_n b200001))
 (
  pI (ai 0 Try.f62) (bm N n) x3 x6 b100000_0 b100000_1 b100000_2 b100000_3_n b200001)) (by kernel_rfl) (by kernel_rfl) h (⟨⟨⟨fun _=>⟨fun _=>fun h=>pB n _ _ _ _ _ _ _ h,fun _=>be (enc:=dn) rfl⟩,fun h=>pB n _ _ _ _ _ _ _ h⟩,fun h=>pB n _ _ _ _ _ _ _ h⟩,fun h=>pB n _ _ _ _ _ _ _ h⟩)
theorem FU{N:RecC}{r:PR aJ}(y0_0:List UInt8)(y0_1:Int)(y0_2:Int)(y0_3:Nat)(y1:List Vstep)(h:bq N y0_0 y0_1 y0_2 y0_3 y1=some r):wG N r (ER (ai 0 Try.f62)) (EB y0_0 y0_1 y0_2 y0_3 y1):=
 aT (m:=4000) (t:=
 .bnd (ap y0_0 y0_1) fun z1=>
 .bnd (bM N y0_0 y0_1 y0_2 y0_3 y1) fun z2=>
 .sm z2 (fun z3=>
  .bnd (aW N.n z3.2.1 z3.2.2.1 z3.2.2.2.1 z3.2.2.2.2.1 z3.2.2.2.2.2) fun z4=>
  .sm z4 (fun z5=>
   .cond (!z5.2.1)
   (
    eL (.ok (z3.1,z5.2.2.1,z5.2.2.2.1,z5.2.2.2.2.1,z5.2.2.2.2.2.1,z5.2.2.2.2.2.2)))
   (
    .cond ((b2i z5.1) != (b2i 42))
    (
     .cond ((b2i z5.1) != (b2i 43))
     (
      .cond ((b2i z5.1) != (b2i 63))
      (
       eL (.ok (z3.1,z5.2.2.1,z5.2.2.2.1,z5.2.2.2.2.1,z5.2.2.2.2.2.1,z5.2.2.2.2.2.2)))
      (
       tQ (ai 0 Try.f62) (bO N N.n) (y0_3:Int) ((b2i z1)==(b2i 40)) z3.1 z5.1 z5.2.2.1 z5.2.2.2.1 z5.2.2.2.2.1 z5.2.2.2.2.2.1 z5.2.2.2.2.2.2))
     (
      tQ (ai 0 Try.f62) (bO N N.n) (y0_3:Int) ((b2i z1)==(b2i 40)) z3.1 z5.1 z5.2.2.1 z5.2.2.2.1 z5.2.2.2.2.1 z5.2.2.2.2.2.1 z5.2.2.2.2.2.2))
    (
     tQ (ai 0 Try.f62) (bO N N.n) (y0_3:Int) ((b2i z1)==(b2i 40)) z3.1 z5.1 z5.2.2.1 z5.2.2.2.1 z5.2.2.2.2.1 z5.2.2.2.2.2.1 z5.2.2.2.2.2.2))) (fun vz4=>
   eL (.pan vz4))) (fun vz2=>
  eL (.pan vz2))) (by kernel_rfl) (by kernel_rfl) h (fun _=>fun _=>⟨fun _=>fun _=>⟨fun _=>⟨be (enc:=dn) rfl,⟨⟨⟨be (enc:=dn) rfl,fun h=>sw N.n _ _ _ _ _ _ _ _ _ h⟩,fun h=>sw N.n _ _ _ _ _ _ _ _ _ h⟩,fun h=>sw N.n _ _ _ _ _ _ _ _ _ h⟩⟩,fun _=>be (enc:=dn) rfl⟩,fun _=>be (enc:=dn) rfl⟩)
def BR(y0_0:List UInt8)(y0_1:Int)(y0_2:Int)(y0_3:Nat)(y1:List Vstep):List (TV EE.T):=[.a (.box 100000 0)]
def xP(y0_0:List UInt8)(y0_1:Int)(y0_2:Int)(y0_3:Nat)(y1:List Vstep):List (Nat × TB EE.T):=[(100000,.cs [.d .str y0_0,.d (.int .i64) y0_1,.d (.int .i64) y0_2,.vec (.nam 7) 200001 y0_3]),(200001,.vec 200001 (.nam 7) y1)]
theorem jQ{N:RecC}(hN:hY N)(y0_0:List UInt8)(y0_1:Int)(y0_2:Int)(y0_3:Nat)(y1:List Vstep){r:PR aJ}(h:bq N y0_0 y0_1 y0_2 y0_3 y1=some r)(ρ:Rn)(hi:Inj ρ (xP y0_0 y0_1 y0_2 y0_3 y1)):aR Try.prog 62 ((BR y0_0 y0_1 y0_2 y0_3 y1).map (TV.to EE.toEnc ρ)) (hTo EE.toEnc ρ (xP y0_0 y0_1 y0_2 y0_3 y1)) (df EE ρ fun u=>u=dn r):=
 fg (ai 0 Try.f62) 164 mixed (Gq N hN) Try.func62 (by kernel_rfl) rfl rfl rfl rfl (FU y0_0 y0_1 y0_2 y0_3 y1 h) ρ hi
def gd(N:RecC)(us:List (TV EE.T))(hs:List (Nat × TB EE.T)):XR EE.T:=
 gdX (fJ us 1) <|
 bnX (aB us 0) fun i0=>
 bnX (bC hs i0) fun l0=>
 gdX (fJ l0 4) <|
 bnX (cD .str l0 0) fun y0_0=>
 bnX (cD (.int .i64) l0 1) fun y0_1=>
 bnX (cD (.int .i64) l0 2) fun y0_2=>
 bnX (cVi (.nam 7) l0 3) fun i1=>
 bnX (cVn (.nam 7) l0 3) fun y0_3=>
 bnX (bV (.nam 7) hs i1) fun y1=>
 gdX (b9 hs [i0,i1]) <|
 gdX (hU [i0,i1]) <|
 .mv (bq N y0_0 y0_1 y0_2 y0_3 y1) [i0,i1] (mvL [i0,i1] [100000,200001]) 0 (dJ i0 i1) (rN i0 i1)
theorem jt(N:RecC)(hN:hY N):XOk Try.prog EE 62 (gd N):=fun us hs=>
 ba fun h1=>aC fun i0 h2=>aC fun l0 h3=>ba fun h4=>aC fun y0_0 h5=>aC fun y0_1 h6=>aC fun y0_2 h7=>aC fun i1 h8=>aC fun y0_3 h9=>aC fun y1 h10=>ba fun h11=>ba fun h12=>fun p hz ρ hi=>fW (ex:=[]) (ks:=[100000,200001]) (us':=BR y0_0 y0_1 y0_2 y0_3 y1) (h0:=xP y0_0 y0_1 y0_2 y0_3 y1) (ρ':=mR ρ [i0,i1]) (uc:=dJ 100000 200001) (u:=dJ i0 i1) (hc:=rN 100000 200001) (h:=rN i0 i1) hi h11 (by kernel_rfl) ⟨iR h2 (by kernel_rfl),cq h1⟩ ⟨(by kernel_rfl),kV h3 ⟨dt h5,dt h6,dt h7,io h8 h9 (by kernel_rfl),cq h4⟩,(by kernel_rfl),jf h10 (by kernel_rfl),trivial⟩ ⟨.inr rfl,.inl rfl,trivial⟩ h12 (fun hj=>jQ hN y0_0 y0_1 y0_2 y0_3 y1 hz _ hj) (fun z=>⟨by kernel_rfl,by kernel_rfl,by kernel_rfl,by kernel_rfl⟩)
def ee(i0:Nat)(i1:Nat)(r:bc):TV EE.T:=.a (.d .bool r.1)
def rO(i0:Nat)(i1:Nat)(r:bc):List (Nat × TB EE.T):=[(i0,.cs [.d .str r.2.1,.d (.int .i64) r.2.2.1,.d (.int .i64) r.2.2.2.1,.vec (.nam 7) i1 r.2.2.2.2.1]),(i1,.vec i1 (.nam 7) r.2.2.2.2.2)]
def iE(r:PR bc):RL EE.T:=lX (ee 100000 200001) (rO 100000 200001) r
def H8:Lvs:=⟨[],[(2,⟨[(0,false),(3,false)],[],[(100000,(none,[])),(200001,(none,[]))],[]⟩)],[],[],false,[(100000,(none,[]))],[100000,200001],[],[]⟩
def Ju:List ResultVar:=[.tmp 2]
def EO(N:RecC):Gam EE:=⟨[],EQT,[⟨62,gd N⟩,⟨61,cC N.n⟩],[]⟩
theorem Fs(N:RecC)(hN:hY N):GOk Try.prog TT EE (EO N):=GOk.consx (jt N hN) (GOk.consx (cN N.n) (GOk.nil dx))
def yp(c:Code):List It2:=atL 2 c
def yJ(x3:Bool)(b100000_0:List UInt8)(b100000_1:Int)(b100000_2:Int)(b100000_3_n:Nat)(b200001:List Vstep):TS EE.T:=⟨25,[(0,.a (.box 100000 0)),(3,.a (.d .bool x3))],[(100000,.cs [.d .str b100000_0,.d (.int .i64) b100000_1,.d (.int .i64) b100000_2,.vec (.nam 7) 200001 b100000_3_n]),(200001,.vec 200001 (.nam 7) b200001)],[]⟩
def GM(c:Code):List It2:=[.c c]
def EH(y0_0:List UInt8)(y0_1:Int)(y0_2:Int)(y0_3:Nat)(y1:List Vstep):TS EE.T:=⟨25,[(0,.a (.box 100000 0))],[(100000,.cs [.d .str y0_0,.d (.int .i64) y0_1,.d (.int .i64) y0_2,.vec (.nam 7) 200001 y0_3]),(200001,.vec 200001 (.nam 7) y1)],[]⟩
def uo(c:Code)(f:Bool→(List UInt8)→Int→Int→Nat→(List Vstep)→Option (PR bc))(x3:Bool)(b100000_0:List UInt8)(b100000_1:Int)(b100000_2:Int)(b100000_3_n:Nat)(b200001:List Vstep):Tree (Lf EE.T × Option (PR bc)):=.leaf (.go (yp c) (yJ x3 b100000_0 b100000_1 b100000_2 b100000_3_n b200001),f x3 b100000_0 b100000_1 b100000_2 b100000_3_n b200001)
abbrev Cf(N:RecC)(r:PR bc)(k:List It2)(s:TS EE.T):Prop:=fX (Y:=TT) EE (EO N) H8 Ju (fun u=>u=iE r) k s
def pN(x:PR bc):Tree (Lf EE.T × Option (PR bc)):=.leaf (.done (iE x),some x)
theorem tI{N:RecC}{r:PR bc}:∀ (n:Nat) (x3:Bool) (b100000_0:List UInt8) (b100000_1:Int) (b100000_2:Int) (b100000_3_n:Nat) (b200001:List Vstep),aZ N n x3 b100000_0 b100000_1 b100000_2 b100000_3_n b200001=some r→Cf N r (yp (ai 0 Try.f49)) (yJ x3 b100000_0 b100000_1 b100000_2 b100000_3_n b200001)
 |0,_,_,_,_,_,_,h=>by cases h
 |n+1,x3,b100000_0,b100000_1,b100000_2,b100000_3_n,b200001,h=>aT (m:=4000) (t:=
  .bnd (aW N.n b100000_0 b100000_1 b100000_2 b100000_3_n b200001) fun z1=>
  .sm z1 (fun z2=>
   .cond (!z2.2.1)
   (
    pN (.ok (x3,z2.2.2.1,z2.2.2.2.1,z2.2.2.2.2.1,z2.2.2.2.2.2.1,z2.2.2.2.2.2.2)))
   (
    .cond ((b2i z2.1)==(b2i 124))
    (
     pN (.ok (x3,z2.2.2.1,z2.2.2.2.1,z2.2.2.2.2.1,z2.2.2.2.2.2.1,z2.2.2.2.2.2.2)))
    (
     .cond ((b2i z2.1)==(b2i 41))
     (
      pN (.ok (x3,z2.2.2.1,z2.2.2.2.1,z2.2.2.2.2.1,z2.2.2.2.2.2.1,z2.2.2.2.2.2.2)))
     (
      .bnd (bq N z2.2.2.1 z2.2.2.2.1 z2.2.2.2.2.1 z2.2.2.2.2.2.1 z2.2.2.2.2.2.2) fun z3=>
      .sm z3 (fun z4=>
       .cond (!z4.1)
       (
        uo (ai 0 Try.f49) (aZ N n) false z4.2.1 z4.2.2.1 z4.2.2.2.1 z4.2.2.2.2.1 z4.2.2.2.2.2)
       (
        uo (ai 0 Try.f49) (aZ N n) x3 z4.2.1 z4.2.2.1 z4.2.2.2.1 z4.2.2.2.2.1 z4.2.2.2.2.2)) (fun vz3=>
       pN (.pan vz3)))))) (fun vz1=>
   pN (.pan vz1))) (by kernel_rfl) (by kernel_rfl) h (fun _=>⟨fun _=>⟨be (enc:=iE) rfl,⟨be (enc:=iE) rfl,⟨be (enc:=iE) rfl,fun _=>⟨fun _=>⟨fun h=>(tI n) _ _ _ _ _ _ h,fun h=>(tI n) _ _ _ _ _ _ h⟩,fun _=>be (enc:=iE) rfl⟩⟩⟩⟩,fun _=>be (enc:=iE) rfl⟩)
theorem GN{N:RecC}{r:PR bc}(y0_0:List UInt8)(y0_1:Int)(y0_2:Int)(y0_3:Nat)(y1:List Vstep)(h:bW N y0_0 y0_1 y0_2 y0_3 y1=some r):Cf N r (GM (ai 0 Try.f49)) (EH y0_0 y0_1 y0_2 y0_3 y1):=
 aT (m:=4000) (t:=
 uo (ai 0 Try.f49) (aZ N N.n) true y0_0 y0_1 y0_2 y0_3 y1) (by kernel_rfl) (by kernel_rfl) h (fun h=>tI N.n _ _ _ _ _ _ h)
def Cu(y0_0:List UInt8)(y0_1:Int)(y0_2:Int)(y0_3:Nat)(y1:List Vstep):List (TV EE.T):=[.a (.box 100000 0)]
def wI(y0_0:List UInt8)(y0_1:Int)(y0_2:Int)(y0_3:Nat)(y1:List Vstep):List (Nat × TB EE.T):=[(100000,.cs [.d .str y0_0,.d (.int .i64) y0_1,.d (.int .i64) y0_2,.vec (.nam 7) 200001 y0_3]),(200001,.vec 200001 (.nam 7) y1)]
theorem kC{N:RecC}(hN:hY N)(y0_0:List UInt8)(y0_1:Int)(y0_2:Int)(y0_3:Nat)(y1:List Vstep){r:PR bc}(h:bW N y0_0 y0_1 y0_2 y0_3 y1=some r)(ρ:Rn)(hi:Inj ρ (wI y0_0 y0_1 y0_2 y0_3 y1)):aR Try.prog 49 ((Cu y0_0 y0_1 y0_2 y0_3 y1).map (TV.to EE.toEnc ρ)) (hTo EE.toEnc ρ (wI y0_0 y0_1 y0_2 y0_3 y1)) (df EE ρ fun u=>u=iE r):=
 fg (ai 0 Try.f49) 25 mixed (Fs N hN) Try.func49 (by kernel_rfl) rfl rfl rfl rfl (GN y0_0 y0_1 y0_2 y0_3 y1 h) ρ hi
def gV(N:RecC)(us:List (TV EE.T))(hs:List (Nat × TB EE.T)):XR EE.T:=
 gdX (fJ us 1) <|
 bnX (aB us 0) fun i0=>
 bnX (bC hs i0) fun l0=>
 gdX (fJ l0 4) <|
 bnX (cD .str l0 0) fun y0_0=>
 bnX (cD (.int .i64) l0 1) fun y0_1=>
 bnX (cD (.int .i64) l0 2) fun y0_2=>
 bnX (cVi (.nam 7) l0 3) fun i1=>
 bnX (cVn (.nam 7) l0 3) fun y0_3=>
 bnX (bV (.nam 7) hs i1) fun y1=>
 gdX (b9 hs [i0,i1]) <|
 gdX (hU [i0,i1]) <|
 .mv (bW N y0_0 y0_1 y0_2 y0_3 y1) [i0,i1] (mvL [i0,i1] [100000,200001]) 0 (ee i0 i1) (rO i0 i1)
theorem jZ(N:RecC)(hN:hY N):XOk Try.prog EE 49 (gV N):=fun us hs=>
 ba fun h1=>aC fun i0 h2=>aC fun l0 h3=>ba fun h4=>aC fun y0_0 h5=>aC fun y0_1 h6=>aC fun y0_2 h7=>aC fun i1 h8=>aC fun y0_3 h9=>aC fun y1 h10=>ba fun h11=>ba fun h12=>fun p hz ρ hi=>fW (ex:=[]) (ks:=[100000,200001]) (us':=Cu y0_0 y0_1 y0_2 y0_3 y1) (h0:=wI y0_0 y0_1 y0_2 y0_3 y1) (ρ':=mR ρ [i0,i1]) (uc:=ee 100000 200001) (u:=ee i0 i1) (hc:=rO 100000 200001) (h:=rO i0 i1) hi h11 (by kernel_rfl) ⟨iR h2 (by kernel_rfl),cq h1⟩ ⟨(by kernel_rfl),kV h3 ⟨dt h5,dt h6,dt h7,io h8 h9 (by kernel_rfl),cq h4⟩,(by kernel_rfl),jf h10 (by kernel_rfl),trivial⟩ ⟨.inr rfl,.inl rfl,trivial⟩ h12 (fun hj=>kC hN y0_0 y0_1 y0_2 y0_3 y1 hz _ hj) (fun z=>⟨by kernel_rfl,by kernel_rfl,by kernel_rfl,by kernel_rfl⟩)
def dW(i0:Nat)(i1:Nat)(r:bz):TV EE.T:=.a (.d .bool r.1)
def rF(i0:Nat)(i1:Nat)(r:bz):List (Nat × TB EE.T):=[(i0,.cs [.d .str r.2.1,.d (.int .i64) r.2.2.1,.d (.int .i64) r.2.2.2.1,.vec (.nam 7) i1 r.2.2.2.2.1]),(i1,.vec i1 (.nam 7) r.2.2.2.2.2)]
def mI(r:PR bz):RL EE.T:=lX (dW 100000 200001) (rF 100000 200001) r
def Ja:Lvs:=⟨[],[],[],[],false,[(100000,(none,[]))],[100000,200001],[],[]⟩
def HZ:List ResultVar:=[.tmp 2]
def DX(N:RecC):Gam EE:=⟨[],EQT,[⟨34,eo N⟩],[]⟩
theorem Em(N:RecC)(hN:hY N):GOk Try.prog TT EE (DX N):=GOk.consx (ga N hN) (GOk.nil dx)
def Gm(c:Code):List It2:=[.c c]
def Ea(y0_0:List UInt8)(y0_1:Int)(y0_2:Int)(y0_3:Nat)(y1:List Vstep):TS EE.T:=⟨5,[(0,.a (.box 100000 0))],[(100000,.cs [.d .str y0_0,.d (.int .i64) y0_1,.d (.int .i64) y0_2,.vec (.nam 7) 200001 y0_3]),(200001,.vec 200001 (.nam 7) y1)],[]⟩
abbrev I0(N:RecC)(r:PR bz)(k:List It2)(s:TS EE.T):Prop:=fX (Y:=TT) EE (DX N) Ja HZ (fun u=>u=mI r) k s
def Cm(x:PR bz):Tree (Lf EE.T × Option (PR bz)):=.leaf (.done (mI x),some x)
theorem F7{N:RecC}{r:PR bz}(y0_0:List UInt8)(y0_1:Int)(y0_2:Int)(y0_3:Nat)(y1:List Vstep)(h:dB N y0_0 y0_1 y0_2 y0_3 y1=some r):I0 N r (Gm (ai 0 Try.f53)) (Ea y0_0 y0_1 y0_2 y0_3 y1):=
 aT (m:=4000) (t:=
 .bnd (dP N y0_0 y0_1 y0_2 y0_3 y1) fun z1=>
 .sm z1 (fun z2=>
  Cm (.ok (z2.1,z2.2.1,z2.2.2.1,z2.2.2.2.1,z2.2.2.2.2.1,z2.2.2.2.2.2))) (fun vz1=>
  Cm (.pan vz1))) (by kernel_rfl) (by kernel_rfl) h (fun _=>⟨fun _=>be (enc:=mI) rfl,fun _=>be (enc:=mI) rfl⟩)
def Cp(y0_0:List UInt8)(y0_1:Int)(y0_2:Int)(y0_3:Nat)(y1:List Vstep):List (TV EE.T):=[.a (.box 100000 0)]
def xC(y0_0:List UInt8)(y0_1:Int)(y0_2:Int)(y0_3:Nat)(y1:List Vstep):List (Nat × TB EE.T):=[(100000,.cs [.d .str y0_0,.d (.int .i64) y0_1,.d (.int .i64) y0_2,.vec (.nam 7) 200001 y0_3]),(200001,.vec 200001 (.nam 7) y1)]
theorem j5{N:RecC}(hN:hY N)(y0_0:List UInt8)(y0_1:Int)(y0_2:Int)(y0_3:Nat)(y1:List Vstep){r:PR bz}(h:dB N y0_0 y0_1 y0_2 y0_3 y1=some r)(ρ:Rn)(hi:Inj ρ (xC y0_0 y0_1 y0_2 y0_3 y1)):aR Try.prog 53 ((Cp y0_0 y0_1 y0_2 y0_3 y1).map (TV.to EE.toEnc ρ)) (hTo EE.toEnc ρ (xC y0_0 y0_1 y0_2 y0_3 y1)) (df EE ρ fun u=>u=mI r):=
 fg (ai 0 Try.f53) 5 mixed (Em N hN) Try.func53 (by kernel_rfl) rfl rfl rfl rfl (F7 y0_0 y0_1 y0_2 y0_3 y1 h) ρ hi
def gA(N:RecC)(us:List (TV EE.T))(hs:List (Nat × TB EE.T)):XR EE.T:=
 gdX (fJ us 1) <|
 bnX (aB us 0) fun i0=>
 bnX (bC hs i0) fun l0=>
 gdX (fJ l0 4) <|
 bnX (cD .str l0 0) fun y0_0=>
 bnX (cD (.int .i64) l0 1) fun y0_1=>
 bnX (cD (.int .i64) l0 2) fun y0_2=>
 bnX (cVi (.nam 7) l0 3) fun i1=>
 bnX (cVn (.nam 7) l0 3) fun y0_3=>
 bnX (bV (.nam 7) hs i1) fun y1=>
 gdX (b9 hs [i0,i1]) <|
 gdX (hU [i0,i1]) <|
 .mv (dB N y0_0 y0_1 y0_2 y0_3 y1) [i0,i1] (mvL [i0,i1] [100000,200001]) 0 (dW i0 i1) (rF i0 i1)
theorem jN(N:RecC)(hN:hY N):XOk Try.prog EE 53 (gA N):=fun us hs=>
 ba fun h1=>aC fun i0 h2=>aC fun l0 h3=>ba fun h4=>aC fun y0_0 h5=>aC fun y0_1 h6=>aC fun y0_2 h7=>aC fun i1 h8=>aC fun y0_3 h9=>aC fun y1 h10=>ba fun h11=>ba fun h12=>fun p hz ρ hi=>fW (ex:=[]) (ks:=[100000,200001]) (us':=Cp y0_0 y0_1 y0_2 y0_3 y1) (h0:=xC y0_0 y0_1 y0_2 y0_3 y1) (ρ':=mR ρ [i0,i1]) (uc:=dW 100000 200001) (u:=dW i0 i1) (hc:=rF 100000 200001) (h:=rF i0 i1) hi h11 (by kernel_rfl) ⟨iR h2 (by kernel_rfl),cq h1⟩ ⟨(by kernel_rfl),kV h3 ⟨dt h5,dt h6,dt h7,io h8 h9 (by kernel_rfl),cq h4⟩,(by kernel_rfl),jf h10 (by kernel_rfl),trivial⟩ ⟨.inr rfl,.inl rfl,trivial⟩ h12 (fun hj=>j5 hN y0_0 y0_1 y0_2 y0_3 y1 hz _ hj) (fun z=>⟨by kernel_rfl,by kernel_rfl,by kernel_rfl,by kernel_rfl⟩)
def dV(i0:Nat)(i1:Nat)(r:aG):TV EE.T:=.a (.d .bool r.1)
def rM(i0:Nat)(i1:Nat)(r:aG):List (Nat × TB EE.T):=[(i0,.cs [.d .str r.2.1,.d (.int .i64) r.2.2.1,.d (.int .i64) r.2.2.2.1,.vec (.nam 7) i1 r.2.2.2.2.1]),(i1,.vec i1 (.nam 7) r.2.2.2.2.2)]
def fj(r:PR aG):RL EE.T:=lX (dV 100000 200001) (rM 100000 200001) r
def H4:Lvs:=⟨[(6,⟨[(0,false),(3,false),(4,false),(5,false),(6,false)],[],[(100000,(none,[])),(200001,(none,[]))],[]⟩),(9,⟨[(0,false),(4,false),(6,false),(7,false)],[],[(100000,(none,[])),(200001,(none,[]))],[]⟩),(12,⟨[(0,false),(4,false),(7,false)],[],[(100000,(none,[])),(200001,(none,[]))],[]⟩)],[(3,⟨[(0,false),(3,false),(4,false)],[],[(100000,(none,[])),(200001,(none,[]))],[]⟩)],[12],[],false,[(100000,(none,[]))],[100000,200001],[],[]⟩
def IT:List ResultVar:=[.tmp 2]
def F9(N:RecC):Gam EE:=⟨[],EQT,[⟨51,fh N.n⟩,⟨50,ef N.n⟩,⟨53,gA N⟩,⟨49,gV N⟩,⟨52,eZ N.n⟩,⟨36,dv N.n⟩],[]⟩
theorem Fr(N:RecC)(hN:hY N):GOk Try.prog TT EE (F9 N):=GOk.consx (f8 N.n) (GOk.consx (eI N.n) (GOk.consx (jN N hN) (GOk.consx (jZ N hN) (GOk.consx (gc N.n) (GOk.consx (dK N.n) (GOk.nil dx))))))
def vO(c:Code):List It2:=atR 12 c
def vX(x4:Bool)(x7:Int)(b100000_0:List UInt8)(b100000_1:Int)(b100000_2:Int)(b100000_3_n:Nat)(b200001:List Vstep):TS EE.T:=⟨70,[(0,.a (.box 100000 0)),(4,.a (.d .bool x4)),(7,.a (.d (.int .i64) x7))],[(100000,.cs [.d .str b100000_0,.d (.int .i64) b100000_1,.d (.int .i64) b100000_2,.vec (.nam 7) 200001 b100000_3_n]),(200001,.vec 200001 (.nam 7) b200001)],[]⟩
def sD(c:Code):List It2:=atL 3 c
def tl(x3:Int)(x4:Bool)(b100000_0:List UInt8)(b100000_1:Int)(b100000_2:Int)(b100000_3_n:Nat)(b200001:List Vstep):TS EE.T:=⟨70,[(0,.a (.box 100000 0)),(3,.a (.d (.int .i64) x3)),(4,.a (.d .bool x4))],[(100000,.cs [.d .str b100000_0,.d (.int .i64) b100000_1,.d (.int .i64) b100000_2,.vec (.nam 7) 200001 b100000_3_n]),(200001,.vec 200001 (.nam 7) b200001)],[]⟩
def Fy(c:Code):List It2:=[.c c]
def Hy(y0_0:List UInt8)(y0_1:Int)(y0_2:Int)(y0_3:Nat)(y1:List Vstep):TS EE.T:=⟨70,[(0,.a (.box 100000 0))],[(100000,.cs [.d .str y0_0,.d (.int .i64) y0_1,.d (.int .i64) y0_2,.vec (.nam 7) 200001 y0_3]),(200001,.vec 200001 (.nam 7) y1)],[]⟩
def vC(c:Code)(f:Bool→Int→(List UInt8)→Int→Int→Nat→(List Vstep)→Option (PR aG))(x4:Bool)(x7:Int)(b100000_0:List UInt8)(b100000_1:Int)(b100000_2:Int)(b100000_3_n:Nat)(b200001:List Vstep):Tree (Lf EE.T × Option (PR aG)):=.leaf (.go (vO c) (vX x4 x7 b100000_0 b100000_1 b100000_2 b100000_3_n b200001),f x4 x7 b100000_0 b100000_1 b100000_2 b100000_3_n b200001)
def DV(c:Code)(f:Int→Bool→(List UInt8)→Int→Int→Nat→(List Vstep)→Option (PR aG))(x3:Int)(x4:Bool)(b100000_0:List UInt8)(b100000_1:Int)(b100000_2:Int)(b100000_3_n:Nat)(b200001:List Vstep):Tree (Lf EE.T × Option (PR aG)):=.leaf (.go (sD c) (tl x3 x4 b100000_0 b100000_1 b100000_2 b100000_3_n b200001),f x3 x4 b100000_0 b100000_1 b100000_2 b100000_3_n b200001)
abbrev sf(N:RecC)(r:PR aG)(k:List It2)(s:TS EE.T):Prop:=fX (Y:=TT) EE (F9 N) H4 IT (fun u=>u=fj r) k s
def iX(x:PR aG):Tree (Lf EE.T × Option (PR aG)):=.leaf (.done (fj x),some x)
theorem vQ{N:RecC}{r:PR aG}{k3:Int→Bool→(List UInt8)→Int→Int→Nat→(List Vstep)→Option (PR aG)}(hk3:∀x3 x4 b100000_0 b100000_1 b100000_2 b100000_3_n b200001,k3 x3 x4 b100000_0 b100000_1 b100000_2 b100000_3_n b200001=some r→sf N r (sD (ai 0 Try.f34)) (tl x3 x4 b100000_0 b100000_1 b100000_2 b100000_3_n b200001))(n:Nat)(x4:Bool)(x7:Int)(b100000_0:List UInt8)(b100000_1:Int)(b100000_2:Int)(b100000_3_n:Nat)(b200001:List Vstep)(h:cO N k3 n x4 x7 b100000_0 b100000_1 b100000_2 b100000_3_n b200001=some r):sf N r (vO (ai 0 Try.f34)) (vX x4 x7 b100000_0 b100000_1 b100000_2 b100000_3_n b200001):=
 aT (m:=4000) (t:=
 .bnd (eR b100000_3_n x7) fun z19=>
 .bnd (b200001[z19]?) fun z20=>
 iX (.ok (x4,b100000_0,b100000_1,b100000_2,b100000_3_n,List.set b200001 z19 ({ kind:=z20.kind,a:=(b100000_3_n:Int),b:=z20.b,set_:=z20.set_ }:Vstep)))) (by kernel_rfl) (by kernel_rfl) h (fun _=>fun _=>be (enc:=fj) rfl)
theorem um{N:RecC}{r:PR aG}:∀ (n:Nat) (x3:Int) (x4:Bool) (b100000_0:List UInt8) (b100000_1:Int) (b100000_2:Int) (b100000_3_n:Nat) (b200001:List Vstep),bi N n x3 x4 b100000_0 b100000_1 b100000_2 b100000_3_n b200001=some r→sf N r (sD (ai 0 Try.f34)) (tl x3 x4 b100000_0 b100000_1 b100000_2 b100000_3_n b200001)
 |0,_,_,_,_,_,_,_,h=>by cases h
 |n+1,x3,x4,b100000_0,b100000_1,b100000_2,b100000_3_n,b200001,h=>aT (m:=4000) (t:=
  .bnd (aO N.n 124 b100000_0 b100000_1 b100000_2 b100000_3_n b200001) fun z3=>
  .sm z3 (fun z4=>
   .cond (z4.1)
   (
    .bnd (cE N.n x3 z4.2.1 z4.2.2.1 z4.2.2.2.1 z4.2.2.2.2.1 z4.2.2.2.2.2) fun z5=>
    .sm z5 (fun z6=>
     .bnd (az N.n ({ kind:=1,a:=0,b:=0,set_:=(none:Option (List Bool)) }:Vstep) z6.2.1 z6.2.2.1 z6.2.2.2.1 z6.2.2.2.2.1 z6.2.2.2.2.2) fun z7=>
     .sm z7 (fun z8=>
      .bnd (eR z8.2.2.2.2.1 z8.1) fun z9=>
      .bnd (z8.2.2.2.2.2[z9]?) fun z10=>
      .bnd (bu N.n z6.1 x3 z8.2.1 z8.2.2.1 z8.2.2.2.1 z8.2.2.2.2.1 (List.set z8.2.2.2.2.2 z9 ({ kind:=z10.kind,a:=(z8.2.2.2.2.1:Int),b:=z10.b,set_:=z10.set_ }:Vstep))) fun z11=>
      .sm z11 (fun z12=>
       .bnd (az N.n ({ kind:=2,a:=0,b:=0,set_:=(none:Option (List Bool)) }:Vstep) z12.1 z12.2.1 z12.2.2.1 z12.2.2.2.1 z12.2.2.2.2) fun z13=>
       .sm z13 (fun z14=>
        .bnd (eR z14.2.2.2.2.1 z8.1) fun z15=>
        .bnd (z14.2.2.2.2.2[z15]?) fun z16=>
        .bnd (dB N z14.2.1 z14.2.2.1 z14.2.2.2.1 z14.2.2.2.2.1 (List.set z14.2.2.2.2.2 z15 ({ kind:=z16.kind,a:=z16.a,b:=(z14.2.2.2.2.1:Int),set_:=z16.set_ }:Vstep))) fun z17=>
        .sm z17 (fun z18=>
         .cond (z18.1)
         (
          vC (ai 0 Try.f34) (cO N (bi N n) n) true z14.1 z18.2.1 z18.2.2.1 z18.2.2.2.1 z18.2.2.2.2.1 z18.2.2.2.2.2)
         (
          vC (ai 0 Try.f34) (cO N (bi N n) n) x4 z14.1 z18.2.1 z18.2.2.1 z18.2.2.2.1 z18.2.2.2.2.1 z18.2.2.2.2.2)) (fun vz17=>
         iX (.pan vz17))) (fun vz13=>
        iX (.pan vz13))) (fun vz11=>
       iX (.pan vz11))) (fun vz7=>
      iX (.pan vz7))) (fun vz5=>
     iX (.pan vz5)))
   (
    iX (.ok (x4,z4.2.1,z4.2.2.1,z4.2.2.2.1,z4.2.2.2.2.1,z4.2.2.2.2.2)))) (fun vz3=>
   iX (.pan vz3))) (by kernel_rfl) (by kernel_rfl) h (fun _=>⟨fun _=>⟨fun _=>⟨fun _=>fun _=>⟨fun _=>fun _=>fun _=>fun _=>⟨fun _=>fun _=>⟨fun _=>fun _=>fun _=>fun _=>⟨fun _=>⟨fun h=>vQ (um n) n _ _ _ _ _ _ _ h,fun h=>vQ (um n) n _ _ _ _ _ _ _ h⟩,fun _=>be (enc:=fj) rfl⟩,fun _=>be (enc:=fj) rfl⟩,fun _=>be (enc:=fj) rfl⟩,fun _=>be (enc:=fj) rfl⟩,fun _=>be (enc:=fj) rfl⟩,be (enc:=fj) rfl⟩,fun _=>be (enc:=fj) rfl⟩)
theorem GQ{N:RecC}{r:PR aG}(y0_0:List UInt8)(y0_1:Int)(y0_2:Int)(y0_3:Nat)(y1:List Vstep)(h:bL N y0_0 y0_1 y0_2 y0_3 y1=some r):sf N r (Fy (ai 0 Try.f34)) (Hy y0_0 y0_1 y0_2 y0_3 y1):=
 aT (m:=4000) (t:=
 .bnd (bW N y0_0 y0_1 y0_2 y0_3 y1) fun z1=>
 .sm z1 (fun z2=>
  DV (ai 0 Try.f34) (bi N N.n) (y0_3:Int) z2.1 z2.2.1 z2.2.2.1 z2.2.2.2.1 z2.2.2.2.2.1 z2.2.2.2.2.2) (fun vz1=>
  iX (.pan vz1))) (by kernel_rfl) (by kernel_rfl) h (fun _=>⟨fun _=>fun h=>um N.n _ _ _ _ _ _ _ h,fun _=>be (enc:=fj) rfl⟩)
def Cs(y0_0:List UInt8)(y0_1:Int)(y0_2:Int)(y0_3:Nat)(y1:List Vstep):List (TV EE.T):=[.a (.box 100000 0)]
def xb(y0_0:List UInt8)(y0_1:Int)(y0_2:Int)(y0_3:Nat)(y1:List Vstep):List (Nat × TB EE.T):=[(100000,.cs [.d .str y0_0,.d (.int .i64) y0_1,.d (.int .i64) y0_2,.vec (.nam 7) 200001 y0_3]),(200001,.vec 200001 (.nam 7) y1)]
theorem f9{N:RecC}(hN:hY N)(y0_0:List UInt8)(y0_1:Int)(y0_2:Int)(y0_3:Nat)(y1:List Vstep){r:PR aG}(h:bL N y0_0 y0_1 y0_2 y0_3 y1=some r)(ρ:Rn)(hi:Inj ρ (xb y0_0 y0_1 y0_2 y0_3 y1)):aR Try.prog 34 ((Cs y0_0 y0_1 y0_2 y0_3 y1).map (TV.to EE.toEnc ρ)) (hTo EE.toEnc ρ (xb y0_0 y0_1 y0_2 y0_3 y1)) (df EE ρ fun u=>u=fj r):=
 fg (ai 0 Try.f34) 70 mixed (Fr N hN) Try.func34 (by kernel_rfl) rfl rfl rfl rfl (GQ y0_0 y0_1 y0_2 y0_3 y1 h) ρ hi
def la(N:RecC)(us:List (TV EE.T))(hs:List (Nat × TB EE.T)):XR EE.T:=
 gdX (fJ us 1) <|
 bnX (aB us 0) fun i0=>
 bnX (bC hs i0) fun l0=>
 gdX (fJ l0 4) <|
 bnX (cD .str l0 0) fun y0_0=>
 bnX (cD (.int .i64) l0 1) fun y0_1=>
 bnX (cD (.int .i64) l0 2) fun y0_2=>
 bnX (cVi (.nam 7) l0 3) fun i1=>
 bnX (cVn (.nam 7) l0 3) fun y0_3=>
 bnX (bV (.nam 7) hs i1) fun y1=>
 gdX (b9 hs [i0,i1]) <|
 gdX (hU [i0,i1]) <|
 .mv (bL N y0_0 y0_1 y0_2 y0_3 y1) [i0,i1] (mvL [i0,i1] [100000,200001]) 0 (dV i0 i1) (rM i0 i1)
theorem jO(N:RecC)(hN:hY N):XOk Try.prog EE 34 (la N):=fun us hs=>
 ba fun h1=>aC fun i0 h2=>aC fun l0 h3=>ba fun h4=>aC fun y0_0 h5=>aC fun y0_1 h6=>aC fun y0_2 h7=>aC fun i1 h8=>aC fun y0_3 h9=>aC fun y1 h10=>ba fun h11=>ba fun h12=>fun p hz ρ hi=>fW (ex:=[]) (ks:=[100000,200001]) (us':=Cs y0_0 y0_1 y0_2 y0_3 y1) (h0:=xb y0_0 y0_1 y0_2 y0_3 y1) (ρ':=mR ρ [i0,i1]) (uc:=dV 100000 200001) (u:=dV i0 i1) (hc:=rM 100000 200001) (h:=rM i0 i1) hi h11 (by kernel_rfl) ⟨iR h2 (by kernel_rfl),cq h1⟩ ⟨(by kernel_rfl),kV h3 ⟨dt h5,dt h6,dt h7,io h8 h9 (by kernel_rfl),cq h4⟩,(by kernel_rfl),jf h10 (by kernel_rfl),trivial⟩ ⟨.inr rfl,.inl rfl,trivial⟩ h12 (fun hj=>f9 hN y0_0 y0_1 y0_2 y0_3 y1 hz _ hj) (fun z=>⟨by kernel_rfl,by kernel_rfl,by kernel_rfl,by kernel_rfl⟩)
theorem gJ(n0:Nat):∀m,hY ⟨n0,bt n0 m⟩
 |0=>Ei n0
 |m+1=>jO ⟨n0,bt n0 m⟩ (gJ n0 m)
def fy(r:aK):TV EE.T:=.a (.d (.sl .str) r.1)
def w5(i0:Nat)(r:aK):List (Nat × TB EE.T):=[(i0,.cs (eE EE (.nam 8) r.2))]
def ui(r:aK):RL EE.T:=.ret (fy r) (w5 100000 r)
def Jn:Lvs:=⟨[(6,⟨[(0,false),(1,false),(2,false),(7,false),(8,false),(9,false)],[],[(100000,(some 8,[]))],[]⟩),(7,⟨[(0,false),(1,false),(2,false),(7,false),(8,false)],[],[(100000,(some 8,[]))],[]⟩),(8,⟨[(0,false),(1,false),(2,false),(7,false),(8,false),(9,false)],[],[(100000,(some 8,[]))],[]⟩)],[(3,⟨[(0,false),(1,false),(2,false),(7,false),(8,false)],[],[(100000,(some 8,[]))],[]⟩)],[8],[],false,[(100000,(some 8,[]))],[100000],[],[]⟩
def JG:List ResultVar:=[.tmp 6]
def Gs(N:Nat):Gam EE:=⟨[],EQT,[],[]⟩
theorem Hj(N:Nat):GOk Try.prog TT EE (Gs N):=GOk.nil dx
def Ad(c:Code):List It2:=atR 8 c
def zZ(x1:List UInt8)(x2:List Int)(x7:List (List UInt8))(x8:Int)(x9:List UInt8)(b100000:VMask):TS EE.T:=⟨56,[(0,.a (.box 100000 0)),(1,.a (.d .str x1)),(2,.a (.d (.sl (.int .i64)) x2)),(7,.a (.own .str x7)),(8,.a (.d (.int .i64) x8)),(9,.a (.d .str x9))],[(100000,.cs (eE EE (.nam 8) b100000))],[]⟩
def tq(c:Code):List It2:=atL 3 c
def tC(x1:List UInt8)(x2:List Int)(x7:List (List UInt8))(x8:Int)(b100000:VMask):TS EE.T:=⟨56,[(0,.a (.box 100000 0)),(1,.a (.d .str x1)),(2,.a (.d (.sl (.int .i64)) x2)),(7,.a (.own .str x7)),(8,.a (.d (.int .i64) x8))],[(100000,.cs (eE EE (.nam 8) b100000))],[]⟩
def Fh(c:Code):List It2:=[.c c]
def G3(x1:List UInt8)(x2:List Int)(y0:VMask):TS EE.T:=⟨56,[(0,.a (.box 100000 0)),(1,.a (.d .str x1)),(2,.a (.d (.sl (.int .i64)) x2))],[(100000,.cs (eE EE (.nam 8) y0))],[]⟩
def ss(c:Code)(f:(List UInt8)→(List Int)→(List (List UInt8))→Int→(List UInt8)→VMask→Option aK)(x1:List UInt8)(x2:List Int)(x7:List (List UInt8))(x8:Int)(x9:List UInt8)(b100000:VMask):Tree (Lf EE.T × Option aK):=.leaf (.go (Ad c) (zZ x1 x2 x7 x8 x9 b100000),f x1 x2 x7 x8 x9 b100000)
def yi(c:Code)(f:(List UInt8)→(List Int)→(List (List UInt8))→Int→VMask→Option aK)(x1:List UInt8)(x2:List Int)(x7:List (List UInt8))(x8:Int)(b100000:VMask):Tree (Lf EE.T × Option aK):=.leaf (.go (tq c) (tC x1 x2 x7 x8 b100000),f x1 x2 x7 x8 b100000)
abbrev rR(N:Nat)(r:aK)(k:List It2)(s:TS EE.T):Prop:=fX (Y:=TT) EE (Gs N) Jn JG (fun u=>u=ui r) k s
def IC(x:aK):Tree (Lf EE.T × Option aK):=.leaf (.done (ui x),some x)
theorem ta{N:Nat}{r:aK}{k3:(List UInt8)→(List Int)→(List (List UInt8))→Int→VMask→Option aK}(hk3:∀x1 x2 x7 x8 b100000,k3 x1 x2 x7 x8 b100000=some r→rR N r (tq (ai 0 Try.f39)) (tC x1 x2 x7 x8 b100000))(n:Nat)(x1:List UInt8)(x2:List Int)(x7:List (List UInt8))(x8:Int)(x9:List UInt8)(b100000:VMask)(h:br N k3 n x1 x2 x7 x8 x9 b100000=some r):rR N r (Ad (ai 0 Try.f39)) (zZ x1 x2 x7 x8 x9 b100000):=
 aT (m:=4000) (t:=
 .bnd (jP 16 x7 ([x9] :List (List UInt8))) fun z7=>
 yi (ai 0 Try.f39) k3 x1 x2 z7 (w64 (x8+1)) b100000) (by kernel_rfl) (by kernel_rfl) h (fun _=>fun h=>hk3 _ _ _ _ _ h)
theorem pE{N:Nat}{r:aK}:∀ (n:Nat) (x1:List UInt8) (x2:List Int) (x7:List (List UInt8)) (x8:Int) (b100000:VMask),bg N n x1 x2 x7 x8 b100000=some r→rR N r (tq (ai 0 Try.f39)) (tC x1 x2 x7 x8 b100000)
 |0,_,_,_,_,_,h=>by cases h
 |n+1,x1,x2,x7,x8,b100000,h=>aT (m:=4000) (t:=
  .cond (decide (x8≤b100000.Groups))
  (
   .bnd (ap x2 (w64 (2 * x8))) fun z1=>
   .cond (decide (z1≥0))
   (
    .bnd (ap x2 (w64 ((w64 (2 * x8))+1))) fun z2=>
    .bnd (ap x2 (w64 (2 * x8))) fun z3=>
    .cond (decide (z2≥z3))
    (
     .bnd (ap x2 (w64 (2 * x8))) fun z4=>
     .bnd (ap x2 (w64 ((w64 (2 * x8))+1))) fun z5=>
     .bnd (kn x1 z4 z5) fun z6=>
     ss (ai 0 Try.f39) (br N (bg N n) n) x1 x2 x7 x8 z6 b100000)
    (
     ss (ai 0 Try.f39) (br N (bg N n) n) x1 x2 x7 x8 ([] :List UInt8) b100000))
   (
    ss (ai 0 Try.f39) (br N (bg N n) n) x1 x2 x7 x8 ([] :List UInt8) b100000))
  (
   IC (x7,b100000))) (by kernel_rfl) (by kernel_rfl) h (⟨fun _=>⟨fun _=>fun _=>⟨fun _=>fun _=>fun _=>fun h=>ta (pE n) n _ _ _ _ _ _ h,fun h=>ta (pE n) n _ _ _ _ _ _ h⟩,fun h=>ta (pE n) n _ _ _ _ _ _ h⟩,be (enc:=ui) rfl⟩)
theorem GT{N:Nat}{r:aK}(x1:List UInt8)(x2:List Int)(y0:VMask)(h:bD N x1 x2 y0=some r):rR N r (Fh (ai 0 Try.f39)) (G3 x1 x2 y0):=
 aT (m:=4000) (t:=
 yi (ai 0 Try.f39) (bg N N) x1 x2 ([] :List (List UInt8)) 1 y0) (by kernel_rfl) (by kernel_rfl) h (fun h=>pE N _ _ _ _ _ h)
def CB(x1:List UInt8)(x2:List Int)(y0:VMask):List (TV EE.T):=[.a (.box 100000 0),.a (.d .str x1),.a (.d (.sl (.int .i64)) x2)]
def xk(x1:List UInt8)(x2:List Int)(y0:VMask):List (Nat × TB EE.T):=[(100000,.cs (eE EE (.nam 8) y0))]
theorem lE{N:Nat}(x1:List UInt8)(x2:List Int)(y0:VMask){r:aK}(h:bD N x1 x2 y0=some r)(ρ:Rn)(hi:Inj ρ (xk x1 x2 y0)):aR Try.prog 39 ((CB x1 x2 y0).map (TV.to EE.toEnc ρ)) (hTo EE.toEnc ρ (xk x1 x2 y0)) (fun out H=>out=.ret ((fy r).to EE.toEnc ρ)∧H=hTo EE.toEnc ρ (w5 100000 r)):=
 (fg (ai 0 Try.f39) 56 mixed (Hj N) Try.func39 (by kernel_rfl) rfl rfl rfl rfl (GT x1 x2 y0 h) ρ hi).mono fun out H h=>df.retH rfl rfl h
def hZ(N:Nat)(us:List (TV EE.T))(hs:List (Nat × TB EE.T)):XR EE.T:=
 gdX (fJ us 3) <|
 bnX (aB us 0) fun i0=>
 bnX (aD .str us 1) fun x1=>
 bnX (aD (.sl (.int .i64)) us 2) fun x2=>
 bnX (bS EE 8 hs i0) fun y0=>
 gdX (b9 hs [i0]) <|
 .ret (bD N x1 x2 y0) [i0] fy (w5 i0)
theorem kR(N:Nat):XOk Try.prog EE 39 (hZ N):=fun us hs=>
 ba fun h1=>aC fun i0 h2=>aC fun x1 h3=>aC fun x2 h4=>aC fun y0 h5=>ba fun h6=>fun z hz=>⟨rfl,fun ρ hi=>KC (us':=CB x1 x2 y0) (h0:=xk x1 x2 y0) (ρ':=mR ρ [i0]) hi h6 (by kernel_rfl) ⟨iR h2 (by kernel_rfl),mQ h3,mQ h4,cq h1⟩ ⟨(by kernel_rfl),E4 h5,trivial⟩ (fun hj=>lE x1 x2 y0 hz _ hj) (fun out H h=>⟨h.1.trans (by kernel_rfl),h.2.trans (by kernel_rfl)⟩)⟩
def jp(r:Bool):TV EE.T:=.a (.d .bool r)
def wA(r:Bool):RL EE.T:=.ret (jp r) []
def L5:Lvs:=⟨[],[],[],[],false,[],[],[],[]⟩
def MI:List ResultVar:=[.tmp 2]
def Mh(N:Nat):Gam EE:=⟨[],EQT,[],[]⟩
theorem KP(N:Nat):GOk Try.prog TT EE (Mh N):=GOk.nil dx
def Ky(c:Code):List It2:=[.c c]
def K1(x0:UInt8):TS EE.T:=⟨9,[(0,.a (.d .byte x0))],[],[]⟩
abbrev Ms(N:Nat)(r:Bool)(k:List It2)(s:TS EE.T):Prop:=fX (Y:=TT) EE (Mh N) L5 MI (fun u=>u=wA r) k s
def JX(x:Bool):Tree (Lf EE.T × Option Bool):=.leaf (.done (wA x),some x)
theorem Kh{N:Nat}{r:Bool}(x0:UInt8)(h:e9 N x0=some r):Ms N r (Ky (ai 0 Try.f47)) (K1 x0):=
 aT (m:=4000) (t:=
 .cond (decide ((b2i x0)≥(b2i 48)))
 (
  JX (decide ((b2i x0)≤(b2i 57))))
 (
  JX false)) (by kernel_rfl) (by kernel_rfl) h (⟨be (enc:=wA) rfl,be (enc:=wA) rfl⟩)
theorem ry{N:Nat}(x0:UInt8){r:Bool}(h:e9 N x0=some r)(ρ:Rn):aR Try.prog 47 (([.a (.d .byte x0)] :List (TV EE.T)).map (TV.to EE.toEnc ρ)) [] (fun out H=>out=.ret ((jp r).to EE.toEnc ρ)∧H=[]):=
 (o9 (ai 0 Try.f47) 9 mixed (KP N) Try.func47 (by kernel_rfl) rfl rfl rfl rfl (Kh x0 h) ρ).mono fun out H h=>df.ret rfl h
def jn(N:Nat):List (TV EE.T)→PV EE.T
 | [u0] =>match j9 .byte u0 with
   |some x0=>.opt (e9 N x0) jp
   |_=>.bad
 |_=>.bad
theorem qp(N:Nat)(us:List (TV EE.T)):(jn N us).ok fun u=>∀ρ,aR Try.prog 47 (us.map (TV.to EE.toEnc ρ)) [] (fun out H=>out=.ret (u.to EE.toEnc ρ)∧H=[]):=by
 unfold jn
 split
 ·split
  ·rename_i h0
   intro z hz ρ;refine fo ?_ (ry _ hz ρ);exact⟨em h0 ρ,trivial⟩
  ·trivial
 ·trivial
def n8(r:cI):TV EE.T:=.tu [.a (.d (.sl (.nam 6)) r.1),.a (.d .bool r.2)]
def ma(r:cI):RL EE.T:=.ret (n8 r) []
def Mw:Lvs:=⟨[],[(2,⟨[(0,false),(4,false)],[],[],[]⟩)],[],[],false,[],[],[],[]⟩
def L2:List ResultVar:=[.tmp 2,.tmp 3]
def MJ(N:Nat):Gam EE:=⟨[⟨47,jn N⟩,⟨46,ea N⟩],EQT,[],[]⟩
theorem K0(N:Nat):GOk Try.prog TT EE (MJ N):=GOk.cons (qp N) (GOk.cons (fx N) (GOk.nil dx))
def Gp(c:Code):List It2:=atL 2 c
def E0(x0:List UInt8)(x4:List Vpiece):TS EE.T:=⟨83,[(0,.a (.d .str x0)),(4,.a (.own (.nam 6) x4))],[],[]⟩
def KT(c:Code):List It2:=[.c c]
def Kd(x0:List UInt8):TS EE.T:=⟨83,[(0,.a (.d .str x0))],[],[]⟩
def ub(c:Code)(f:(List UInt8)→(List Vpiece)→Option cI)(x0:List UInt8)(x4:List Vpiece):Tree (Lf EE.T × Option cI):=.leaf (.go (Gp c) (E0 x0 x4),f x0 x4)
abbrev J1(N:Nat)(r:cI)(k:List It2)(s:TS EE.T):Prop:=fX (Y:=TT) EE (MJ N) Mw L2 (fun u=>u=ma r) k s
def wo(x:cI):Tree (Lf EE.T × Option cI):=.leaf (.done (ma x),some x)
theorem tp{N:Nat}{r:cI}:∀ (n:Nat) (x0:List UInt8) (x4:List Vpiece),cF N n x0 x4=some r→J1 N r (Gp (ai 0 Try.f28)) (E0 x0 x4)
 |0,_,_,h=>by cases h
 |n+1,x0,x4,h=>aT (m:=4000) (t:=
  .cond (!decide (x0=([] :List UInt8)))
  (
   .bnd (ap x0 0) fun z1=>
   .cond ((b2i z1) != (b2i 36))
   (
    .bnd (nW x0 ([36] :List UInt8)) fun z2=>
    .bnd (bX N z2 36) fun z3=>
    .bnd (kn x0 0 z3) fun z4=>
    .bnd (jP 24 x4 ([({ text:=z4,group:=(-1) }:Vpiece)] :List Vpiece)) fun z5=>
    .bnd (kn x0 z3 (x0.length:Int)) fun z6=>
    ub (ai 0 Try.f28) (cF N n) z6 z5)
   (
    .bnd (kn x0 1 (x0.length:Int)) fun z7=>
    .cond (decide (z7=([] :List UInt8)))
    (
     wo (([] :List Vpiece),false))
    (
     .bnd (ap z7 0) fun z8=>
     .cond ((b2i z8)==(b2i 36))
     (
      .bnd (jP 24 x4 ([({ text:=([36] :List UInt8),group:=(-1) }:Vpiece)] :List Vpiece)) fun z9=>
      .bnd (kn z7 1 (z7.length:Int)) fun z10=>
      ub (ai 0 Try.f28) (cF N n) z10 z9)
     (
      .bnd (ap z7 0) fun z11=>
      .bnd (e9 N z11) fun z12=>
      .cond (z12)
      (
       .bnd (ap z7 0) fun z13=>
       .bnd (jP 24 x4 ([({ text:=([] :List UInt8),group:=w64 (b2i (toB (IntKind.wrap .u8 ((b2i z13) - (b2i 48))))) }:Vpiece)] :List Vpiece)) fun z14=>
       .bnd (kn z7 1 (z7.length:Int)) fun z15=>
       ub (ai 0 Try.f28) (cF N n) z15 z14)
      (
       .cond (decide ((z7.length:Int) > 2))
       (
        .bnd (ap z7 0) fun z16=>
        .cond ((b2i z16)==(b2i 123))
        (
         .bnd (ap z7 1) fun z17=>
         .bnd (e9 N z17) fun z18=>
         .cond (z18)
         (
          .bnd (ap z7 2) fun z19=>
          .cond ((b2i z19)==(b2i 125))
          (
           .bnd (ap z7 1) fun z20=>
           .bnd (jP 24 x4 ([({ text:=([] :List UInt8),group:=w64 (b2i (toB (IntKind.wrap .u8 ((b2i z20) - (b2i 48))))) }:Vpiece)] :List Vpiece)) fun z21=>
           .bnd (kn z7 3 (z7.length:Int)) fun z22=>
           ub (ai 0 Try.f28) (cF N n) z22 z21)
          (
           wo (([] :List Vpiece),false)))
         (
          wo (([] :List Vpiece),false)))
        (
         wo (([] :List Vpiece),false)))
       (
        wo (([] :List Vpiece),false)))))))
  (
   wo (x4,true))) (by kernel_rfl) (by kernel_rfl) h (⟨fun _=>⟨fun _=>fun _=>fun _=>fun _=>fun _=>fun h=>(tp n) _ _ h,fun _=>⟨be (enc:=ma) rfl,fun _=>⟨fun _=>fun _=>fun h=>(tp n) _ _ h,fun _=>fun _=>⟨fun _=>fun _=>fun _=>fun h=>(tp n) _ _ h,⟨fun _=>⟨fun _=>fun _=>⟨fun _=>⟨fun _=>fun _=>fun _=>fun h=>(tp n) _ _ h,be (enc:=ma) rfl⟩,be (enc:=ma) rfl⟩,be (enc:=ma) rfl⟩,be (enc:=ma) rfl⟩⟩⟩⟩⟩,be (enc:=ma) rfl⟩)
theorem Lw{N:Nat}{r:cI}(x0:List UInt8)(h:iB N x0=some r):J1 N r (KT (ai 0 Try.f28)) (Kd x0):=
 aT (m:=4000) (t:=
 ub (ai 0 Try.f28) (cF N N) x0 ([] :List Vpiece)) (by kernel_rfl) (by kernel_rfl) h (fun h=>tp N _ _ h)
theorem mK{N:Nat}(x0:List UInt8){r:cI}(h:iB N x0=some r)(ρ:Rn):aR Try.prog 28 (([.a (.d .str x0)] :List (TV EE.T)).map (TV.to EE.toEnc ρ)) [] (fun out H=>out=.ret ((n8 r).to EE.toEnc ρ)∧H=[]):=
 (o9 (ai 0 Try.f28) 83 mixed (K0 N) Try.func28 (by kernel_rfl) rfl rfl rfl rfl (Lw x0 h) ρ).mono fun out H h=>df.ret rfl h
def pM(i0:Nat)(i1:Nat)(i2:Nat)(r:Nat × VMask × (List Vthread) × (List (Int × Bool))):TV EE.T:=.a (.vec (.nam 10) i1 r.1)
def oD(i0:Nat)(i1:Nat)(i2:Nat)(r:Nat × VMask × (List Vthread) × (List (Int × Bool))):List (Nat × TB EE.T):=[(i0,.cs (eE EE (.nam 8) r.2.1)),(i1,.vec i1 (.nam 10) r.2.2.1),(i2,.imap .bool r.2.2.2)]
def fA(N:RecC2)(us:List (TV EE.T))(hs:List (Nat × TB EE.T)):XR EE.T:=
 gdX (fJ us 5) <|
 bnX (aB us 0) fun i0=>
 bnX (aVi (.nam 10) us 1) fun i1=>
 bnX (aVn (.nam 10) us 1) fun x1_n=>
 bnX (aM us 2) fun i2=>
 bnX (aS EE 10 us 3) fun x3=>
 bnX (aD (.int .i64) us 4) fun x4=>
 bnX (bS EE 8 hs i0) fun y0=>
 bnX (bV (.nam 10) hs i1) fun y1=>
 bnX (bI .bool hs i2) fun y2=>
 gdX (b9 hs [i0,i1,i2]) <|
 gdX (hU [i0,i1,i2]) <|
 .mv (cZ N x1_n x3 x4 y0 y1 y2) [i0,i1,i2] (mvL [i0,i1,i2] [100000,200001,100002]) 0 (pM i0 i1 i2) (oD i0 i1 i2)
def qR(N:RecC2):Prop:=XOk Try.prog EE 38 (fA N)
theorem nY(N:RecC2)(hN:qR N):XOk Try.prog EE 38 (fA N):=hN
theorem Df(n:Nat):qR ⟨n,fun _ _ _ _ _ _=>none⟩:=fun us hs=>
 ba fun h1=>aC fun i0 h2=>aC fun i1 h3=>aC fun x1_n h4=>aC fun i2 h5=>aC fun x3 h6=>aC fun x4 h7=>aC fun y0 h8=>aC fun y1 h9=>aC fun y2 h10=>ba fun h11=>ba fun h12=>fun p hz=>by cases hz
def fe(i0:Nat)(i1:Nat)(i2:Nat)(r:bo):TV EE.T:=.a (.vec (.nam 10) i1 r.1)
def si(i0:Nat)(i1:Nat)(i2:Nat)(r:bo):List (Nat × TB EE.T):=[(i0,.cs (eE EE (.nam 8) r.2.1)),(i1,.vec i1 (.nam 10) r.2.2.1),(i2,.imap .bool r.2.2.2)]
def eM(r:PR bo):RL EE.T:=lX (fe 100000 200001 100002) (si 100000 200001 100002) r
def HY:Lvs:=⟨[(4,⟨[(0,false),(1,false),(2,false),(4,false),(8,false)],[],[(8,(some 10,[])),(100000,(some 8,[])),(100002,(none,[])),(200001,(none,[]))],[]⟩),(5,⟨[(0,false),(1,false),(2,false),(4,false),(8,false),(11,false)],[],[(8,(some 10,[])),(11,(some 7,[])),(100000,(some 8,[])),(100002,(none,[])),(200001,(none,[]))],[]⟩)],[],[5],[],false,[(100000,(some 8,[]))],[100000,200001,100002],[(14,[.cl 401104 (.v (.int .i64)) (.s 12)])],[(88,200001)]⟩
def Ik:List ResultVar:=[.tmp 10]
def DU(N:RecC2):Gam EE:=⟨[],EQT,[⟨38,fA N⟩,⟨55,mh N.n⟩],[]⟩
theorem Es(N:RecC2)(hN:qR N):GOk Try.prog TT EE (DU N):=GOk.consx (nY N hN) (GOk.consx (n6 N.n) (GOk.nil dx))
def zu(c:Code):List It2:=atR 5 c
def yS(x1_n:Nat)(x4:Int)(b8:Vthread)(b11:Vstep)(b100000:VMask)(b100002:List (Int × Bool))(b200001:List Vthread):TS EE.T:=⟨89,[(0,.a (.box 100000 0)),(1,.a (.vec (.nam 10) 200001 x1_n)),(2,.a (.mpr 100002)),(4,.a (.d (.int .i64) x4)),(8,.a (.box 8 0)),(11,.a (.box 11 0))],[(8,.cs (eE EE (.nam 10) b8)),(11,.cs (eE EE (.nam 7) b11)),(100000,.cs (eE EE (.nam 8) b100000)),(100002,.imap .bool b100002),(200001,.vec 200001 (.nam 10) b200001)],[]⟩
def Fp(c:Code):List It2:=[.c c]
def E9(x1_n:Nat)(x3:Vthread)(x4:Int)(y0:VMask)(y1:List Vthread)(y2:List (Int × Bool)):TS EE.T:=⟨89,[(0,.a (.box 100000 0)),(1,.a (.vec (.nam 10) 200001 x1_n)),(2,.a (.mpr 100002)),(3,.ag (eE EE (.nam 10) x3)),(4,.a (.d (.int .i64) x4))],[(100000,.cs (eE EE (.nam 8) y0)),(200001,.vec 200001 (.nam 10) y1),(100002,.imap .bool y2)],[]⟩
def au(c:Code)(f:Nat→Int→Vthread→Vstep→VMask→(List (Int × Bool))→(List Vthread)→Option (PR bo))(x1_n:Nat)(x4:Int)(b8:Vthread)(b11:Vstep)(b100000:VMask)(b100002:List (Int × Bool))(b200001:List Vthread):Tree (Lf EE.T × Option (PR bo)):=.leaf (.go (zu c) (yS x1_n x4 b8 b11 b100000 b100002 b200001),f x1_n x4 b8 b11 b100000 b100002 b200001)
abbrev Cy(N:RecC2)(r:PR bo)(k:List It2)(s:TS EE.T):Prop:=fX (Y:=TT) EE (DU N) HY Ik (fun u=>u=eM r) k s
def iu(x:PR bo):Tree (Lf EE.T × Option (PR bo)):=.leaf (.done (eM x),some x)
theorem av{N:RecC2}{r:PR bo}(n:Nat)(x1_n:Nat)(x4:Int)(b8:Vthread)(b11:Vstep)(b100000:VMask)(b100002:List (Int × Bool))(b200001:List Vthread)(h:ae N n x1_n x4 b8 b11 b100000 b100002 b200001=some r):Cy N r (zu (ai 0 Try.f38)) (yS x1_n x4 b8 b11 b100000 b100002 b200001):=
 aT (m:=4000) (t:=
 .cond (b11.kind==2)
 (
  .bnd (cZ N x1_n ({ at_:=b11.a,slots:=b8.slots }:Vthread) x4 b100000 b200001 b100002) fun z121=>
  .sm z121 (fun z122=>
   iu (.ok (z122.1,z122.2.1,z122.2.2.1,z122.2.2.2))) (fun vz121=>
   iu (.pan vz121)))
 (
  .cond (b11.kind==1)
  (
   .bnd (cZ N x1_n ({ at_:=b11.a,slots:=b8.slots }:Vthread) x4 b100000 b200001 b100002) fun z123=>
   .sm z123 (fun z124=>
    .bnd (cZ N z124.1 ({ at_:=b11.b,slots:=b8.slots }:Vthread) x4 z124.2.1 z124.2.2.1 z124.2.2.2) fun z125=>
    .sm z125 (fun z126=>
     iu (.ok (z126.1,z126.2.1,z126.2.2.1,z126.2.2.2))) (fun vz125=>
     iu (.pan vz125))) (fun vz123=>
    iu (.pan vz123)))
  (
   .cond (b11.kind==3)
   (
    .bnd (i6 N.n b8.slots) fun z127=>
    .sm z127 (fun z128=>
     .bnd (eR z128.1 b11.a) fun z129=>
     .bnd (z128.2[z129]?) fun z130=>
     .bnd (px z128.1 (List.set z128.2 z129 x4)) fun z131=>
     .bnd (cZ N x1_n ({ at_:=w64 (b8.at_+1),slots:=z131 }:Vthread) x4 b100000 b200001 b100002) fun z132=>
     .sm z132 (fun z133=>
      iu (.ok (z133.1,z133.2.1,z133.2.2.1,z133.2.2.2))) (fun vz132=>
      iu (.pan vz132))) (fun vz127=>
     iu (.pan vz127)))
   (
    .bnd (mb 32 x1_n b200001 ([b8] :List Vthread)) fun z134=>
    iu (.ok (z134.length,b100000,z134,b100002)))))) (by kernel_rfl) (by kernel_rfl) h (⟨fun _=>⟨fun _=>be (enc:=eM) rfl,fun _=>be (enc:=eM) rfl⟩,⟨fun _=>⟨fun _=>fun _=>⟨fun _=>be (enc:=eM) rfl,fun _=>be (enc:=eM) rfl⟩,fun _=>be (enc:=eM) rfl⟩,⟨fun _=>⟨fun _=>fun _=>fun _=>fun _=>fun _=>⟨fun _=>be (enc:=eM) rfl,fun _=>be (enc:=eM) rfl⟩,fun _=>be (enc:=eM) rfl⟩,fun _=>be (enc:=eM) rfl⟩⟩⟩)
theorem Fu{N:RecC2}{r:PR bo}(x1_n:Nat)(x3:Vthread)(x4:Int)(y0:VMask)(y1:List Vthread)(y2:List (Int × Bool))(h:cy N x1_n x3 x4 y0 y1 y2=some r):Cy N r (Fp (ai 0 Try.f38)) (E9 x1_n x3 x4 y0 y1 y2):=
 aT (m:=4000) (t:=
 .cond ((jv y2 x3.at_).getD false)
 (
  iu (.ok (x1_n,y0,y1,y2)))
 (
  .nl (([] :List Nat))
  (
   .nl (([] :List Nat))
   (
    .nl (([] :List Nat))
    (
     .nl (([] :List Nat))
     (
      .nl (([] :List Nat))
      (
       .nl (([] :List Nat))
       (
        .nl (([] :List Nat))
        (
         .bnd (ap y0.steps x3.at_) fun z1=>
         .nl (([] :List Nat))
         (
          au (ai 0 Try.f38) (ae N N.n) x1_n x4 x3 z1 y0 (aE y2 x3.at_ true) y1)
         (
          au (ai 0 Try.f38) (ae N N.n) x1_n x4 x3 z1 y0 (aE y2 x3.at_ true) y1))
        (
         .bnd (ap y0.steps x3.at_) fun z2=>
         au (ai 0 Try.f38) (ae N N.n) x1_n x4 x3 z2 y0 (aE y2 x3.at_ true) y1))
       (
        .bnd (ap y0.steps x3.at_) fun z3=>
        au (ai 0 Try.f38) (ae N N.n) x1_n x4 x3 z3 y0 (aE y2 x3.at_ true) y1))
      (
       .bnd (ap y0.steps x3.at_) fun z4=>
       au (ai 0 Try.f38) (ae N N.n) x1_n x4 x3 z4 y0 (aE y2 x3.at_ true) y1))
     (
      .nl (([] :List Nat))
      (
       .nl (([] :List Nat))
       (
        .nl (([] :List Nat))
        (
         .nl (([] :List Nat))
         (
          .bnd (ap y0.steps x3.at_) fun z5=>
          .nl (([] :List Nat))
          (
           au (ai 0 Try.f38) (ae N N.n) x1_n x4 x3 z5 y0 (aE y2 x3.at_ true) y1)
          (
           au (ai 0 Try.f38) (ae N N.n) x1_n x4 x3 z5 y0 (aE y2 x3.at_ true) y1))
         (
          .bnd (ap y0.steps x3.at_) fun z6=>
          au (ai 0 Try.f38) (ae N N.n) x1_n x4 x3 z6 y0 (aE y2 x3.at_ true) y1))
        (
         .bnd (ap y0.steps x3.at_) fun z7=>
         au (ai 0 Try.f38) (ae N N.n) x1_n x4 x3 z7 y0 (aE y2 x3.at_ true) y1))
       (
        .nl (([] :List Nat))
        (
         .nl (([] :List Nat))
         (
          .nl (([] :List Nat))
          (
           .bnd (ap y0.steps x3.at_) fun z8=>
           .nl (([] :List Nat))
           (
            au (ai 0 Try.f38) (ae N N.n) x1_n x4 x3 z8 y0 (aE y2 x3.at_ true) y1)
           (
            au (ai 0 Try.f38) (ae N N.n) x1_n x4 x3 z8 y0 (aE y2 x3.at_ true) y1))
          (
           .bnd (ap y0.steps x3.at_) fun z9=>
           au (ai 0 Try.f38) (ae N N.n) x1_n x4 x3 z9 y0 (aE y2 x3.at_ true) y1))
         (
          .bnd (ap y0.steps x3.at_) fun z10=>
          au (ai 0 Try.f38) (ae N N.n) x1_n x4 x3 z10 y0 (aE y2 x3.at_ true) y1))
        (
         .nl (([] :List Nat))
         (
          .bnd (ap y0.steps x3.at_) fun z11=>
          au (ai 0 Try.f38) (ae N N.n) x1_n x4 x3 z11 y0 (aE y2 x3.at_ true) y1)
         (
          .bnd (ap y0.steps x3.at_) fun z12=>
          au (ai 0 Try.f38) (ae N N.n) x1_n x4 x3 z12 y0 (aE y2 x3.at_ true) y1))))
      (
       .nl (([] :List Nat))
       (
        .bnd (ap y0.steps x3.at_) fun z13=>
        au (ai 0 Try.f38) (ae N N.n) x1_n x4 x3 z13 y0 (aE y2 x3.at_ true) y1)
       (
        .nl (([] :List Nat))
        (
         .bnd (ap y0.steps x3.at_) fun z14=>
         au (ai 0 Try.f38) (ae N N.n) x1_n x4 x3 z14 y0 (aE y2 x3.at_ true) y1)
        (
         .bnd (ap y0.steps x3.at_) fun z15=>
         au (ai 0 Try.f38) (ae N N.n) x1_n x4 x3 z15 y0 (aE y2 x3.at_ true) y1)))))
    (
     .nl (([] :List Nat))
     (
      .nl (([] :List Nat))
      (
       .nl (([] :List Nat))
       (
        .nl (([] :List Nat))
        (
         .nl (([] :List Nat))
         (
          .bnd (ap y0.steps x3.at_) fun z16=>
          .nl (([] :List Nat))
          (
           au (ai 0 Try.f38) (ae N N.n) x1_n x4 x3 z16 y0 (aE y2 x3.at_ true) y1)
          (
           au (ai 0 Try.f38) (ae N N.n) x1_n x4 x3 z16 y0 (aE y2 x3.at_ true) y1))
         (
          .bnd (ap y0.steps x3.at_) fun z17=>
          au (ai 0 Try.f38) (ae N N.n) x1_n x4 x3 z17 y0 (aE y2 x3.at_ true) y1))
        (
         .bnd (ap y0.steps x3.at_) fun z18=>
         au (ai 0 Try.f38) (ae N N.n) x1_n x4 x3 z18 y0 (aE y2 x3.at_ true) y1))
       (
        .nl (([] :List Nat))
        (
         .nl (([] :List Nat))
         (
          .nl (([] :List Nat))
          (
           .bnd (ap y0.steps x3.at_) fun z19=>
           .nl (([] :List Nat))
           (
            au (ai 0 Try.f38) (ae N N.n) x1_n x4 x3 z19 y0 (aE y2 x3.at_ true) y1)
           (
            au (ai 0 Try.f38) (ae N N.n) x1_n x4 x3 z19 y0 (aE y2 x3.at_ true) y1))
          (
           .bnd (ap y0.steps x3.at_) fun z20=>
           au (ai 0 Try.f38) (ae N N.n) x1_n x4 x3 z20 y0 (aE y2 x3.at_ true) y1))
         (
          .bnd (ap y0.steps x3.at_) fun z21=>
          au (ai 0 Try.f38) (ae N N.n) x1_n x4 x3 z21 y0 (aE y2 x3.at_ true) y1))
        (
         .nl (([] :List Nat))
         (
          .bnd (ap y0.steps x3.at_) fun z22=>
          au (ai 0 Try.f38) (ae N N.n) x1_n x4 x3 z22 y0 (aE y2 x3.at_ true) y1)
         (
          .bnd (ap y0.steps x3.at_) fun z23=>
          au (ai 0 Try.f38) (ae N N.n) x1_n x4 x3 z23 y0 (aE y2 x3.at_ true) y1))))
      (
       .nl (([] :List Nat))
       (
        .nl (([] :List Nat))
        (
         .nl (([] :List Nat))
         (
          .nl (([] :List Nat))
          (
           .bnd (ap y0.steps x3.at_) fun z24=>
           .nl (([] :List Nat))
           (
            au (ai 0 Try.f38) (ae N N.n) x1_n x4 x3 z24 y0 (aE y2 x3.at_ true) y1)
           (
            au (ai 0 Try.f38) (ae N N.n) x1_n x4 x3 z24 y0 (aE y2 x3.at_ true) y1))
          (
           .bnd (ap y0.steps x3.at_) fun z25=>
           au (ai 0 Try.f38) (ae N N.n) x1_n x4 x3 z25 y0 (aE y2 x3.at_ true) y1))
         (
          .bnd (ap y0.steps x3.at_) fun z26=>
          au (ai 0 Try.f38) (ae N N.n) x1_n x4 x3 z26 y0 (aE y2 x3.at_ true) y1))
        (
         .bnd (ap y0.steps x3.at_) fun z27=>
         au (ai 0 Try.f38) (ae N N.n) x1_n x4 x3 z27 y0 (aE y2 x3.at_ true) y1))
       (
        .nl (([] :List Nat))
        (
         .nl (([] :List Nat))
         (
          .bnd (ap y0.steps x3.at_) fun z28=>
          au (ai 0 Try.f38) (ae N N.n) x1_n x4 x3 z28 y0 (aE y2 x3.at_ true) y1)
         (
          .bnd (ap y0.steps x3.at_) fun z29=>
          au (ai 0 Try.f38) (ae N N.n) x1_n x4 x3 z29 y0 (aE y2 x3.at_ true) y1))
        (
         .bnd (ap y0.steps x3.at_) fun z30=>
         au (ai 0 Try.f38) (ae N N.n) x1_n x4 x3 z30 y0 (aE y2 x3.at_ true) y1))))
     (
      .nl (([] :List Nat))
      (
       .nl (([] :List Nat))
       (
        .bnd (ap y0.steps x3.at_) fun z31=>
        au (ai 0 Try.f38) (ae N N.n) x1_n x4 x3 z31 y0 (aE y2 x3.at_ true) y1)
       (
        .nl (([] :List Nat))
        (
         .bnd (ap y0.steps x3.at_) fun z32=>
         au (ai 0 Try.f38) (ae N N.n) x1_n x4 x3 z32 y0 (aE y2 x3.at_ true) y1)
        (
         .bnd (ap y0.steps x3.at_) fun z33=>
         au (ai 0 Try.f38) (ae N N.n) x1_n x4 x3 z33 y0 (aE y2 x3.at_ true) y1)))
      (
       .nl (([] :List Nat))
       (
        .nl (([] :List Nat))
        (
         .bnd (ap y0.steps x3.at_) fun z34=>
         au (ai 0 Try.f38) (ae N N.n) x1_n x4 x3 z34 y0 (aE y2 x3.at_ true) y1)
        (
         .bnd (ap y0.steps x3.at_) fun z35=>
         au (ai 0 Try.f38) (ae N N.n) x1_n x4 x3 z35 y0 (aE y2 x3.at_ true) y1))
       (
        .bnd (ap y0.steps x3.at_) fun z36=>
        au (ai 0 Try.f38) (ae N N.n) x1_n x4 x3 z36 y0 (aE y2 x3.at_ true) y1)))))
   (
    .nl (([] :List Nat))
    (
     .nl (([] :List Nat))
     (
      .nl (([] :List Nat))
      (
       .nl (([] :List Nat))
       (
        .nl (([] :List Nat))
        (
         .nl (([] :List Nat))
         (
          .bnd (ap y0.steps x3.at_) fun z37=>
          .nl (([] :List Nat))
          (
           au (ai 0 Try.f38) (ae N N.n) x1_n x4 x3 z37 y0 (aE y2 x3.at_ true) y1)
          (
           au (ai 0 Try.f38) (ae N N.n) x1_n x4 x3 z37 y0 (aE y2 x3.at_ true) y1))
         (
          .bnd (ap y0.steps x3.at_) fun z38=>
          au (ai 0 Try.f38) (ae N N.n) x1_n x4 x3 z38 y0 (aE y2 x3.at_ true) y1))
        (
         .bnd (ap y0.steps x3.at_) fun z39=>
         au (ai 0 Try.f38) (ae N N.n) x1_n x4 x3 z39 y0 (aE y2 x3.at_ true) y1))
       (
        .nl (([] :List Nat))
        (
         .nl (([] :List Nat))
         (
          .nl (([] :List Nat))
          (
           .bnd (ap y0.steps x3.at_) fun z40=>
           .nl (([] :List Nat))
           (
            au (ai 0 Try.f38) (ae N N.n) x1_n x4 x3 z40 y0 (aE y2 x3.at_ true) y1)
           (
            au (ai 0 Try.f38) (ae N N.n) x1_n x4 x3 z40 y0 (aE y2 x3.at_ true) y1))
          (
           .bnd (ap y0.steps x3.at_) fun z41=>
           au (ai 0 Try.f38) (ae N N.n) x1_n x4 x3 z41 y0 (aE y2 x3.at_ true) y1))
         (
          .bnd (ap y0.steps x3.at_) fun z42=>
          au (ai 0 Try.f38) (ae N N.n) x1_n x4 x3 z42 y0 (aE y2 x3.at_ true) y1))
        (
         .nl (([] :List Nat))
         (
          .bnd (ap y0.steps x3.at_) fun z43=>
          au (ai 0 Try.f38) (ae N N.n) x1_n x4 x3 z43 y0 (aE y2 x3.at_ true) y1)
         (
          .bnd (ap y0.steps x3.at_) fun z44=>
          au (ai 0 Try.f38) (ae N N.n) x1_n x4 x3 z44 y0 (aE y2 x3.at_ true) y1))))
      (
       .nl (([] :List Nat))
       (
        .nl (([] :List Nat))
        (
         .nl (([] :List Nat))
         (
          .nl (([] :List Nat))
          (
           .bnd (ap y0.steps x3.at_) fun z45=>
           .nl (([] :List Nat))
           (
            au (ai 0 Try.f38) (ae N N.n) x1_n x4 x3 z45 y0 (aE y2 x3.at_ true) y1)
           (
            au (ai 0 Try.f38) (ae N N.n) x1_n x4 x3 z45 y0 (aE y2 x3.at_ true) y1))
          (
           .bnd (ap y0.steps x3.at_) fun z46=>
           au (ai 0 Try.f38) (ae N N.n) x1_n x4 x3 z46 y0 (aE y2 x3.at_ true) y1))
         (
          .bnd (ap y0.steps x3.at_) fun z47=>
          au (ai 0 Try.f38) (ae N N.n) x1_n x4 x3 z47 y0 (aE y2 x3.at_ true) y1))
        (
         .bnd (ap y0.steps x3.at_) fun z48=>
         au (ai 0 Try.f38) (ae N N.n) x1_n x4 x3 z48 y0 (aE y2 x3.at_ true) y1))
       (
        .nl (([] :List Nat))
        (
         .nl (([] :List Nat))
         (
          .bnd (ap y0.steps x3.at_) fun z49=>
          au (ai 0 Try.f38) (ae N N.n) x1_n x4 x3 z49 y0 (aE y2 x3.at_ true) y1)
         (
          .bnd (ap y0.steps x3.at_) fun z50=>
          au (ai 0 Try.f38) (ae N N.n) x1_n x4 x3 z50 y0 (aE y2 x3.at_ true) y1))
        (
         .bnd (ap y0.steps x3.at_) fun z51=>
         au (ai 0 Try.f38) (ae N N.n) x1_n x4 x3 z51 y0 (aE y2 x3.at_ true) y1))))
     (
      .nl (([] :List Nat))
      (
       .nl (([] :List Nat))
       (
        .nl (([] :List Nat))
        (
         .nl (([] :List Nat))
         (
          .nl (([] :List Nat))
          (
           .bnd (ap y0.steps x3.at_) fun z52=>
           .nl (([] :List Nat))
           (
            au (ai 0 Try.f38) (ae N N.n) x1_n x4 x3 z52 y0 (aE y2 x3.at_ true) y1)
           (
            au (ai 0 Try.f38) (ae N N.n) x1_n x4 x3 z52 y0 (aE y2 x3.at_ true) y1))
          (
           .bnd (ap y0.steps x3.at_) fun z53=>
           au (ai 0 Try.f38) (ae N N.n) x1_n x4 x3 z53 y0 (aE y2 x3.at_ true) y1))
         (
          .bnd (ap y0.steps x3.at_) fun z54=>
          au (ai 0 Try.f38) (ae N N.n) x1_n x4 x3 z54 y0 (aE y2 x3.at_ true) y1))
        (
         .bnd (ap y0.steps x3.at_) fun z55=>
         au (ai 0 Try.f38) (ae N N.n) x1_n x4 x3 z55 y0 (aE y2 x3.at_ true) y1))
       (
        .bnd (ap y0.steps x3.at_) fun z56=>
        au (ai 0 Try.f38) (ae N N.n) x1_n x4 x3 z56 y0 (aE y2 x3.at_ true) y1))
      (
       .nl (([] :List Nat))
       (
        .nl (([] :List Nat))
        (
         .nl (([] :List Nat))
         (
          .bnd (ap y0.steps x3.at_) fun z57=>
          au (ai 0 Try.f38) (ae N N.n) x1_n x4 x3 z57 y0 (aE y2 x3.at_ true) y1)
         (
          .bnd (ap y0.steps x3.at_) fun z58=>
          au (ai 0 Try.f38) (ae N N.n) x1_n x4 x3 z58 y0 (aE y2 x3.at_ true) y1))
        (
         .bnd (ap y0.steps x3.at_) fun z59=>
         au (ai 0 Try.f38) (ae N N.n) x1_n x4 x3 z59 y0 (aE y2 x3.at_ true) y1))
       (
        .bnd (ap y0.steps x3.at_) fun z60=>
        au (ai 0 Try.f38) (ae N N.n) x1_n x4 x3 z60 y0 (aE y2 x3.at_ true) y1))))
    (
     .nl (([] :List Nat))
     (
      .nl (([] :List Nat))
      (
       .nl (([] :List Nat))
       (
        .bnd (ap y0.steps x3.at_) fun z61=>
        au (ai 0 Try.f38) (ae N N.n) x1_n x4 x3 z61 y0 (aE y2 x3.at_ true) y1)
       (
        .nl (([] :List Nat))
        (
         .bnd (ap y0.steps x3.at_) fun z62=>
         au (ai 0 Try.f38) (ae N N.n) x1_n x4 x3 z62 y0 (aE y2 x3.at_ true) y1)
        (
         .bnd (ap y0.steps x3.at_) fun z63=>
         au (ai 0 Try.f38) (ae N N.n) x1_n x4 x3 z63 y0 (aE y2 x3.at_ true) y1)))
      (
       .nl (([] :List Nat))
       (
        .nl (([] :List Nat))
        (
         .bnd (ap y0.steps x3.at_) fun z64=>
         au (ai 0 Try.f38) (ae N N.n) x1_n x4 x3 z64 y0 (aE y2 x3.at_ true) y1)
        (
         .bnd (ap y0.steps x3.at_) fun z65=>
         au (ai 0 Try.f38) (ae N N.n) x1_n x4 x3 z65 y0 (aE y2 x3.at_ true) y1))
       (
        .bnd (ap y0.steps x3.at_) fun z66=>
        au (ai 0 Try.f38) (ae N N.n) x1_n x4 x3 z66 y0 (aE y2 x3.at_ true) y1)))
     (
      .nl (([] :List Nat))
      (
       .nl (([] :List Nat))
       (
        .nl (([] :List Nat))
        (
         .bnd (ap y0.steps x3.at_) fun z67=>
         au (ai 0 Try.f38) (ae N N.n) x1_n x4 x3 z67 y0 (aE y2 x3.at_ true) y1)
        (
         .bnd (ap y0.steps x3.at_) fun z68=>
         au (ai 0 Try.f38) (ae N N.n) x1_n x4 x3 z68 y0 (aE y2 x3.at_ true) y1))
       (
        .bnd (ap y0.steps x3.at_) fun z69=>
        au (ai 0 Try.f38) (ae N N.n) x1_n x4 x3 z69 y0 (aE y2 x3.at_ true) y1))
      (
       .bnd (ap y0.steps x3.at_) fun z70=>
       au (ai 0 Try.f38) (ae N N.n) x1_n x4 x3 z70 y0 (aE y2 x3.at_ true) y1)))))
  (
   .nl (([] :List Nat))
   (
    .nl (([] :List Nat))
    (
     .nl (([] :List Nat))
     (
      .nl (([] :List Nat))
      (
       .nl (([] :List Nat))
       (
        .nl (([] :List Nat))
        (
         .nl (([] :List Nat))
         (
          .bnd (ap y0.steps x3.at_) fun z71=>
          .nl (([] :List Nat))
          (
           au (ai 0 Try.f38) (ae N N.n) x1_n x4 x3 z71 y0 (aE y2 x3.at_ true) y1)
          (
           au (ai 0 Try.f38) (ae N N.n) x1_n x4 x3 z71 y0 (aE y2 x3.at_ true) y1))
         (
          .bnd (ap y0.steps x3.at_) fun z72=>
          au (ai 0 Try.f38) (ae N N.n) x1_n x4 x3 z72 y0 (aE y2 x3.at_ true) y1))
        (
         .bnd (ap y0.steps x3.at_) fun z73=>
         au (ai 0 Try.f38) (ae N N.n) x1_n x4 x3 z73 y0 (aE y2 x3.at_ true) y1))
       (
        .nl (([] :List Nat))
        (
         .nl (([] :List Nat))
         (
          .nl (([] :List Nat))
          (
           .bnd (ap y0.steps x3.at_) fun z74=>
           .nl (([] :List Nat))
           (
            au (ai 0 Try.f38) (ae N N.n) x1_n x4 x3 z74 y0 (aE y2 x3.at_ true) y1)
           (
            au (ai 0 Try.f38) (ae N N.n) x1_n x4 x3 z74 y0 (aE y2 x3.at_ true) y1))
          (
           .bnd (ap y0.steps x3.at_) fun z75=>
           au (ai 0 Try.f38) (ae N N.n) x1_n x4 x3 z75 y0 (aE y2 x3.at_ true) y1))
         (
          .bnd (ap y0.steps x3.at_) fun z76=>
          au (ai 0 Try.f38) (ae N N.n) x1_n x4 x3 z76 y0 (aE y2 x3.at_ true) y1))
        (
         .nl (([] :List Nat))
         (
          .bnd (ap y0.steps x3.at_) fun z77=>
          au (ai 0 Try.f38) (ae N N.n) x1_n x4 x3 z77 y0 (aE y2 x3.at_ true) y1)
         (
          .bnd (ap y0.steps x3.at_) fun z78=>
          au (ai 0 Try.f38) (ae N N.n) x1_n x4 x3 z78 y0 (aE y2 x3.at_ true) y1))))
      (
       .nl (([] :List Nat))
       (
        .nl (([] :List Nat))
        (
         .nl (([] :List Nat))
         (
          .nl (([] :List Nat))
          (
           .bnd (ap y0.steps x3.at_) fun z79=>
           .nl (([] :List Nat))
           (
            au (ai 0 Try.f38) (ae N N.n) x1_n x4 x3 z79 y0 (aE y2 x3.at_ true) y1)
           (
            au (ai 0 Try.f38) (ae N N.n) x1_n x4 x3 z79 y0 (aE y2 x3.at_ true) y1))
          (
           .bnd (ap y0.steps x3.at_) fun z80=>
           au (ai 0 Try.f38) (ae N N.n) x1_n x4 x3 z80 y0 (aE y2 x3.at_ true) y1))
         (
          .bnd (ap y0.steps x3.at_) fun z81=>
          au (ai 0 Try.f38) (ae N N.n) x1_n x4 x3 z81 y0 (aE y2 x3.at_ true) y1))
        (
         .bnd (ap y0.steps x3.at_) fun z82=>
         au (ai 0 Try.f38) (ae N N.n) x1_n x4 x3 z82 y0 (aE y2 x3.at_ true) y1))
       (
        .nl (([] :List Nat))
        (
         .nl (([] :List Nat))
         (
          .bnd (ap y0.steps x3.at_) fun z83=>
          au (ai 0 Try.f38) (ae N N.n) x1_n x4 x3 z83 y0 (aE y2 x3.at_ true) y1)
         (
          .bnd (ap y0.steps x3.at_) fun z84=>
          au (ai 0 Try.f38) (ae N N.n) x1_n x4 x3 z84 y0 (aE y2 x3.at_ true) y1))
        (
         .bnd (ap y0.steps x3.at_) fun z85=>
         au (ai 0 Try.f38) (ae N N.n) x1_n x4 x3 z85 y0 (aE y2 x3.at_ true) y1))))
     (
      .nl (([] :List Nat))
      (
       .nl (([] :List Nat))
       (
        .nl (([] :List Nat))
        (
         .nl (([] :List Nat))
         (
          .nl (([] :List Nat))
          (
           .bnd (ap y0.steps x3.at_) fun z86=>
           .nl (([] :List Nat))
           (
            au (ai 0 Try.f38) (ae N N.n) x1_n x4 x3 z86 y0 (aE y2 x3.at_ true) y1)
           (
            au (ai 0 Try.f38) (ae N N.n) x1_n x4 x3 z86 y0 (aE y2 x3.at_ true) y1))
          (
           .bnd (ap y0.steps x3.at_) fun z87=>
           au (ai 0 Try.f38) (ae N N.n) x1_n x4 x3 z87 y0 (aE y2 x3.at_ true) y1))
         (
          .bnd (ap y0.steps x3.at_) fun z88=>
          au (ai 0 Try.f38) (ae N N.n) x1_n x4 x3 z88 y0 (aE y2 x3.at_ true) y1))
        (
         .bnd (ap y0.steps x3.at_) fun z89=>
         au (ai 0 Try.f38) (ae N N.n) x1_n x4 x3 z89 y0 (aE y2 x3.at_ true) y1))
       (
        .bnd (ap y0.steps x3.at_) fun z90=>
        au (ai 0 Try.f38) (ae N N.n) x1_n x4 x3 z90 y0 (aE y2 x3.at_ true) y1))
      (
       .nl (([] :List Nat))
       (
        .nl (([] :List Nat))
        (
         .nl (([] :List Nat))
         (
          .bnd (ap y0.steps x3.at_) fun z91=>
          au (ai 0 Try.f38) (ae N N.n) x1_n x4 x3 z91 y0 (aE y2 x3.at_ true) y1)
         (
          .bnd (ap y0.steps x3.at_) fun z92=>
          au (ai 0 Try.f38) (ae N N.n) x1_n x4 x3 z92 y0 (aE y2 x3.at_ true) y1))
        (
         .bnd (ap y0.steps x3.at_) fun z93=>
         au (ai 0 Try.f38) (ae N N.n) x1_n x4 x3 z93 y0 (aE y2 x3.at_ true) y1))
       (
        .bnd (ap y0.steps x3.at_) fun z94=>
        au (ai 0 Try.f38) (ae N N.n) x1_n x4 x3 z94 y0 (aE y2 x3.at_ true) y1))))
    (
     .nl (([] :List Nat))
     (
      .nl (([] :List Nat))
      (
       .nl (([] :List Nat))
       (
        .nl (([] :List Nat))
        (
         .nl (([] :List Nat))
         (
          .nl (([] :List Nat))
          (
           .bnd (ap y0.steps x3.at_) fun z95=>
           .nl (([] :List Nat))
           (
            au (ai 0 Try.f38) (ae N N.n) x1_n x4 x3 z95 y0 (aE y2 x3.at_ true) y1)
           (
            au (ai 0 Try.f38) (ae N N.n) x1_n x4 x3 z95 y0 (aE y2 x3.at_ true) y1))
          (
           .bnd (ap y0.steps x3.at_) fun z96=>
           au (ai 0 Try.f38) (ae N N.n) x1_n x4 x3 z96 y0 (aE y2 x3.at_ true) y1))
         (
          .bnd (ap y0.steps x3.at_) fun z97=>
          au (ai 0 Try.f38) (ae N N.n) x1_n x4 x3 z97 y0 (aE y2 x3.at_ true) y1))
        (
         .bnd (ap y0.steps x3.at_) fun z98=>
         au (ai 0 Try.f38) (ae N N.n) x1_n x4 x3 z98 y0 (aE y2 x3.at_ true) y1))
       (
        .bnd (ap y0.steps x3.at_) fun z99=>
        au (ai 0 Try.f38) (ae N N.n) x1_n x4 x3 z99 y0 (aE y2 x3.at_ true) y1))
      (
       .bnd (ap y0.steps x3.at_) fun z100=>
       au (ai 0 Try.f38) (ae N N.n) x1_n x4 x3 z100 y0 (aE y2 x3.at_ true) y1))
     (
      .nl (([] :List Nat))
      (
       .nl (([] :List Nat))
       (
        .nl (([] :List Nat))
        (
         .nl (([] :List Nat))
         (
          .bnd (ap y0.steps x3.at_) fun z101=>
          au (ai 0 Try.f38) (ae N N.n) x1_n x4 x3 z101 y0 (aE y2 x3.at_ true) y1)
         (
          .bnd (ap y0.steps x3.at_) fun z102=>
          au (ai 0 Try.f38) (ae N N.n) x1_n x4 x3 z102 y0 (aE y2 x3.at_ true) y1))
        (
         .bnd (ap y0.steps x3.at_) fun z103=>
         au (ai 0 Try.f38) (ae N N.n) x1_n x4 x3 z103 y0 (aE y2 x3.at_ true) y1))
       (
        .bnd (ap y0.steps x3.at_) fun z104=>
        au (ai 0 Try.f38) (ae N N.n) x1_n x4 x3 z104 y0 (aE y2 x3.at_ true) y1))
      (
       .bnd (ap y0.steps x3.at_) fun z105=>
       au (ai 0 Try.f38) (ae N N.n) x1_n x4 x3 z105 y0 (aE y2 x3.at_ true) y1))))
   (
    .nl (([] :List Nat))
    (
     .nl (([] :List Nat))
     (
      .nl (([] :List Nat))
      (
       .nl (([] :List Nat))
       (
        .bnd (ap y0.steps x3.at_) fun z106=>
        au (ai 0 Try.f38) (ae N N.n) x1_n x4 x3 z106 y0 (aE y2 x3.at_ true) y1)
       (
        .nl (([] :List Nat))
        (
         .bnd (ap y0.steps x3.at_) fun z107=>
         au (ai 0 Try.f38) (ae N N.n) x1_n x4 x3 z107 y0 (aE y2 x3.at_ true) y1)
        (
         .bnd (ap y0.steps x3.at_) fun z108=>
         au (ai 0 Try.f38) (ae N N.n) x1_n x4 x3 z108 y0 (aE y2 x3.at_ true) y1)))
      (
       .nl (([] :List Nat))
       (
        .nl (([] :List Nat))
        (
         .bnd (ap y0.steps x3.at_) fun z109=>
         au (ai 0 Try.f38) (ae N N.n) x1_n x4 x3 z109 y0 (aE y2 x3.at_ true) y1)
        (
         .bnd (ap y0.steps x3.at_) fun z110=>
         au (ai 0 Try.f38) (ae N N.n) x1_n x4 x3 z110 y0 (aE y2 x3.at_ true) y1))
       (
        .bnd (ap y0.steps x3.at_) fun z111=>
        au (ai 0 Try.f38) (ae N N.n) x1_n x4 x3 z111 y0 (aE y2 x3.at_ true) y1)))
     (
      .nl (([] :List Nat))
      (
       .nl (([] :List Nat))
       (
        .nl (([] :List Nat))
        (
         .bnd (ap y0.steps x3.at_) fun z112=>
         au (ai 0 Try.f38) (ae N N.n) x1_n x4 x3 z112 y0 (aE y2 x3.at_ true) y1)
        (
         .bnd (ap y0.steps x3.at_) fun z113=>
         au (ai 0 Try.f38) (ae N N.n) x1_n x4 x3 z113 y0 (aE y2 x3.at_ true) y1))
       (
        .bnd (ap y0.steps x3.at_) fun z114=>
        au (ai 0 Try.f38) (ae N N.n) x1_n x4 x3 z114 y0 (aE y2 x3.at_ true) y1))
      (
       .bnd (ap y0.steps x3.at_) fun z115=>
       au (ai 0 Try.f38) (ae N N.n) x1_n x4 x3 z115 y0 (aE y2 x3.at_ true) y1)))
    (
     .nl (([] :List Nat))
     (
      .nl (([] :List Nat))
      (
       .nl (([] :List Nat))
       (
        .nl (([] :List Nat))
        (
         .bnd (ap y0.steps x3.at_) fun z116=>
         au (ai 0 Try.f38) (ae N N.n) x1_n x4 x3 z116 y0 (aE y2 x3.at_ true) y1)
        (
         .bnd (ap y0.steps x3.at_) fun z117=>
         au (ai 0 Try.f38) (ae N N.n) x1_n x4 x3 z117 y0 (aE y2 x3.at_ true) y1))
       (
        .bnd (ap y0.steps x3.at_) fun z118=>
        au (ai 0 Try.f38) (ae N N.n) x1_n x4 x3 z118 y0 (aE y2 x3.at_ true) y1))
      (
       .bnd (ap y0.steps x3.at_) fun z119=>
       au (ai 0 Try.f38) (ae N N.n) x1_n x4 x3 z119 y0 (aE y2 x3.at_ true) y1))
     (
      .bnd (ap y0.steps x3.at_) fun z120=>
      au (ai 0 Try.f38) (ae N N.n) x1_n x4 x3 z120 y0 (aE y2 x3.at_ true) y1)))))) (by kernel_rfl) (by kernel_rfl) h (⟨be (enc:=eM) rfl,⟨fun _ _ h=>Eq.trans (by kernel_rfl) h,⟨fun _ _ h=>Eq.trans (by kernel_rfl) h,⟨fun _ _ h=>Eq.trans (by kernel_rfl) h,⟨fun _ _ h=>Eq.trans (by kernel_rfl) h,⟨fun _ _ h=>Eq.trans (by kernel_rfl) h,⟨fun _ _ h=>Eq.trans (by kernel_rfl) h,⟨fun _ _ h=>Eq.trans (by kernel_rfl) h,fun _=>⟨fun _ _ h=>Eq.trans (by kernel_rfl) h,fun h=>av N.n _ _ _ _ _ _ _ h,fun h=>av N.n _ _ _ _ _ _ _ h⟩,fun _=>fun h=>av N.n _ _ _ _ _ _ _ h⟩,fun _=>fun h=>av N.n _ _ _ _ _ _ _ h⟩,fun _=>fun h=>av N.n _ _ _ _ _ _ _ h⟩,⟨fun _ _ h=>Eq.trans (by kernel_rfl) h,⟨fun _ _ h=>Eq.trans (by kernel_rfl) h,⟨fun _ _ h=>Eq.trans (by kernel_rfl) h,⟨fun _ _ h=>Eq.trans (by kernel_rfl) h,fun _=>⟨fun _ _ h=>Eq.trans (by kernel_rfl) h,fun h=>av N.n _ _ _ _ _ _ _ h,fun h=>av N.n _ _ _ _ _ _ _ h⟩,fun _=>fun h=>av N.n _ _ _ _ _ _ _ h⟩,fun _=>fun h=>av N.n _ _ _ _ _ _ _ h⟩,⟨fun _ _ h=>Eq.trans (by kernel_rfl) h,⟨fun _ _ h=>Eq.trans (by kernel_rfl) h,⟨fun _ _ h=>Eq.trans (by kernel_rfl) h,fun _=>⟨fun _ _ h=>Eq.trans (by kernel_rfl) h,fun h=>av N.n _ _ _ _ _ _ _ h,fun h=>av N.n _ _ _ _ _ _ _ h⟩,fun _=>fun h=>av N.n _ _ _ _ _ _ _ h⟩,fun _=>fun h=>av N.n _ _ _ _ _ _ _ h⟩,⟨fun _ _ h=>Eq.trans (by kernel_rfl) h,fun _=>fun h=>av N.n _ _ _ _ _ _ _ h,fun _=>fun h=>av N.n _ _ _ _ _ _ _ h⟩⟩⟩,⟨fun _ _ h=>Eq.trans (by kernel_rfl) h,fun _=>fun h=>av N.n _ _ _ _ _ _ _ h,⟨fun _ _ h=>Eq.trans (by kernel_rfl) h,fun _=>fun h=>av N.n _ _ _ _ _ _ _ h,fun _=>fun h=>av N.n _ _ _ _ _ _ _ h⟩⟩⟩⟩,⟨fun _ _ h=>Eq.trans (by kernel_rfl) h,⟨fun _ _ h=>Eq.trans (by kernel_rfl) h,⟨fun _ _ h=>Eq.trans (by kernel_rfl) h,⟨fun _ _ h=>Eq.trans (by kernel_rfl) h,⟨fun _ _ h=>Eq.trans (by kernel_rfl) h,fun _=>⟨fun _ _ h=>Eq.trans (by kernel_rfl) h,fun h=>av N.n _ _ _ _ _ _ _ h,fun h=>av N.n _ _ _ _ _ _ _ h⟩,fun _=>fun h=>av N.n _ _ _ _ _ _ _ h⟩,fun _=>fun h=>av N.n _ _ _ _ _ _ _ h⟩,⟨fun _ _ h=>Eq.trans (by kernel_rfl) h,⟨fun _ _ h=>Eq.trans (by kernel_rfl) h,⟨fun _ _ h=>Eq.trans (by kernel_rfl) h,fun _=>⟨fun _ _ h=>Eq.trans (by kernel_rfl) h,fun h=>av N.n _ _ _ _ _ _ _ h,fun h=>av N.n _ _ _ _ _ _ _ h⟩,fun _=>fun h=>av N.n _ _ _ _ _ _ _ h⟩,fun _=>fun h=>av N.n _ _ _ _ _ _ _ h⟩,⟨fun _ _ h=>Eq.trans (by kernel_rfl) h,fun _=>fun h=>av N.n _ _ _ _ _ _ _ h,fun _=>fun h=>av N.n _ _ _ _ _ _ _ h⟩⟩⟩,⟨fun _ _ h=>Eq.trans (by kernel_rfl) h,⟨fun _ _ h=>Eq.trans (by kernel_rfl) h,⟨fun _ _ h=>Eq.trans (by kernel_rfl) h,⟨fun _ _ h=>Eq.trans (by kernel_rfl) h,fun _=>⟨fun _ _ h=>Eq.trans (by kernel_rfl) h,fun h=>av N.n _ _ _ _ _ _ _ h,fun h=>av N.n _ _ _ _ _ _ _ h⟩,fun _=>fun h=>av N.n _ _ _ _ _ _ _ h⟩,fun _=>fun h=>av N.n _ _ _ _ _ _ _ h⟩,fun _=>fun h=>av N.n _ _ _ _ _ _ _ h⟩,⟨fun _ _ h=>Eq.trans (by kernel_rfl) h,⟨fun _ _ h=>Eq.trans (by kernel_rfl) h,fun _=>fun h=>av N.n _ _ _ _ _ _ _ h,fun _=>fun h=>av N.n _ _ _ _ _ _ _ h⟩,fun _=>fun h=>av N.n _ _ _ _ _ _ _ h⟩⟩⟩,⟨fun _ _ h=>Eq.trans (by kernel_rfl) h,⟨fun _ _ h=>Eq.trans (by kernel_rfl) h,fun _=>fun h=>av N.n _ _ _ _ _ _ _ h,⟨fun _ _ h=>Eq.trans (by kernel_rfl) h,fun _=>fun h=>av N.n _ _ _ _ _ _ _ h,fun _=>fun h=>av N.n _ _ _ _ _ _ _ h⟩⟩,⟨fun _ _ h=>Eq.trans (by kernel_rfl) h,⟨fun _ _ h=>Eq.trans (by kernel_rfl) h,fun _=>fun h=>av N.n _ _ _ _ _ _ _ h,fun _=>fun h=>av N.n _ _ _ _ _ _ _ h⟩,fun _=>fun h=>av N.n _ _ _ _ _ _ _ h⟩⟩⟩⟩,⟨fun _ _ h=>Eq.trans (by kernel_rfl) h,⟨fun _ _ h=>Eq.trans (by kernel_rfl) h,⟨fun _ _ h=>Eq.trans (by kernel_rfl) h,⟨fun _ _ h=>Eq.trans (by kernel_rfl) h,⟨fun _ _ h=>Eq.trans (by kernel_rfl) h,⟨fun _ _ h=>Eq.trans (by kernel_rfl) h,fun _=>⟨fun _ _ h=>Eq.trans (by kernel_rfl) h,fun h=>av N.n _ _ _ _ _ _ _ h,fun h=>av N.n _ _ _ _ _ _ _ h⟩,fun _=>fun h=>av N.n _ _ _ _ _ _ _ h⟩,fun _=>fun h=>av N.n _ _ _ _ _ _ _ h⟩,⟨fun _ _ h=>Eq.trans (by kernel_rfl) h,⟨fun _ _ h=>Eq.trans (by kernel_rfl) h,⟨fun _ _ h=>Eq.trans (by kernel_rfl) h,fun _=>⟨fun _ _ h=>Eq.trans (by kernel_rfl) h,fun h=>av N.n _ _ _ _ _ _ _ h,fun h=>av N.n _ _ _ _ _ _ _ h⟩,fun _=>fun h=>av N.n _ _ _ _ _ _ _ h⟩,fun _=>fun h=>av N.n _ _ _ _ _ _ _ h⟩,⟨fun _ _ h=>Eq.trans (by kernel_rfl) h,fun _=>fun h=>av N.n _ _ _ _ _ _ _ h,fun _=>fun h=>av N.n _ _ _ _ _ _ _ h⟩⟩⟩,⟨fun _ _ h=>Eq.trans (by kernel_rfl) h,⟨fun _ _ h=>Eq.trans (by kernel_rfl) h,⟨fun _ _ h=>Eq.trans (by kernel_rfl) h,⟨fun _ _ h=>Eq.trans (by kernel_rfl) h,fun _=>⟨fun _ _ h=>Eq.trans (by kernel_rfl) h,fun h=>av N.n _ _ _ _ _ _ _ h,fun h=>av N.n _ _ _ _ _ _ _ h⟩,fun _=>fun h=>av N.n _ _ _ _ _ _ _ h⟩,fun _=>fun h=>av N.n _ _ _ _ _ _ _ h⟩,fun _=>fun h=>av N.n _ _ _ _ _ _ _ h⟩,⟨fun _ _ h=>Eq.trans (by kernel_rfl) h,⟨fun _ _ h=>Eq.trans (by kernel_rfl) h,fun _=>fun h=>av N.n _ _ _ _ _ _ _ h,fun _=>fun h=>av N.n _ _ _ _ _ _ _ h⟩,fun _=>fun h=>av N.n _ _ _ _ _ _ _ h⟩⟩⟩,⟨fun _ _ h=>Eq.trans (by kernel_rfl) h,⟨fun _ _ h=>Eq.trans (by kernel_rfl) h,⟨fun _ _ h=>Eq.trans (by kernel_rfl) h,⟨fun _ _ h=>Eq.trans (by kernel_rfl) h,⟨fun _ _ h=>Eq.trans (by kernel_rfl) h,fun _=>⟨fun _ _ h=>Eq.trans (by kernel_rfl) h,fun h=>av N.n _ _ _ _ _ _ _ h,fun h=>av N.n _ _ _ _ _ _ _ h⟩,fun _=>fun h=>av N.n _ _ _ _ _ _ _ h⟩,fun _=>fun h=>av N.n _ _ _ _ _ _ _ h⟩,fun _=>fun h=>av N.n _ _ _ _ _ _ _ h⟩,fun _=>fun h=>av N.n _ _ _ _ _ _ _ h⟩,⟨fun _ _ h=>Eq.trans (by kernel_rfl) h,⟨fun _ _ h=>Eq.trans (by kernel_rfl) h,⟨fun _ _ h=>Eq.trans (by kernel_rfl) h,fun _=>fun h=>av N.n _ _ _ _ _ _ _ h,fun _=>fun h=>av N.n _ _ _ _ _ _ _ h⟩,fun _=>fun h=>av N.n _ _ _ _ _ _ _ h⟩,fun _=>fun h=>av N.n _ _ _ _ _ _ _ h⟩⟩⟩,⟨fun _ _ h=>Eq.trans (by kernel_rfl) h,⟨fun _ _ h=>Eq.trans (by kernel_rfl) h,⟨fun _ _ h=>Eq.trans (by kernel_rfl) h,fun _=>fun h=>av N.n _ _ _ _ _ _ _ h,⟨fun _ _ h=>Eq.trans (by kernel_rfl) h,fun _=>fun h=>av N.n _ _ _ _ _ _ _ h,fun _=>fun h=>av N.n _ _ _ _ _ _ _ h⟩⟩,⟨fun _ _ h=>Eq.trans (by kernel_rfl) h,⟨fun _ _ h=>Eq.trans (by kernel_rfl) h,fun _=>fun h=>av N.n _ _ _ _ _ _ _ h,fun _=>fun h=>av N.n _ _ _ _ _ _ _ h⟩,fun _=>fun h=>av N.n _ _ _ _ _ _ _ h⟩⟩,⟨fun _ _ h=>Eq.trans (by kernel_rfl) h,⟨fun _ _ h=>Eq.trans (by kernel_rfl) h,⟨fun _ _ h=>Eq.trans (by kernel_rfl) h,fun _=>fun h=>av N.n _ _ _ _ _ _ _ h,fun _=>fun h=>av N.n _ _ _ _ _ _ _ h⟩,fun _=>fun h=>av N.n _ _ _ _ _ _ _ h⟩,fun _=>fun h=>av N.n _ _ _ _ _ _ _ h⟩⟩⟩⟩,⟨fun _ _ h=>Eq.trans (by kernel_rfl) h,⟨fun _ _ h=>Eq.trans (by kernel_rfl) h,⟨fun _ _ h=>Eq.trans (by kernel_rfl) h,⟨fun _ _ h=>Eq.trans (by kernel_rfl) h,⟨fun _ _ h=>Eq.trans (by kernel_rfl) h,⟨fun _ _ h=>Eq.trans (by kernel_rfl) h,⟨fun _ _ h=>Eq.trans (by kernel_rfl) h,fun _=>⟨fun _ _ h=>Eq.trans (by kernel_rfl) h,fun h=>av N.n _ _ _ _ _ _ _ h,fun h=>av N.n _ _ _ _ _ _ _ h⟩,fun _=>fun h=>av N.n _ _ _ _ _ _ _ h⟩,fun _=>fun h=>av N.n _ _ _ _ _ _ _ h⟩,⟨fun _ _ h=>Eq.trans (by kernel_rfl) h,⟨fun _ _ h=>Eq.trans (by kernel_rfl) h,⟨fun _ _ h=>Eq.trans (by kernel_rfl) h,fun _=>⟨fun _ _ h=>Eq.trans (by kernel_rfl) h,fun h=>av N.n _ _ _ _ _ _ _ h,fun h=>av N.n _ _ _ _ _ _ _ h⟩,fun _=>fun h=>av N.n _ _ _ _ _ _ _ h⟩,fun _=>fun h=>av N.n _ _ _ _ _ _ _ h⟩,⟨fun _ _ h=>Eq.trans (by kernel_rfl) h,fun _=>fun h=>av N.n _ _ _ _ _ _ _ h,fun _=>fun h=>av N.n _ _ _ _ _ _ _ h⟩⟩⟩,⟨fun _ _ h=>Eq.trans (by kernel_rfl) h,⟨fun _ _ h=>Eq.trans (by kernel_rfl) h,⟨fun _ _ h=>Eq.trans (by kernel_rfl) h,⟨fun _ _ h=>Eq.trans (by kernel_rfl) h,fun _=>⟨fun _ _ h=>Eq.trans (by kernel_rfl) h,fun h=>av N.n _ _ _ _ _ _ _ h,fun h=>av N.n _ _ _ _ _ _ _ h⟩,fun _=>fun h=>av N.n _ _ _ _ _ _ _ h⟩,fun _=>fun h=>av N.n _ _ _ _ _ _ _ h⟩,fun _=>fun h=>av N.n _ _ _ _ _ _ _ h⟩,⟨fun _ _ h=>Eq.trans (by kernel_rfl) h,⟨fun _ _ h=>Eq.trans (by kernel_rfl) h,fun _=>fun h=>av N.n _ _ _ _ _ _ _ h,fun _=>fun h=>av N.n _ _ _ _ _ _ _ h⟩,fun _=>fun h=>av N.n _ _ _ _ _ _ _ h⟩⟩⟩,⟨fun _ _ h=>Eq.trans (by kernel_rfl) h,⟨fun _ _ h=>Eq.trans (by kernel_rfl) h,⟨fun _ _ h=>Eq.trans (by kernel_rfl) h,⟨fun _ _ h=>Eq.trans (by kernel_rfl) h,⟨fun _ _ h=>Eq.trans (by kernel_rfl) h,fun _=>⟨fun _ _ h=>Eq.trans (by kernel_rfl) h,fun h=>av N.n _ _ _ _ _ _ _ h,fun h=>av N.n _ _ _ _ _ _ _ h⟩,fun _=>fun h=>av N.n _ _ _ _ _ _ _ h⟩,fun _=>fun h=>av N.n _ _ _ _ _ _ _ h⟩,fun _=>fun h=>av N.n _ _ _ _ _ _ _ h⟩,fun _=>fun h=>av N.n _ _ _ _ _ _ _ h⟩,⟨fun _ _ h=>Eq.trans (by kernel_rfl) h,⟨fun _ _ h=>Eq.trans (by kernel_rfl) h,⟨fun _ _ h=>Eq.trans (by kernel_rfl) h,fun _=>fun h=>av N.n _ _ _ _ _ _ _ h,fun _=>fun h=>av N.n _ _ _ _ _ _ _ h⟩,fun _=>fun h=>av N.n _ _ _ _ _ _ _ h⟩,fun _=>fun h=>av N.n _ _ _ _ _ _ _ h⟩⟩⟩,⟨fun _ _ h=>Eq.trans (by kernel_rfl) h,⟨fun _ _ h=>Eq.trans (by kernel_rfl) h,⟨fun _ _ h=>Eq.trans (by kernel_rfl) h,⟨fun _ _ h=>Eq.trans (by kernel_rfl) h,⟨fun _ _ h=>Eq.trans (by kernel_rfl) h,⟨fun _ _ h=>Eq.trans (by kernel_rfl) h,fun _=>⟨fun _ _ h=>Eq.trans (by kernel_rfl) h,fun h=>av N.n _ _ _ _ _ _ _ h,fun h=>av N.n _ _ _ _ _ _ _ h⟩,fun _=>fun h=>av N.n _ _ _ _ _ _ _ h⟩,fun _=>fun h=>av N.n _ _ _ _ _ _ _ h⟩,fun _=>fun h=>av N.n _ _ _ _ _ _ _ h⟩,fun _=>fun h=>av N.n _ _ _ _ _ _ _ h⟩,fun _=>fun h=>av N.n _ _ _ _ _ _ _ h⟩,⟨fun _ _ h=>Eq.trans (by kernel_rfl) h,⟨fun _ _ h=>Eq.trans (by kernel_rfl) h,⟨fun _ _ h=>Eq.trans (by kernel_rfl) h,⟨fun _ _ h=>Eq.trans (by kernel_rfl) h,fun _=>fun h=>av N.n _ _ _ _ _ _ _ h,fun _=>fun h=>av N.n _ _ _ _ _ _ _ h⟩,fun _=>fun h=>av N.n _ _ _ _ _ _ _ h⟩,fun _=>fun h=>av N.n _ _ _ _ _ _ _ h⟩,fun _=>fun h=>av N.n _ _ _ _ _ _ _ h⟩⟩⟩,⟨fun _ _ h=>Eq.trans (by kernel_rfl) h,⟨fun _ _ h=>Eq.trans (by kernel_rfl) h,⟨fun _ _ h=>Eq.trans (by kernel_rfl) h,⟨fun _ _ h=>Eq.trans (by kernel_rfl) h,fun _=>fun h=>av N.n _ _ _ _ _ _ _ h,⟨fun _ _ h=>Eq.trans (by kernel_rfl) h,fun _=>fun h=>av N.n _ _ _ _ _ _ _ h,fun _=>fun h=>av N.n _ _ _ _ _ _ _ h⟩⟩,⟨fun _ _ h=>Eq.trans (by kernel_rfl) h,⟨fun _ _ h=>Eq.trans (by kernel_rfl) h,fun _=>fun h=>av N.n _ _ _ _ _ _ _ h,fun _=>fun h=>av N.n _ _ _ _ _ _ _ h⟩,fun _=>fun h=>av N.n _ _ _ _ _ _ _ h⟩⟩,⟨fun _ _ h=>Eq.trans (by kernel_rfl) h,⟨fun _ _ h=>Eq.trans (by kernel_rfl) h,⟨fun _ _ h=>Eq.trans (by kernel_rfl) h,fun _=>fun h=>av N.n _ _ _ _ _ _ _ h,fun _=>fun h=>av N.n _ _ _ _ _ _ _ h⟩,fun _=>fun h=>av N.n _ _ _ _ _ _ _ h⟩,fun _=>fun h=>av N.n _ _ _ _ _ _ _ h⟩⟩,⟨fun _ _ h=>Eq.trans (by kernel_rfl) h,⟨fun _ _ h=>Eq.trans (by kernel_rfl) h,⟨fun _ _ h=>Eq.trans (by kernel_rfl) h,⟨fun _ _ h=>Eq.trans (by kernel_rfl) h,fun _=>fun h=>av N.n _ _ _ _ _ _ _ h,fun _=>fun h=>av N.n _ _ _ _ _ _ _ h⟩,fun _=>fun h=>av N.n _ _ _ _ _ _ _ h⟩,fun _=>fun h=>av N.n _ _ _ _ _ _ _ h⟩,fun _=>fun h=>av N.n _ _ _ _ _ _ _ h⟩⟩⟩⟩⟩)
def BF(x1_n:Nat)(x3:Vthread)(x4:Int)(y0:VMask)(y1:List Vthread)(y2:List (Int × Bool)):List (TV EE.T):=[.a (.box 100000 0),.a (.vec (.nam 10) 200001 x1_n),.a (.mpr 100002),.ag (eE EE (.nam 10) x3),.a (.d (.int .i64) x4)]
def xZ(x1_n:Nat)(x3:Vthread)(x4:Int)(y0:VMask)(y1:List Vthread)(y2:List (Int × Bool)):List (Nat × TB EE.T):=[(100000,.cs (eE EE (.nam 8) y0)),(200001,.vec 200001 (.nam 10) y1),(100002,.imap .bool y2)]
theorem nU{N:RecC2}(hN:qR N)(x1_n:Nat)(x3:Vthread)(x4:Int)(y0:VMask)(y1:List Vthread)(y2:List (Int × Bool)){r:PR bo}(h:cy N x1_n x3 x4 y0 y1 y2=some r)(ρ:Rn)(hi:Inj ρ (xZ x1_n x3 x4 y0 y1 y2)):aR Try.prog 38 ((BF x1_n x3 x4 y0 y1 y2).map (TV.to EE.toEnc ρ)) (hTo EE.toEnc ρ (xZ x1_n x3 x4 y0 y1 y2)) (df EE ρ fun u=>u=eM r):=
 fg (ai 0 Try.f38) 89 mixed (Es N hN) Try.func38 (by kernel_rfl) rfl rfl rfl rfl (Fu x1_n x3 x4 y0 y1 y2 h) ρ hi
def ot(N:RecC2)(us:List (TV EE.T))(hs:List (Nat × TB EE.T)):XR EE.T:=
 gdX (fJ us 5) <|
 bnX (aB us 0) fun i0=>
 bnX (aVi (.nam 10) us 1) fun i1=>
 bnX (aVn (.nam 10) us 1) fun x1_n=>
 bnX (aM us 2) fun i2=>
 bnX (aS EE 10 us 3) fun x3=>
 bnX (aD (.int .i64) us 4) fun x4=>
 bnX (bS EE 8 hs i0) fun y0=>
 bnX (bV (.nam 10) hs i1) fun y1=>
 bnX (bI .bool hs i2) fun y2=>
 gdX (b9 hs [i0,i1,i2]) <|
 gdX (hU [i0,i1,i2]) <|
 .mv (cy N x1_n x3 x4 y0 y1 y2) [i0,i1,i2] (mvL [i0,i1,i2] [100000,200001,100002]) 0 (fe i0 i1 i2) (si i0 i1 i2)
theorem mY(N:RecC2)(hN:qR N):XOk Try.prog EE 38 (ot N):=fun us hs=>
 ba fun h1=>aC fun i0 h2=>aC fun i1 h3=>aC fun x1_n h4=>aC fun i2 h5=>aC fun x3 h6=>aC fun x4 h7=>aC fun y0 h8=>aC fun y1 h9=>aC fun y2 h10=>ba fun h11=>ba fun h12=>fun p hz ρ hi=>fW (ex:=[]) (ks:=[100000,200001,100002]) (us':=BF x1_n x3 x4 y0 y1 y2) (h0:=xZ x1_n x3 x4 y0 y1 y2) (ρ':=mR ρ [i0,i1,i2]) (uc:=fe 100000 200001 100002) (u:=fe i0 i1 i2) (hc:=si 100000 200001 100002) (h:=si i0 i1 i2) hi h11 (by kernel_rfl) ⟨iR h2 (by kernel_rfl),K6 h3 h4 (by kernel_rfl),JS h5 (by kernel_rfl),GY h6,mQ h7,cq h1⟩ ⟨(by kernel_rfl),E4 h8,(by kernel_rfl),jf h9 (by kernel_rfl),(by kernel_rfl),J7 h10,trivial⟩ ⟨.inr rfl,.inl rfl,.inr rfl,trivial⟩ h12 (fun hj=>nU hN x1_n x3 x4 y0 y1 y2 hz _ hj) (fun z=>⟨by kernel_rfl,by kernel_rfl,by kernel_rfl,by kernel_rfl⟩)
theorem jW(n0:Nat):∀m,qR ⟨n0,cG n0 m⟩
 |0=>Df n0
 |m+1=>mY ⟨n0,cG n0 m⟩ (jW n0 m)
def gL(N:Nat):List (TV EE.T)→List (Nat × TB EE.T)→XR EE.T:=fA ⟨N,cG N N⟩
theorem iS(N:Nat):XOk Try.prog EE 38 (gL N):=jW N N
end Go.Proofs.Ytlhjbhgkhpbnfaa
namespace Go.Proofs.Ytlhjbhgkhpbnfaa
open Go.RowKit P
set_option linter.unusedSimpArgs false
set_option linter.unusedVariables false
attribute [local irreducible] AS.nf OpV bf Stk lD Fo aR cJ Ey Gk Awp Ko CH m8 kX LS LH tH
set_option maxHeartbeats 8000000
def lfs{T:Nat→Type}:Tree (OL T)→List (TS T)
 |.leaf (.st s)=>[s]
 |.nl [] a b=>lfs a++lfs b
 |_=>[]
def okL{T:Nat→Type}:Tree (OL T)→Bool
 |.leaf (.st _)=>true
 |.nl [] a b=>okL a && okL b
 |_=>false
theorem qf{T:Nat→Type}{R:OL T→Prop}:∀ {t:Tree (OL T)},okL t=true→(∀s∈lfs t,R (.st s))→t.holds R
 |.leaf (.st s),_,h=>h s (List.mem_singleton_self s)
 |.leaf (.pan v),h0,_=>by cases h0
 |.nl [] a b,h0,h=>by
  simp only [okL,Bool.and_eq_true] at h0
  exact⟨fun _=>qf h0.1 fun s hs=>h s (List.mem_append.2 (.inl hs)),qf h0.2 fun s hs=>h s (List.mem_append.2 (.inr hs))⟩
 |.nl (_::_) a b,h0,_=>by cases h0
 |.cond _ _ _,h0,_=>by cases h0
 |.bnd _ _,h0,_=>by cases h0
 |.sm _ _ _,h0,_=>by cases h0
 |.fail,h0,_=>by cases h0
def BM:List Oper:=[{ dst:=some 10,op:=Op.load 28 (Operand.tmp 2),type:=28,pos:= "mask.go:248",after:= #[{ on:=1,ground:=Ground.gcOnly Departure.lateStores }],guard:=none },
 { dst:=none,op:=Op.store 54 (Operand.tmp 0) (Operand.const (Value.pointer none)),type:=0,pos:= "mask.go:248",after:= #[{ on:=0,ground:=Ground.textOnly Departure.lateStores }],guard:=none },
 { dst:=none,op:=Op.store 28 (Operand.tmp 1) (Operand.tmp 10),type:=0,pos:= "mask.go:248",after:= #[{ on:=0,ground:=Ground.data },{ on:=1,ground:=Ground.chain },{ on:=0,ground:=Ground.phase },{ on:=1,ground:=Ground.phase }],guard:=none }]
def cpT(e a:Int):TS EE.T:=⟨11,[(0,.a (.box 100000 0)),(1,.a (.box 100001 0)),(2,.a (.box 100002 0)),(3,.a .tt),(9,.a .tt)],[(100002,.cs [.d (.int .i64) e,.d (.int .i64) a]),(100000,.cs [.raw (.pointer none)]),(100001,.cs [.d (.int .i64) (0:Int),.d (.int .i64) (0:Int)])],[]⟩
def cpH(e a:Int):List (Nat × TB EE.T):=[(100001,.cs [.d (.int .i64) e,.d (.int .i64) a]),(100000,.cs [.raw (.pointer none)]),(100002,.cs [.d (.int .i64) e,.d (.int .i64) a]),(100000,.cs [.raw (.pointer none)]),(100001,.cs [.d (.int .i64) (0:Int),.d (.int .i64) (0:Int)])]
def cpR(k2 k3 kb:Nat):Rn:=⟨fun i=>if i=100000 then⟨k2,false,[]⟩ else if i=100001 then⟨k3,false,[]⟩ else⟨kb,false,[]⟩⟩
theorem CS(e a:Int):okL (C7 TT EE ⟨[],EQT,[],[]⟩ BM (cpT e a))=true:=by kernel_rfl
theorem Ge(e a:Int):(lfs (C7 TT EE ⟨[],EQT,[],[]⟩ BM (cpT e a))).map (·.h)=[cpH e a,cpH e a] :=by kernel_rfl
def faultV(e a:Int):Value:=.iface 28 (.agg #[.int .i64 e,.int .i64 a])
set_option maxRecDepth 100000 in
theorem Ix(k2 k3:Nat)(u0 c0 c1:AV)(hne:k2≠k3):tH Try.prog 33 [.v (.pointer (some ⟨k2,0,none⟩)),.v (.pointer (some ⟨k3,0,none⟩))] [(k2,[u0]),(k3,[c0,c1])] .returning .returning (fun out H'=>out=.ret (.tu [])∧look H' k2=some [u0] ∧look H' k3=some [c0,c1]):=by
 unfold tH
 refine uf Try.func33 rfl rfl rfl (fun X=>.v .nilIface) rfl rfl Ir ?_
 dsimp only [slotsOf,List.drop_succ_cons,List.drop_zero]
 repeat (first
  | ((first|apply yq|apply tb);(next=>(first| (simp only [go_sem,Nat.reduceBEq,Nat.reduceEqDiff,reduceIte,reduceCtorEq,String.reduceEq,Nat.reduceAdd,Int.reduceToNat];exact rfl)|exact rfl)))
  | ((first|apply qc rfl rfl rfl rfl|apply yN rfl rfl rfl);(next=>(first
   | (refine mU (T:=TT) rfl ?_;(first|exact trivial|omega| (simp [NFL] <;> omega)))
   | (apply opk ⟨_,.move _,_,_,_,_⟩;first|exact eP (ev _) (.inl rfl)|fail)
   | (apply opk ⟨_,.load _ _,_,_,_,_⟩;first|exact l6 (T:=TT) rfl rfl rfl|exact lI (T:=TT) rfl rfl rfl rfl|fail)
   | (apply opk ⟨_,.typeAssert _ _ _ _,_,_,_,_⟩;first|exact lW (T:=TT) rfl rfl rfl rfl|exact lT (T:=TT) rfl rfl rfl rfl|fail)
   |fail)))
  | (refine arO _ ?_;first
   | (refine arO ⟨_,.move _,_,_,_,_⟩ ?_;first|refine jh rfl rfl rfl rfl ?_|fail)
   | (refine arO ⟨_,.assign _,_,_,_,_⟩ ?_;first
    |refine g6 rfl rfl rfl rfl ?_
    |refine y8 rfl rfl rfl rfl (eP (ev _) (.inr rfl)) ?_
    |fail)
   | (refine arO ⟨_,.load _ _,_,_,_,_⟩ ?_;first
    |refine gC (T:=TT) rfl rfl rfl rfl ca rfl rfl rfl rfl ?_
    | (refine gC (T:=TT) rfl rfl rfl rfl (ep ?_ ca) rfl rfl rfl rfl ?_;(next=>(first|assumption| (intro e;exact absurd e.symm (by assumption)))))
    | (refine gC (T:=TT) rfl rfl rfl rfl (ep ?_ (ep ?_ ca)) rfl rfl rfl rfl ?_;(next=>(first|assumption| (intro e;exact absurd e.symm (by assumption))));(next=>(first|assumption| (intro e;exact absurd e.symm (by assumption)))))
    |fail)
   | (refine arO ⟨_,.store _ _ _,_,_,_,_⟩ ?_;first
    | (apply po rfl rfl;(next=>(first
     | (apply iN (T:=TT) rfl rfl rfl;(next=>(first
      |rfl
      |exact ca
      |assumption
      | ((repeat (first|exact ca|assumption| (apply ep;(next=>(first|assumption| (intro e;exact absurd e.symm (by assumption))|fail)))|fail));done)
      |fail));(next=>rfl);(next=>rfl);(next=>rfl))
     | (apply fP (T:=TT) rfl;(next=>(first
      |rfl
      |exact ca
      |assumption
      | ((repeat (first|exact ca|assumption| (apply ep;(next=>(first|assumption| (intro e;exact absurd e.symm (by assumption))|fail)))|fail));done)
      |fail));(next=>rfl);(next=>rfl);(next=>rfl);(next=>rfl);(next=>rfl);(next=>rfl);(next=>rfl);(next=>rfl))
     |fail)))
    |fail)
   | (refine arO ⟨_,.alloc _,_,_,_,_⟩ ?_;first
    | (refine gW rfl rfl (ne (T:=TT) rfl rfl ?_);intro kb hkb;(repeat (have hkn:=(nb hkb).1;replace hkb:=(nb hkb).2));(try have hkl:=l8 hkb);clear hkb;refine J3 ?_)
    |fail)
   |fail)
  | (apply yN rfl rfl rfl;(next=>(first
   |exact fL rfl (.inl rfl)
   |exact fL rfl (.inr rfl)
   |exact pW rfl
   | (apply gU (T:=TT) rfl;(next=>(first
    |rfl
    |exact ca
    |assumption
    | ((repeat (first|exact ca|assumption| (apply ep;(next=>(first|assumption| (intro e;exact absurd e.symm (by assumption))|fail)))|fail));done)
    |fail));(next=>rfl);(next=>rfl);(next=>rfl);(next=>rfl))
   |fail)))
  |refine qo ?_
  | (refine arE ?_;refine nh [0,1,2,3,9] rfl ?_)
  |refine i8 ?_
  |refine kI ?_
  |refine ng ?_
  |refine qh ?_
  |refine m0 rfl ?_
  | (refine arC (.cond _ _ _) ?_;first
   | (refine fc rfl ?_ ?_;(next=>(first|rfl| (simp only [decide_eq_true_eq,beq_iff_eq,bne_iff_ne,ge_iff_le,gt_iff_lt,ne_eq,Bool.not_eq_true',decide_eq_false_iff_not];omega))))
   | (refine eH rfl ?_ ?_;(next=>(first
    |rfl
    | (simp only [decide_eq_false_iff_not,beq_eq_false_iff_ne,bne_eq_false_iff_eq,ge_iff_le,gt_iff_lt,ne_eq,Bool.not_eq_false',decide_eq_true_eq];omega))))
   |fail)
  |refine nI ?_
  |refine kP ?_
  |refine jB rfl ?_
  |refine jG ?_
  |refine jz ?_
  | (refine arC .ret ?_;refine py [] ?_)
  |refine kK ?_
  |refine kF ?_
  |refine kS ?_
  |refine pj ?_
  | (refine arC (.region _ _ true) ?_;refine xm (Bz mixed (by kernel_rfl) rfl ?_))
  |refine t1 rfl rfl rfl ?_
  | (refine LE ?_;refine nh [0,1,2,3,9] rfl ?_)
  |fail)
 rename_i hkn2
 exact Ed ⟨_,rfl,rfl,ep hkn2 ca,ep hkn (ep (fun e=>hne e.symm) ca)⟩
set_option maxRecDepth 100000 in
theorem HQ(k2 k3:Nat)(e a:Int)(hne:k2≠k3):tH Try.prog 33 [.v (.pointer (some ⟨k2,0,none⟩)),.v (.pointer (some ⟨k3,0,none⟩))] [(k2,[.v (.pointer none)]),(k3,[.v (.int .i64 0),.v (.int .i64 0)])] (.panicking [⟨faultV e a,false,false⟩]) (.panicking [⟨faultV e a,true,false⟩]) (fun out H'=>out=.ret (.tu [])∧look H' k2=some [.v (.pointer none)] ∧look H' k3=some [.v (.int .i64 e),.v (.int .i64 a)]):=by
 unfold tH
 refine uf (ru:=.ifc 28 (.ag [.v (.int .i64 e),.v (.int .i64 a)])) Try.func33 rfl rfl rfl (fun X=>.ifc _ _ _ (.ag _ #[_,_] rfl (fun i u x hu hx=>by
  match i,hu,hx with
  |0,hu,hx=>simp at hu hx;subst hu hx;exact .v _
  |1,hu,hx=>simp at hu hx;subst hu hx;exact .v _))) rfl rfl (Jp (faultV e a)) ?_
 dsimp only [slotsOf,List.drop_succ_cons,List.drop_zero]
 repeat (first
  | ((first|apply yq|apply tb);(next=>(first| (simp only [go_sem,Nat.reduceBEq,Nat.reduceEqDiff,reduceIte,reduceCtorEq,String.reduceEq,Nat.reduceAdd,Int.reduceToNat];exact rfl)|exact rfl)))
  | (apply qc rfl rfl rfl rfl;(next=>(first
   | (refine mU (T:=TT) rfl ?_;(first|exact trivial|omega| (simp [NFL] <;> omega)))
   | (apply opk ⟨_,.move _,_,_,_,_⟩;first|exact eP (ev _) (.inl rfl)|fail)
   | (apply opk ⟨_,.load _ _,_,_,_,_⟩;first|exact l6 (T:=TT) rfl rfl rfl|exact lI (T:=TT) rfl rfl rfl rfl|fail)
   | (apply opk ⟨_,.typeAssert _ _ _ _,_,_,_,_⟩;first|exact lW (T:=TT) rfl rfl rfl rfl|exact lT (T:=TT) rfl rfl rfl rfl|fail)
   |fail)))
  | (refine arO _ ?_;first
   | (refine arO ⟨_,.move _,_,_,_,_⟩ ?_;first|refine jh rfl rfl rfl rfl ?_|fail)
   | (refine arO ⟨_,.assign _,_,_,_,_⟩ ?_;first
    |refine g6 rfl rfl rfl rfl ?_
    |refine y8 rfl rfl rfl rfl (eP (ev _) (.inr rfl)) ?_
    |fail)
   | (refine arO ⟨_,.load _ _,_,_,_,_⟩ ?_;first
    |refine gC (T:=TT) rfl rfl rfl rfl ca rfl rfl rfl rfl ?_
    | (refine gC (T:=TT) rfl rfl rfl rfl (ep ?_ ca) rfl rfl rfl rfl ?_;(next=>(first|assumption| (intro e;exact absurd e.symm (by assumption)))))
    | (refine gC (T:=TT) rfl rfl rfl rfl (ep ?_ (ep ?_ ca)) rfl rfl rfl rfl ?_;(next=>(first|assumption| (intro e;exact absurd e.symm (by assumption))));(next=>(first|assumption| (intro e;exact absurd e.symm (by assumption)))))
    |fail)
   | (refine arO ⟨_,.store _ _ _,_,_,_,_⟩ ?_;first
    | (apply po rfl rfl;(next=>(first
     | (apply iN (T:=TT) rfl rfl rfl;(next=>(first
      |rfl
      |exact ca
      |assumption
      | ((repeat (first|exact ca|assumption| (apply ep;(next=>(first|assumption| (intro e;exact absurd e.symm (by assumption))|fail)))|fail));done)
      |fail));(next=>rfl);(next=>rfl);(next=>rfl))
     | (apply fP (T:=TT) rfl;(next=>(first
      |rfl
      |exact ca
      |assumption
      | ((repeat (first|exact ca|assumption| (apply ep;(next=>(first|assumption| (intro e;exact absurd e.symm (by assumption))|fail)))|fail));done)
      |fail));(next=>rfl);(next=>rfl);(next=>rfl);(next=>rfl);(next=>rfl);(next=>rfl);(next=>rfl);(next=>rfl))
     |fail)))
    |fail)
   | (refine arO ⟨_,.alloc _,_,_,_,_⟩ ?_;first
    | (refine gW rfl rfl (ne (T:=TT) rfl rfl ?_);intro kb hkb;(repeat (have hkn:=(nb hkb).1;replace hkb:=(nb hkb).2));(try have hkl:=l8 hkb);clear hkb;refine J3 ?_)
    |fail)
   |fail)
  |refine qo ?_
  | (refine arE ?_;refine nh [0,1,2,3,9] rfl ?_)
  |refine i8 ?_
  |refine kI ?_
  |refine ng ?_
  |refine qh ?_
  |refine m0 rfl ?_
  | (refine arC (.cond _ _ _) ?_;first
   | (refine fc rfl ?_ ?_;(next=>(first|rfl| (simp only [decide_eq_true_eq,beq_iff_eq,bne_iff_ne,ge_iff_le,gt_iff_lt,ne_eq,Bool.not_eq_true',decide_eq_false_iff_not];omega))))
   | (refine eH rfl ?_ ?_;(next=>(first
    |rfl
    | (simp only [decide_eq_false_iff_not,beq_eq_false_iff_ne,bne_eq_false_iff_eq,ge_iff_le,gt_iff_lt,ne_eq,Bool.not_eq_false',decide_eq_true_eq];omega))))
   |fail)
  |refine nI ?_
  |refine kP ?_
  |refine jB rfl ?_
  |refine jG ?_
  |refine jz ?_
  | (refine arC .ret ?_;refine py [] ?_)
  |refine kK ?_
  |refine kF ?_
  |refine kS ?_
  |refine pj ?_
  |fail)
 rename_i hkn2
 have hinj:Inj (cpR k2 k3 kb) (cpT e a).h:=by
  intro p hp q hq
  simp only [cpT,List.mem_cons,List.not_mem_nil,or_false] at hp hq
  rcases hp with rfl|rfl|rfl<;> rcases hq with rfl|rfl|rfl<;> refine⟨fun _ _ h=> ?_,fun h=> ?_⟩<;> first|rfl| (exfalso;revert h;simp [cpR,Rn.b];omega)| (exfalso;revert h;simp)
 refine BA (Y:=TT) (E:=EE) (G:=⟨[],EQT,[],[]⟩) (ρ:=cpR k2 k3 kb) (σ:=cpT e a) (ops:=BM) mixed (GOk.nil dx) hinj (qf (CS e a) fun s hs=> ?_)
 have hs2:s.h=cpH e a:=by
  have:s.h∈(lfs (C7 TT EE ⟨[],EQT,[],[]⟩ BM (cpT e a))).map (·.h):=List.mem_map_of_mem hs
  rw [Ge] at this
  simpa using this
 intro ρ' hi' ha
 have e0:ρ' 100000=k2:=by
  have:=ha 100000 rfl
  show(ρ'.k 100000).b=k2
  rw [this];rfl
 have e1:ρ' 100001=k3:=by
  have:=ha 100001 rfl
  show(ρ'.k 100001).b=k3
  rw [this];rfl
 have hh:(TS.to EE.toEnc ρ' s).h=hTo EE.toEnc ρ' (cpH e a):=by rw [← hs2];rfl
 refine Ed ⟨.tu [],rfl,rfl,?_,?_⟩
 ·rw [hh,← e0]
  exact ep (fun e=>hne (by rw [← e0,← e1];exact e)) ca
 ·rw [hh,← e1]
  exact ca
end Go.Proofs.Ytlhjbhgkhpbnfaa
