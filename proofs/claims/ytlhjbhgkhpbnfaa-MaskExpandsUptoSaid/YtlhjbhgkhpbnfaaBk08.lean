import Derived.Test.YtlhjbhgkhpbnfaaBk07
import Derived.ProofKit
import Derived.OpenShut
import Derived.Deep.Slices
import Derived.Test.YtlhjbhgkhpbnfaaRows
import Derived.WalkKit
import Derived.WalkSpells
import Derived.WalkLawsBesides
import Derived.Lib.VarintBits
import Derived.Lib.BufferRead
import Derived.Lib.Hide
set_option linter.unusedSimpArgs false
set_option linter.unusedVariables false
namespace Go.Proofs.Ytlhjbhgkhpbnfaa
open Go.RowKit P
set_option linter.unusedVariables false
set_option linter.unusedSimpArgs false
set_option maxRecDepth 100000
def i6(r:Bool):TV EE.T:=.a (.d .bool r)
def yH(r:Bool):RL EE.T:=.ret (i6 r) []
def MP:Lvs:=⟨[],[],[],[],false,[],[],[],[]⟩
def Nf:List ResultVar:=[.tmp 2]
def NK(N:Nat):Gam EE:=⟨[],EQT,[],[]⟩
theorem LQ(N:Nat):GOk Try.prog TT EE (NK N):=GOk.nil dh
def Mi(c:Code):List It2:=[.c c]
def Ln(x0:UInt8):TS EE.T:=⟨9,[(0,.a (.d .byte x0))],[],[]⟩
abbrev Nr(N:Nat)(r:Bool)(k:List It2)(s:TS EE.T):Prop:=f8 (Y:=TT) EE (NK N) MP Nf (fun u=>u=yH r) k s
def K5(x:Bool):Tree (Lf EE.T × Option Bool):=.leaf (.done (yH x),some x)
theorem L6{N:Nat}{r:Bool}(x0:UInt8)(h:dH N x0=some r):Nr N r (Mi (aa 0 Try.f32)) (Ln x0):=
 aJ (m:=4000) (t:=
 .cond (decide ((b2i x0)≥(b2i 48)))
 (
  K5 (decide ((b2i x0)≤(b2i 57))))
 (
  K5 false)) (by kernel_rfl) (by kernel_rfl) h (⟨be (enc:=yH) rfl,be (enc:=yH) rfl⟩)
theorem rA{N:Nat}(x0:UInt8){r:Bool}(h:dH N x0=some r)(ρ:Rn):aT Try.prog 32 (([.a (.d .byte x0)] :List (TV EE.T)).map (TV.to EE.toEnc ρ)) [] (fun out H=>out=.ret ((i6 r).to EE.toEnc ρ)∧H=[]):=
 (mF (aa 0 Try.f32) 9 mixed (LQ N) Try.func32 (by kernel_rfl) rfl rfl rfl rfl (L6 x0 h) ρ).mono fun out H h=>cS.ret rfl h
def i8(N:Nat):List (TV EE.T)→PV EE.T
 | [u0] =>match iA .byte u0 with
   |some x0=>.opt (dH N x0) i6
   |_=>.bad
 |_=>.bad
theorem qu(N:Nat)(us:List (TV EE.T)):(i8 N us).ok fun u=>∀ρ,aT Try.prog 32 (us.map (TV.to EE.toEnc ρ)) [] (fun out H=>out=.ret (u.to EE.toEnc ρ)∧H=[]):=by
 unfold i8
 split
 ·split
  ·rename_i h0
   intro z hz ρ;refine eH ?_ (rA _ hz ρ);exact⟨cN h0 ρ,trivial⟩
  ·trivial
 ·trivial
def j5(r:aH):TV EE.T:=.tu [.a (.d (.sl .str) r.1),.a (.d (.sl (.int .i64)) r.2.1),.a (.d .bool r.2.2)]
def oV(r:aH):RL EE.T:=.ret (j5 r) []
def MX:Lvs:=⟨[(5,⟨[(0,false),(5,false),(6,false),(7,false)],[],[],[]⟩),(12,⟨[(0,false),(5,false),(6,false),(7,false)],[],[],[]⟩),(13,⟨[(0,false),(5,false),(6,false),(7,false)],[],[],[]⟩),(14,⟨[(0,false),(5,false),(6,false),(7,false)],[],[],[]⟩),(15,⟨[(0,false),(5,false),(6,false),(7,false)],[],[],[]⟩),(16,⟨[(0,false),(5,false),(6,false),(7,false)],[],[],[]⟩)],[(4,⟨[(0,false),(5,false),(6,false),(7,false)],[],[],[]⟩)],[5,12,14,16],[],false,[],[],[],[]⟩
def MD:List ResultVar:=[.tmp 2,.tmp 3,.tmp 4]
def Ns(N:Nat):Gam EE:=⟨[⟨32,i8 N⟩],EQT,[],[]⟩
theorem Mv(N:Nat):GOk Try.prog TT EE (Ns N):=GOk.cons (qu N) (GOk.nil dh)
def Is(c:Code):List It2:=atR 5 c
def Fy(x0:List UInt8)(x5:List (List UInt8))(x6:List Int)(x7:Int):TS EE.T:=⟨112,[(0,.a (.d .str x0)),(5,.a (.own .str x5)),(6,.a (.own (.int .i64) x6)),(7,.a (.d (.int .i64) x7))],[],[]⟩
def CO(c:Code):List It2:=atR 16 c
def Ds(x0:List UInt8)(x5:List (List UInt8))(x6:List Int)(x7:Int):TS EE.T:=⟨112,[(0,.a (.d .str x0)),(5,.a (.own .str x5)),(6,.a (.own (.int .i64) x6)),(7,.a (.d (.int .i64) x7))],[],[]⟩
def Cs(c:Code):List It2:=atR 14 c
def C4(x0:List UInt8)(x5:List (List UInt8))(x6:List Int)(x7:Int):TS EE.T:=⟨112,[(0,.a (.d .str x0)),(5,.a (.own .str x5)),(6,.a (.own (.int .i64) x6)),(7,.a (.d (.int .i64) x7))],[],[]⟩
def Dc(c:Code):List It2:=atR 12 c
def Dn(x0:List UInt8)(x5:List (List UInt8))(x6:List Int)(x7:Int):TS EE.T:=⟨112,[(0,.a (.d .str x0)),(5,.a (.own .str x5)),(6,.a (.own (.int .i64) x6)),(7,.a (.d (.int .i64) x7))],[],[]⟩
def rF(c:Code):List It2:=atL 4 c
def qU(x0:List UInt8)(x5:List (List UInt8))(x6:List Int)(x7:Int):TS EE.T:=⟨112,[(0,.a (.d .str x0)),(5,.a (.own .str x5)),(6,.a (.own (.int .i64) x6)),(7,.a (.d (.int .i64) x7))],[],[]⟩
def Lt(c:Code):List It2:=[.c c]
def Lj(x0:List UInt8):TS EE.T:=⟨112,[(0,.a (.d .str x0))],[],[]⟩
def rl(c:Code)(f:(List UInt8)→(List (List UInt8))→(List Int)→Int→Option aH)(x0:List UInt8)(x5:List (List UInt8))(x6:List Int)(x7:Int):Tree (Lf EE.T × Option aH):=.leaf (.go (Is c) (Fy x0 x5 x6 x7),f x0 x5 x6 x7)
def xQ(c:Code)(f:(List UInt8)→(List (List UInt8))→(List Int)→Int→Option aH)(x0:List UInt8)(x5:List (List UInt8))(x6:List Int)(x7:Int):Tree (Lf EE.T × Option aH):=.leaf (.go (CO c) (Ds x0 x5 x6 x7),f x0 x5 x6 x7)
def B3(c:Code)(f:(List UInt8)→(List (List UInt8))→(List Int)→Int→Option aH)(x0:List UInt8)(x5:List (List UInt8))(x6:List Int)(x7:Int):Tree (Lf EE.T × Option aH):=.leaf (.go (Cs c) (C4 x0 x5 x6 x7),f x0 x5 x6 x7)
def Cx(c:Code)(f:(List UInt8)→(List (List UInt8))→(List Int)→Int→Option aH)(x0:List UInt8)(x5:List (List UInt8))(x6:List Int)(x7:Int):Tree (Lf EE.T × Option aH):=.leaf (.go (Dc c) (Dn x0 x5 x6 x7),f x0 x5 x6 x7)
def HI(c:Code)(f:(List UInt8)→(List (List UInt8))→(List Int)→Int→Option aH)(x0:List UInt8)(x5:List (List UInt8))(x6:List Int)(x7:Int):Tree (Lf EE.T × Option aH):=.leaf (.go (rF c) (qU x0 x5 x6 x7),f x0 x5 x6 x7)
abbrev oz(N:Nat)(r:aH)(k:List It2)(s:TS EE.T):Prop:=f8 (Y:=TT) EE (Ns N) MX MD (fun u=>u=oV r) k s
def AC(x:aH):Tree (Lf EE.T × Option aH):=.leaf (.done (oV x),some x)
theorem qC{N:Nat}{r:aH}{k4:(List UInt8)→(List (List UInt8))→(List Int)→Int→Option aH}(hk4:∀x0 x5 x6 x7,k4 x0 x5 x6 x7=some r→oz N r (rF (aa 0 Try.f15)) (qU x0 x5 x6 x7))(n:Nat)(x0:List UInt8)(x5:List (List UInt8))(x6:List Int)(x7:Int)(h:co N k4 n x0 x5 x6 x7=some r):oz N r (Is (aa 0 Try.f15)) (Fy x0 x5 x6 x7):=
 aJ (m:=4000) (t:=
 HI (aa 0 Try.f15) k4 x0 x5 x6 (w64 (x7+1))) (by kernel_rfl) (by kernel_rfl) h (fun h=>hk4 _ _ _ _ h)
theorem xD{N:Nat}{r:aH}{k4:(List UInt8)→(List (List UInt8))→(List Int)→Int→Option aH}(hk4:∀x0 x5 x6 x7,k4 x0 x5 x6 x7=some r→oz N r (rF (aa 0 Try.f15)) (qU x0 x5 x6 x7))(n:Nat)(x0:List UInt8)(x5:List (List UInt8))(x6:List Int)(x7:Int)(h:fd N k4 n x0 x5 x6 x7=some r):oz N r (CO (aa 0 Try.f15)) (Ds x0 x5 x6 x7):=
 aJ (m:=4000) (t:=
 rl (aa 0 Try.f15) (co N k4 n) x0 x5 x6 (w64 (x7+2))) (by kernel_rfl) (by kernel_rfl) h (fun h=>qC hk4 n _ _ _ _ h)
theorem Cf{N:Nat}{r:aH}{k4:(List UInt8)→(List (List UInt8))→(List Int)→Int→Option aH}(hk4:∀x0 x5 x6 x7,k4 x0 x5 x6 x7=some r→oz N r (rF (aa 0 Try.f15)) (qU x0 x5 x6 x7))(n:Nat)(x0:List UInt8)(x5:List (List UInt8))(x6:List Int)(x7:Int)(h:dF N k4 n x0 x5 x6 x7=some r):oz N r (Cs (aa 0 Try.f15)) (C4 x0 x5 x6 x7):=
 aJ (m:=4000) (t:=
 .cond (decide ((w64 (x7+2)) < (x0.length:Int)))
 (
  .bnd (ap x0 x7) fun z17=>
  .cond ((b2i z17)==(b2i 123))
  (
   .bnd (ap x0 (w64 (x7+1))) fun z18=>
   .bnd (dH N z18) fun z19=>
   .cond (z19)
   (
    .bnd (ap x0 (w64 (x7+2))) fun z20=>
    .cond ((b2i z20)==(b2i 125))
    (
     .bnd (ap x0 (w64 (x7+1))) fun z21=>
     .nl (([] :List Nat))
     (
      .nl (([] :List Nat))
      (
       .bnd (eE 16 x5 ([([] :List UInt8)] :List (List UInt8))) fun z22=>
       .bnd (eE 8 x6 ([w64 ((w64 (b2i z21)) - 48)] :List Int)) fun z23=>
       xQ (aa 0 Try.f15) (fd N k4 n) x0 z22 z23 x7)
      (
       .bnd (eE 16 x5 ([([] :List UInt8)] :List (List UInt8))) fun z24=>
       .bnd (eE 8 x6 ([w64 ((w64 (b2i z21)) - 48)] :List Int)) fun z25=>
       xQ (aa 0 Try.f15) (fd N k4 n) x0 z24 z25 x7))
     (
      .bnd (eE 16 x5 ([([] :List UInt8)] :List (List UInt8))) fun z26=>
      .bnd (eE 8 x6 ([w64 ((w64 (b2i z21)) - 48)] :List Int)) fun z27=>
      xQ (aa 0 Try.f15) (fd N k4 n) x0 z26 z27 x7))
    (
     AC (([] :List (List UInt8)),([] :List Int),false)))
   (
    AC (([] :List (List UInt8)),([] :List Int),false)))
  (
   AC (([] :List (List UInt8)),([] :List Int),false)))
 (
  AC (([] :List (List UInt8)),([] :List Int),false))) (by kernel_rfl) (by kernel_rfl) h (⟨fun _=>⟨fun _=>fun _=>⟨fun _=>⟨fun _=>⟨fun _ _ h=>Eq.trans (by kernel_rfl) h,⟨fun _ _ h=>Eq.trans (by kernel_rfl) h,fun _=>fun _=>fun h=>xD hk4 n _ _ _ _ h,fun _=>fun _=>fun h=>xD hk4 n _ _ _ _ h⟩,fun _=>fun _=>fun h=>xD hk4 n _ _ _ _ h⟩,be (enc:=oV) rfl⟩,be (enc:=oV) rfl⟩,be (enc:=oV) rfl⟩,be (enc:=oV) rfl⟩)
theorem CT{N:Nat}{r:aH}{k4:(List UInt8)→(List (List UInt8))→(List Int)→Int→Option aH}(hk4:∀x0 x5 x6 x7,k4 x0 x5 x6 x7=some r→oz N r (rF (aa 0 Try.f15)) (qU x0 x5 x6 x7))(n:Nat)(x0:List UInt8)(x5:List (List UInt8))(x6:List Int)(x7:Int)(h:dG N k4 n x0 x5 x6 x7=some r):oz N r (Dc (aa 0 Try.f15)) (Dn x0 x5 x6 x7):=
 aJ (m:=4000) (t:=
 .cond (decide (x7 < (x0.length:Int)))
 (
  .bnd (ap x0 x7) fun z8=>
  .bnd (dH N z8) fun z9=>
  .cond (z9)
  (
   .bnd (ap x0 x7) fun z10=>
   .nl (([] :List Nat))
   (
    .nl (([] :List Nat))
    (
     .bnd (eE 16 x5 ([([] :List UInt8)] :List (List UInt8))) fun z11=>
     .bnd (eE 8 x6 ([w64 ((w64 (b2i z10)) - 48)] :List Int)) fun z12=>
     rl (aa 0 Try.f15) (co N k4 n) x0 z11 z12 x7)
    (
     .bnd (eE 16 x5 ([([] :List UInt8)] :List (List UInt8))) fun z13=>
     .bnd (eE 8 x6 ([w64 ((w64 (b2i z10)) - 48)] :List Int)) fun z14=>
     rl (aa 0 Try.f15) (co N k4 n) x0 z13 z14 x7))
   (
    .bnd (eE 16 x5 ([([] :List UInt8)] :List (List UInt8))) fun z15=>
    .bnd (eE 8 x6 ([w64 ((w64 (b2i z10)) - 48)] :List Int)) fun z16=>
    rl (aa 0 Try.f15) (co N k4 n) x0 z15 z16 x7))
  (
   B3 (aa 0 Try.f15) (dF N k4 n) x0 x5 x6 x7))
 (
  B3 (aa 0 Try.f15) (dF N k4 n) x0 x5 x6 x7)) (by kernel_rfl) (by kernel_rfl) h (⟨fun _=>fun _=>⟨fun _=>⟨fun _ _ h=>Eq.trans (by kernel_rfl) h,⟨fun _ _ h=>Eq.trans (by kernel_rfl) h,fun _=>fun _=>fun h=>qC hk4 n _ _ _ _ h,fun _=>fun _=>fun h=>qC hk4 n _ _ _ _ h⟩,fun _=>fun _=>fun h=>qC hk4 n _ _ _ _ h⟩,fun h=>Cf hk4 n _ _ _ _ h⟩,fun h=>Cf hk4 n _ _ _ _ h⟩)
theorem uB{N:Nat}{r:aH}:∀ (n:Nat) (x0:List UInt8) (x5:List (List UInt8)) (x6:List Int) (x7:Int),bh N n x0 x5 x6 x7=some r→oz N r (rF (aa 0 Try.f15)) (qU x0 x5 x6 x7)
 |0,_,_,_,_,h=>by cases h
 |n+1,x0,x5,x6,x7,h=>aJ (m:=4000) (t:=
  .cond (decide (x7 < (x0.length:Int)))
  (
   .bnd (ap x0 x7) fun z1=>
   .cond ((b2i z1) != (b2i 36))
   (
    .bnd (gq x0 x7 (w64 (x7+1))) fun z2=>
    .bnd (eE 16 x5 ([z2] :List (List UInt8))) fun z3=>
    .bnd (eE 8 x6 ([(-1)] :List Int)) fun z4=>
    rl (aa 0 Try.f15) (co N (bh N n) n) x0 z3 z4 x7)
   (
    .cond (decide ((w64 (x7+1)) < (x0.length:Int)))
    (
     .bnd (ap x0 (w64 (x7+1))) fun z5=>
     .cond ((b2i z5)==(b2i 36))
     (
      .bnd (eE 16 x5 ([([36] :List UInt8)] :List (List UInt8))) fun z6=>
      .bnd (eE 8 x6 ([(-1)] :List Int)) fun z7=>
      rl (aa 0 Try.f15) (co N (bh N n) n) x0 z6 z7 (w64 (x7+1)))
     (
      Cx (aa 0 Try.f15) (dG N (bh N n) n) x0 x5 x6 (w64 (x7+1))))
    (
     Cx (aa 0 Try.f15) (dG N (bh N n) n) x0 x5 x6 (w64 (x7+1)))))
  (
   AC (x5,x6,true))) (by kernel_rfl) (by kernel_rfl) h (⟨fun _=>⟨fun _=>fun _=>fun _=>fun h=>qC (uB n) n _ _ _ _ h,⟨fun _=>⟨fun _=>fun _=>fun h=>qC (uB n) n _ _ _ _ h,fun h=>CT (uB n) n _ _ _ _ h⟩,fun h=>CT (uB n) n _ _ _ _ h⟩⟩,be (enc:=oV) rfl⟩)
theorem Mj{N:Nat}{r:aH}(x0:List UInt8)(h:eq N x0=some r):oz N r (Lt (aa 0 Try.f15)) (Lj x0):=
 aJ (m:=4000) (t:=
 HI (aa 0 Try.f15) (bh N N) x0 ([] :List (List UInt8)) ([] :List Int) 0) (by kernel_rfl) (by kernel_rfl) h (fun h=>uB N _ _ _ _ h)
theorem sr{N:Nat}(x0:List UInt8){r:aH}(h:eq N x0=some r)(ρ:Rn):aT Try.prog 15 (([.a (.d .str x0)] :List (TV EE.T)).map (TV.to EE.toEnc ρ)) [] (fun out H=>out=.ret ((j5 r).to EE.toEnc ρ)∧H=[]):=
 (mF (aa 0 Try.f15) 112 mixed (Mv N) Try.func15 (by kernel_rfl) rfl rfl rfl rfl (Mj x0 h) ρ).mono fun out H h=>cS.ret rfl h
def io(N:Nat):List (TV EE.T)→PV EE.T
 | [u0] =>match iA .str u0 with
   |some x0=>.opt (eq N x0) j5
   |_=>.bad
 |_=>.bad
theorem lF(N:Nat)(us:List (TV EE.T)):(io N us).ok fun u=>∀ρ,aT Try.prog 15 (us.map (TV.to EE.toEnc ρ)) [] (fun out H=>out=.ret (u.to EE.toEnc ρ)∧H=[]):=by
 unfold io
 split
 ·split
  ·rename_i h0
   intro z hz ρ;refine eH ?_ (sr _ hz ρ);exact⟨cN h0 ρ,trivial⟩
  ·trivial
 ·trivial
def jO(r:aR):TV EE.T:=.tu [.a (.d .str r.1),.a (.d (.int .i64) r.2)]
def xU(r:aR):RL EE.T:=.ret (jO r) []
def Nj:Lvs:=⟨[(5,⟨[(1,false),(2,false),(3,false),(10,false),(11,false),(13,false),(14,false),(15,false)],[],[],[]⟩),(9,⟨[(1,false),(2,false),(3,false),(10,false),(11,false),(13,false),(14,false),(15,false),(16,false)],[],[],[]⟩),(11,⟨[(1,false),(2,false),(3,false),(10,false),(11,false),(13,false),(14,false),(15,false),(16,false)],[],[],[]⟩)],[(4,⟨[(1,false),(2,false),(3,false),(10,false),(11,false),(13,false),(14,false),(15,false)],[],[],[]⟩)],[5,9,11],[],false,[],[],[],[]⟩
def Nz:List ResultVar:=[.tmp 8,.tmp 9]
def NA(N:Nat):Gam EE:=⟨[⟨15,io N⟩],EQT,[],[]⟩
theorem LJ(N:Nat):GOk Try.prog TT EE (NA N):=GOk.cons (lF N) (GOk.nil dh)
def Iy(c:Code):List It2:=atR 5 c
def Ft(x1:List UInt8)(x2:List (List UInt8))(x3:Int)(x10:List (List UInt8))(x11:List Int)(x13:List UInt8)(x14:Int)(x15:Int):TS EE.T:=⟨81,[(1,.a (.d .str x1)),(2,.a (.d (.sl .str) x2)),(3,.a (.d (.int .i64) x3)),(10,.a (.d (.sl .str) x10)),(11,.a (.d (.sl (.int .i64)) x11)),(13,.a (.d .str x13)),(14,.a (.d (.int .i64) x14)),(15,.a (.d (.int .i64) x15))],[],[]⟩
def CV(c:Code):List It2:=atR 11 c
def Dk(x1:List UInt8)(x2:List (List UInt8))(x3:Int)(x10:List (List UInt8))(x11:List Int)(x13:List UInt8)(x14:Int)(x15:Int)(x16:List UInt8):TS EE.T:=⟨81,[(1,.a (.d .str x1)),(2,.a (.d (.sl .str) x2)),(3,.a (.d (.int .i64) x3)),(10,.a (.d (.sl .str) x10)),(11,.a (.d (.sl (.int .i64)) x11)),(13,.a (.d .str x13)),(14,.a (.d (.int .i64) x14)),(15,.a (.d (.int .i64) x15)),(16,.a (.d .str x16))],[],[]⟩
def Ir(c:Code):List It2:=atR 9 c
def HV(x1:List UInt8)(x2:List (List UInt8))(x3:Int)(x10:List (List UInt8))(x11:List Int)(x13:List UInt8)(x14:Int)(x15:Int)(x16:List UInt8):TS EE.T:=⟨81,[(1,.a (.d .str x1)),(2,.a (.d (.sl .str) x2)),(3,.a (.d (.int .i64) x3)),(10,.a (.d (.sl .str) x10)),(11,.a (.d (.sl (.int .i64)) x11)),(13,.a (.d .str x13)),(14,.a (.d (.int .i64) x14)),(15,.a (.d (.int .i64) x15)),(16,.a (.d .str x16))],[],[]⟩
def vb(c:Code):List It2:=atL 4 c
def td(x1:List UInt8)(x2:List (List UInt8))(x3:Int)(x10:List (List UInt8))(x11:List Int)(x13:List UInt8)(x14:Int)(x15:Int):TS EE.T:=⟨81,[(1,.a (.d .str x1)),(2,.a (.d (.sl .str) x2)),(3,.a (.d (.int .i64) x3)),(10,.a (.d (.sl .str) x10)),(11,.a (.d (.sl (.int .i64)) x11)),(13,.a (.d .str x13)),(14,.a (.d (.int .i64) x14)),(15,.a (.d (.int .i64) x15))],[],[]⟩
def LD(c:Code):List It2:=[.c c]
def LM(x0:List UInt8)(x1:List UInt8)(x2:List (List UInt8))(x3:Int):TS EE.T:=⟨81,[(0,.a (.d .str x0)),(1,.a (.d .str x1)),(2,.a (.d (.sl .str) x2)),(3,.a (.d (.int .i64) x3))],[],[]⟩
def Fp(c:Code)(f:(List UInt8)→(List (List UInt8))→Int→(List (List UInt8))→(List Int)→(List UInt8)→Int→Int→Option aR)(x1:List UInt8)(x2:List (List UInt8))(x3:Int)(x10:List (List UInt8))(x11:List Int)(x13:List UInt8)(x14:Int)(x15:Int):Tree (Lf EE.T × Option aR):=.leaf (.go (Iy c) (Ft x1 x2 x3 x10 x11 x13 x14 x15),f x1 x2 x3 x10 x11 x13 x14 x15)
def xu(c:Code)(f:(List UInt8)→(List (List UInt8))→Int→(List (List UInt8))→(List Int)→(List UInt8)→Int→Int→(List UInt8)→Option aR)(x1:List UInt8)(x2:List (List UInt8))(x3:Int)(x10:List (List UInt8))(x11:List Int)(x13:List UInt8)(x14:Int)(x15:Int)(x16:List UInt8):Tree (Lf EE.T × Option aR):=.leaf (.go (CV c) (Dk x1 x2 x3 x10 x11 x13 x14 x15 x16),f x1 x2 x3 x10 x11 x13 x14 x15 x16)
def HS(c:Code)(f:(List UInt8)→(List (List UInt8))→Int→(List (List UInt8))→(List Int)→(List UInt8)→Int→Int→(List UInt8)→Option aR)(x1:List UInt8)(x2:List (List UInt8))(x3:Int)(x10:List (List UInt8))(x11:List Int)(x13:List UInt8)(x14:Int)(x15:Int)(x16:List UInt8):Tree (Lf EE.T × Option aR):=.leaf (.go (Ir c) (HV x1 x2 x3 x10 x11 x13 x14 x15 x16),f x1 x2 x3 x10 x11 x13 x14 x15 x16)
def EC(c:Code)(f:(List UInt8)→(List (List UInt8))→Int→(List (List UInt8))→(List Int)→(List UInt8)→Int→Int→Option aR)(x1:List UInt8)(x2:List (List UInt8))(x3:Int)(x10:List (List UInt8))(x11:List Int)(x13:List UInt8)(x14:Int)(x15:Int):Tree (Lf EE.T × Option aR):=.leaf (.go (vb c) (td x1 x2 x3 x10 x11 x13 x14 x15),f x1 x2 x3 x10 x11 x13 x14 x15)
abbrev rJ(N:Nat)(r:aR)(k:List It2)(s:TS EE.T):Prop:=f8 (Y:=TT) EE (NA N) Nj Nz (fun u=>u=xU r) k s
def K1(x:aR):Tree (Lf EE.T × Option aR):=.leaf (.done (xU x),some x)
theorem w16oR5{N:Nat}{r:aR}{k4:(List UInt8)→(List (List UInt8))→Int→(List (List UInt8))→(List Int)→(List UInt8)→Int→Int→Option aR}(hk4:∀x1 x2 x3 x10 x11 x13 x14 x15,k4 x1 x2 x3 x10 x11 x13 x14 x15=some r→rJ N r (vb (aa 0 Try.f16)) (td x1 x2 x3 x10 x11 x13 x14 x15))(n:Nat)(x1:List UInt8)(x2:List (List UInt8))(x3:Int)(x10:List (List UInt8))(x11:List Int)(x13:List UInt8)(x14:Int)(x15:Int)(h:fC N k4 n x1 x2 x3 x10 x11 x13 x14 x15=some r):rJ N r (Iy (aa 0 Try.f16)) (Ft x1 x2 x3 x10 x11 x13 x14 x15):=
 aJ (m:=4000) (t:=
 EC (aa 0 Try.f16) k4 x1 x2 x3 x10 x11 x13 x14 (w64 (x15+1))) (by kernel_rfl) (by kernel_rfl) h (fun h=>hk4 _ _ _ _ _ _ _ _ h)
theorem w16oR11{N:Nat}{r:aR}{k4:(List UInt8)→(List (List UInt8))→Int→(List (List UInt8))→(List Int)→(List UInt8)→Int→Int→Option aR}(hk4:∀x1 x2 x3 x10 x11 x13 x14 x15,k4 x1 x2 x3 x10 x11 x13 x14 x15=some r→rJ N r (vb (aa 0 Try.f16)) (td x1 x2 x3 x10 x11 x13 x14 x15))(n:Nat)(x1:List UInt8)(x2:List (List UInt8))(x3:Int)(x10:List (List UInt8))(x11:List Int)(x13:List UInt8)(x14:Int)(x15:Int)(x16:List UInt8)(h:cF N k4 n x1 x2 x3 x10 x11 x13 x14 x15 x16=some r):rJ N r (CV (aa 0 Try.f16)) (Dk x1 x2 x3 x10 x11 x13 x14 x15 x16):=
 aJ (m:=4000) (t:=
 .cond (decide ((x13.length:Int) < x3))
 (
  .bnd (vA x13 x16) fun z9=>
  Fp (aa 0 Try.f16) (fC N k4 n) x1 x2 x3 x10 x11 z9 (w64 (x14+ (x16.length:Int))) x15)
 (
  Fp (aa 0 Try.f16) (fC N k4 n) x1 x2 x3 x10 x11 x13 (w64 (x14+ (x16.length:Int))) x15)) (by kernel_rfl) (by kernel_rfl) h (⟨fun _=>fun h=>w16oR5 hk4 n _ _ _ _ _ _ _ _ h,fun h=>w16oR5 hk4 n _ _ _ _ _ _ _ _ h⟩)
theorem Hk{N:Nat}{r:aR}{k4:(List UInt8)→(List (List UInt8))→Int→(List (List UInt8))→(List Int)→(List UInt8)→Int→Int→Option aR}(hk4:∀x1 x2 x3 x10 x11 x13 x14 x15,k4 x1 x2 x3 x10 x11 x13 x14 x15=some r→rJ N r (vb (aa 0 Try.f16)) (td x1 x2 x3 x10 x11 x13 x14 x15))(n:Nat)(x1:List UInt8)(x2:List (List UInt8))(x3:Int)(x10:List (List UInt8))(x11:List Int)(x13:List UInt8)(x14:Int)(x15:Int)(x16:List UInt8)(h:ea N k4 n x1 x2 x3 x10 x11 x13 x14 x15 x16=some r):rJ N r (Ir (aa 0 Try.f16)) (HV x1 x2 x3 x10 x11 x13 x14 x15 x16):=
 aJ (m:=4000) (t:=
 .bnd (ap x11 x15) fun z5=>
 .cond (decide (z5 > 0))
 (
  .bnd (ap x11 x15) fun z6=>
  .cond (decide (z6≤(x2.length:Int)))
  (
   .bnd (ap x11 x15) fun z7=>
   .bnd (ap x2 (w64 (z7 - 1))) fun z8=>
   xu (aa 0 Try.f16) (cF N k4 n) x1 x2 x3 x10 x11 x13 x14 x15 z8)
  (
   xu (aa 0 Try.f16) (cF N k4 n) x1 x2 x3 x10 x11 x13 x14 x15 x16))
 (
  xu (aa 0 Try.f16) (cF N k4 n) x1 x2 x3 x10 x11 x13 x14 x15 x16)) (by kernel_rfl) (by kernel_rfl) h (fun _=>⟨fun _=>⟨fun _=>fun _=>fun h=>w16oR11 hk4 n _ _ _ _ _ _ _ _ _ h,fun h=>w16oR11 hk4 n _ _ _ _ _ _ _ _ _ h⟩,fun h=>w16oR11 hk4 n _ _ _ _ _ _ _ _ _ h⟩)
theorem BD{N:Nat}{r:aR}:∀ (n:Nat) (x1:List UInt8) (x2:List (List UInt8)) (x3:Int) (x10:List (List UInt8)) (x11:List Int) (x13:List UInt8) (x14:Int) (x15:Int),bG N n x1 x2 x3 x10 x11 x13 x14 x15=some r→rJ N r (vb (aa 0 Try.f16)) (td x1 x2 x3 x10 x11 x13 x14 x15)
 |0,_,_,_,_,_,_,_,_,h=>by cases h
 |n+1,x1,x2,x3,x10,x11,x13,x14,x15,h=>aJ (m:=4000) (t:=
  .cond (decide (x15 < (x11.length:Int)))
  (
   .bnd (ap x10 x15) fun z2=>
   .bnd (ap x11 x15) fun z3=>
   .cond (z3==0)
   (
    HS (aa 0 Try.f16) (ea N (bG N n) n) x1 x2 x3 x10 x11 x13 x14 x15 x1)
   (
    HS (aa 0 Try.f16) (ea N (bG N n) n) x1 x2 x3 x10 x11 x13 x14 x15 z2))
  (
   .cond (decide ((x13.length:Int) > x3))
   (
    .bnd (gq x13 0 x3) fun z4=>
    K1 (z4,x14))
   (
    K1 (x13,x14)))) (by kernel_rfl) (by kernel_rfl) h (⟨fun _=>fun _=>⟨fun h=>Hk (BD n) n _ _ _ _ _ _ _ _ _ h,fun h=>Hk (BD n) n _ _ _ _ _ _ _ _ _ h⟩,⟨fun _=>be (enc:=xU) rfl,be (enc:=xU) rfl⟩⟩)
theorem LF{N:Nat}{r:aR}(x0:List UInt8)(x1:List UInt8)(x2:List (List UInt8))(x3:Int)(h:fx N x0 x1 x2 x3=some r):rJ N r (LD (aa 0 Try.f16)) (LM x0 x1 x2 x3):=
 aJ (m:=4000) (t:=
 .bnd (eq N x0) fun z1=>
 EC (aa 0 Try.f16) (bG N N) x1 x2 x3 z1.1 z1.2.1 ([] :List UInt8) 0 0) (by kernel_rfl) (by kernel_rfl) h (fun _=>fun h=>BD N _ _ _ _ _ _ _ _ h)
theorem sg{N:Nat}(x0:List UInt8)(x1:List UInt8)(x2:List (List UInt8))(x3:Int){r:aR}(h:fx N x0 x1 x2 x3=some r)(ρ:Rn):aT Try.prog 16 (([.a (.d .str x0),.a (.d .str x1),.a (.d (.sl .str) x2),.a (.d (.int .i64) x3)] :List (TV EE.T)).map (TV.to EE.toEnc ρ)) [] (fun out H=>out=.ret ((jO r).to EE.toEnc ρ)∧H=[]):=
 (mF (aa 0 Try.f16) 81 mixed (LJ N) Try.func16 (by kernel_rfl) rfl rfl rfl rfl (LF x0 x1 x2 x3 h) ρ).mono fun out H h=>cS.ret rfl h
def jQ(N:Nat):List (TV EE.T)→PV EE.T
 | [u0,u1,u2,u3] =>match iA .str u0,iA .str u1,iA (.sl .str) u2,iA (.int .i64) u3 with
   |some x0,some x1,some x2,some x3=>.opt (fx N x0 x1 x2 x3) jO
   |_,_,_,_=>.bad
 |_=>.bad
theorem qV(N:Nat)(us:List (TV EE.T)):(jQ N us).ok fun u=>∀ρ,aT Try.prog 16 (us.map (TV.to EE.toEnc ρ)) [] (fun out H=>out=.ret (u.to EE.toEnc ρ)∧H=[]):=by
 unfold jQ
 split
 ·split
  ·rename_i h0 h1 h2 h3
   intro z hz ρ;refine eH ?_ (sg _ _ _ _ hz ρ);exact⟨cN h0 ρ,cN h1 ρ,cN h2 ρ,cN h3 ρ,trivial⟩
  ·trivial
 ·trivial
def lP(r:Bool):TV EE.T:=.a (.d .bool r)
def xB(r:Bool):RL EE.T:=.ret (lP r) []
def MS:Lvs:=⟨[(3,⟨[(0,false),(1,false),(2,false),(3,false)],[],[],[]⟩)],[],[3],[],false,[],[],[],[]⟩
def NP:List ResultVar:=[.tmp 8]
def Np(N:Nat):Gam EE:=⟨[],EQT,[],[]⟩
theorem Ly(N:Nat):GOk Try.prog TT EE (Np N):=GOk.nil dh
def F8(c:Code):List It2:=atR 3 c
def HO(x0:List UInt8)(x1:Int)(x2:Int)(x3:List UInt8):TS EE.T:=⟨19,[(0,.a (.d .str x0)),(1,.a (.d (.int .i64) x1)),(2,.a (.d (.int .i64) x2)),(3,.a (.d .str x3))],[],[]⟩
def Mp(c:Code):List It2:=[.c c]
def LN(x0:List UInt8)(x1:Int)(x2:Int)(x3:List UInt8):TS EE.T:=⟨19,[(0,.a (.d .str x0)),(1,.a (.d (.int .i64) x1)),(2,.a (.d (.int .i64) x2)),(3,.a (.d .str x3))],[],[]⟩
def E5(c:Code)(f:(List UInt8)→Int→Int→(List UInt8)→Option Bool)(x0:List UInt8)(x1:Int)(x2:Int)(x3:List UInt8):Tree (Lf EE.T × Option Bool):=.leaf (.go (F8 c) (HO x0 x1 x2 x3),f x0 x1 x2 x3)
abbrev KN(N:Nat)(r:Bool)(k:List It2)(s:TS EE.T):Prop:=f8 (Y:=TT) EE (Np N) MS NP (fun u=>u=xB r) k s
def KP(x:Bool):Tree (Lf EE.T × Option Bool):=.leaf (.done (xB x),some x)
theorem w17oR3{N:Nat}{r:Bool}(n:Nat)(x0:List UInt8)(x1:Int)(x2:Int)(x3:List UInt8)(h:eQ N n x0 x1 x2 x3=some r):KN N r (F8 (aa 0 Try.f17)) (HO x0 x1 x2 x3):=
 aJ (m:=4000) (t:=
 .cond (x1==x2)
 (
  KP (decide (x0=x3)))
 (
  KP false)) (by kernel_rfl) (by kernel_rfl) h (⟨be (enc:=xB) rfl,be (enc:=xB) rfl⟩)
theorem MB{N:Nat}{r:Bool}(x0:List UInt8)(x1:Int)(x2:Int)(x3:List UInt8)(h:fy N x0 x1 x2 x3=some r):KN N r (Mp (aa 0 Try.f17)) (LN x0 x1 x2 x3):=
 aJ (m:=4000) (t:=
 .cond (x2 != 0)
 (
  E5 (aa 0 Try.f17) (eQ N N) x0 x1 x2 ([] :List UInt8))
 (
  E5 (aa 0 Try.f17) (eQ N N) x0 x1 x2 x3)) (by kernel_rfl) (by kernel_rfl) h (⟨fun h=>w17oR3 N _ _ _ _ h,fun h=>w17oR3 N _ _ _ _ h⟩)
theorem vN{N:Nat}(x0:List UInt8)(x1:Int)(x2:Int)(x3:List UInt8){r:Bool}(h:fy N x0 x1 x2 x3=some r)(ρ:Rn):aT Try.prog 17 (([.a (.d .str x0),.a (.d (.int .i64) x1),.a (.d (.int .i64) x2),.a (.d .str x3)] :List (TV EE.T)).map (TV.to EE.toEnc ρ)) [] (fun out H=>out=.ret ((lP r).to EE.toEnc ρ)∧H=[]):=
 (mF (aa 0 Try.f17) 19 mixed (Ly N) Try.func17 (by kernel_rfl) rfl rfl rfl rfl (MB x0 x1 x2 x3 h) ρ).mono fun out H h=>cS.ret rfl h
def l5(N:Nat):List (TV EE.T)→PV EE.T
 | [u0,u1,u2,u3] =>match iA .str u0,iA (.int .i64) u1,iA (.int .i64) u2,iA .str u3 with
   |some x0,some x1,some x2,some x3=>.opt (fy N x0 x1 x2 x3) lP
   |_,_,_,_=>.bad
 |_=>.bad
theorem tC(N:Nat)(us:List (TV EE.T)):(l5 N us).ok fun u=>∀ρ,aT Try.prog 17 (us.map (TV.to EE.toEnc ρ)) [] (fun out H=>out=.ret (u.to EE.toEnc ρ)∧H=[]):=by
 unfold l5
 split
 ·split
  ·rename_i h0 h1 h2 h3
   intro z hz ρ;refine eH ?_ (vN _ _ _ _ hz ρ);exact⟨cN h0 ρ,cN h1 ρ,cN h2 ρ,cN h3 ρ,trivial⟩
  ·trivial
 ·trivial
def ko(r:Bool):TV EE.T:=.a (.d .bool r)
def Cw(r:Bool):RL EE.T:=.ret (ko r) []
def NT:Lvs:=⟨[(9,⟨[(7,false),(8,false),(12,false),(13,false)],[],[],[]⟩)],[],[9],[],false,[],[],[],[]⟩
def NW:List ResultVar:=[.tmp 6]
def w4G(N:Nat):Gam EE:=⟨[⟨11,i7 N⟩,⟨17,l5 N⟩,⟨16,jQ N⟩,⟨15,io N⟩,⟨14,iQ N⟩],EQT,[],[]⟩
theorem MN(N:Nat):GOk Try.prog TT EE (w4G N):=GOk.cons (qr N) (GOk.cons (tC N) (GOk.cons (qV N) (GOk.cons (lF N) (GOk.cons (mi N) (GOk.nil dh)))))
def La(c:Code):List It2:=atR 9 c
def KU(x7:List UInt8)(x8:Int)(x12:Int)(x13:List UInt8):TS EE.T:=⟨47,[(7,.a (.d .str x7)),(8,.a (.d (.int .i64) x8)),(12,.a (.d (.int .i64) x12)),(13,.a (.d .str x13))],[],[]⟩
def M3(c:Code):List It2:=[.c c]
def M0(x0:List UInt8)(x1:List UInt8)(x2:List (List UInt8)):TS EE.T:=⟨47,[(0,.a (.d .str x0)),(1,.a (.d .str x1)),(2,.a (.d (.sl .str) x2))],[],[]⟩
def Ic(c:Code)(f:(List UInt8)→Int→Int→(List UInt8)→Option Bool)(x7:List UInt8)(x8:Int)(x12:Int)(x13:List UInt8):Tree (Lf EE.T × Option Bool):=.leaf (.go (La c) (KU x7 x8 x12 x13),f x7 x8 x12 x13)
abbrev M4(N:Nat)(r:Bool)(k:List It2)(s:TS EE.T):Prop:=f8 (Y:=TT) EE (w4G N) NT NW (fun u=>u=Cw r) k s
def NH(x:Bool):Tree (Lf EE.T × Option Bool):=.leaf (.done (Cw x),some x)
theorem w4oR9{N:Nat}{r:Bool}(n:Nat)(x7:List UInt8)(x8:Int)(x12:Int)(x13:List UInt8)(h:bW N n x7 x8 x12 x13=some r):M4 N r (La (aa 0 Try.f4)) (KU x7 x8 x12 x13):=
 aJ (m:=4000) (t:=
 .bnd (fK N) fun z4=>
 .cond (z4)
 (
  .bnd (fy N x7 x8 x12 x13) fun z5=>
  NH z5)
 (
  NH false)) (by kernel_rfl) (by kernel_rfl) h (fun _=>⟨fun _=>be (enc:=Cw) rfl,be (enc:=Cw) rfl⟩)
theorem Nn{N:Nat}{r:Bool}(x0:List UInt8)(x1:List UInt8)(x2:List (List UInt8))(h:gI N x0 x1 x2=some r):M4 N r (M3 (aa 0 Try.f4)) (M0 x0 x1 x2):=
 aJ (m:=4000) (t:=
 .bnd (fh N x0 x1 x2) fun z1=>
 .bnd (eq N x0) fun z2=>
 .cond (!z2.2.2)
 (
  Ic (aa 0 Try.f4) (bW N N) z1.1 z1.2 1 ([] :List UInt8))
 (
  .bnd (fx N x0 x1 x2 20000) fun z3=>
  .cond (decide (z3.2 > 20000))
  (
   Ic (aa 0 Try.f4) (bW N N) z1.1 z1.2 2 z3.1)
  (
   Ic (aa 0 Try.f4) (bW N N) z1.1 z1.2 0 z3.1))) (by kernel_rfl) (by kernel_rfl) h (fun _=>fun _=>⟨fun h=>w4oR9 N _ _ _ _ h,fun _=>⟨fun h=>w4oR9 N _ _ _ _ h,fun h=>w4oR9 N _ _ _ _ h⟩⟩)
theorem oN{N:Nat}(x0:List UInt8)(x1:List UInt8)(x2:List (List UInt8)){r:Bool}(h:gI N x0 x1 x2=some r)(ρ:Rn):aT Try.prog 4 (([.a (.d .str x0),.a (.d .str x1),.a (.d (.sl .str) x2)] :List (TV EE.T)).map (TV.to EE.toEnc ρ)) [] (fun out H=>out=.ret ((ko r).to EE.toEnc ρ)∧H=[]):=
 (mF (aa 0 Try.f4) 47 mixed (MN N) Try.func4 (by kernel_rfl) rfl rfl rfl rfl (Nn x0 x1 x2 h) ρ).mono fun out H h=>cS.ret rfl h
end Go.Proofs.Ytlhjbhgkhpbnfaa
namespace Go.Proofs.Ytlhjbhgkhpbnfaa
open Go.RowKit P
set_option linter.unusedVariables false
set_option linter.unusedSimpArgs false
set_option maxRecDepth 1000000
theorem Kn:fK 1048700=some true:=by kernel_rfl
theorem lW{α:Type}(l:List α)(i:Nat):ap l (i:Int)=l[i]? :=by
 unfold ap
 rw [if_pos (by omega),Int.toNat_natCast]
theorem yU{z:Int}(h1: -9223372036854775808≤z)(h2:z≤9223372036854775807):w64 z=z:=by
 unfold w64;rw [IntKind.wrap_i64];omega
theorem K0(i:Nat)(h:i≤10000000)(k:Nat)(hk:k≤10):w64 ((i:Int)+ (k:Int))=((i+k:Nat):Int):=by
 rw [yU (by omega) (by omega)];omega
theorem lT(i:Nat)(h:i≤10000000):w64 ((i:Int)+1)=((i+1:Nat):Int):=K0 i h 1 (by omega)
theorem Fd(i:Nat)(h:i≤10000000):w64 ((i:Int)+2)=((i+2:Nat):Int):=K0 i h 2 (by omega)
def dig(c:UInt8):Bool:=bif decide ((b2i c)≥(b2i 48)) then decide ((b2i c)≤(b2i 57)) else false
theorem uE(N:Nat)(c:UInt8):dH N c=some (dig c):=by
 unfold dH dig
 cases decide ((b2i c)≥(b2i 48))<;> rfl
theorem Ao(N:Nat)(c:UInt8):er N c=some (dig c):=by
 unfold er dig
 cases decide ((b2i c)≥(b2i 48))<;> rfl
def dv(c:UInt8):Int:=w64 ((w64 (b2i c)) - 48)
theorem dvs:(List.range 256).map (fun k=>bif dig (UInt8.ofNat k) then w64 (b2i (toB (IntKind.wrap .u8 ((b2i (UInt8.ofNat k)) - (b2i 48))))) else 0)=(List.range 256).map (fun k=>bif dig (UInt8.ofNat k) then dv (UInt8.ofNat k) else 0):=by kernel_rfl
theorem K3{c:UInt8}(h:dig c=true):w64 (b2i (toB (IntKind.wrap .u8 ((b2i c) - (b2i 48)))))=dv c:=by
 have h1:=List.map_inj_left.1 dvs c.toNat (List.mem_range.2 c.toNat_lt)
 rw [UInt8.ofNat_toNat,h,cond_true,cond_true] at h1
 exact h1
theorem me{α:Type}{by_:Nat}(hb:by_≤100)(l:List α)(x:α)(h:l.length≤10000000):eE by_ l [x] =some (l++ [x]):=by
 unfold eE
 have h1:(l.length+ [x].length) * by_≤(l.length+ [x].length) * 100:=Nat.mul_le_mul_left _ hb
 rw [if_pos (by simp only [List.length_cons,List.length_nil] at *;omega)]
def tmS:List UInt8→Option (List (List UInt8 × Int))
 | [] =>some []
 |c::r=>bif (b2i c) != (b2i 36) then(tmS r).map fun l=>([c],-1)::l else match r with
  | [] =>none
  |d::r'=>bif (b2i d)==(b2i 36) then(tmS r').map fun l=>([36],-1)::l else bif dig d then(tmS r').map fun l=>([],dv d)::l else bif (b2i d)==(b2i 123) then match r' with
   |e::f::r''=>bif dig e then bif (b2i f)==(b2i 125) then(tmS r'').map fun l=>([],dv e)::l else none else none
   |_=>none
   else none
def E4:List UInt8→Option (List (List UInt8 × Int))
 | [] =>none
 |d::r'=>bif (b2i d)==(b2i 123) then match r' with
  |e::f::r''=>bif dig e then bif (b2i f)==(b2i 125) then(tmS r'').map fun l=>([],dv e)::l else none else none
  |_=>none
  else none
def Fx:List UInt8→Option (List (List UInt8 × Int))
 | [] =>none
 |d::r'=>bif dig d then(tmS r').map fun l=>([],dv d)::l else E4 (d::r')
def HD:List UInt8→Option (List (List UInt8 × Int))
 | [] =>none
 |d::r'=>bif (b2i d)==(b2i 36) then(tmS r').map fun l=>([36],-1)::l else Fx (d::r')
theorem pQ(c:UInt8)(r:List UInt8):tmS (c::r)=bif (b2i c) != (b2i 36) then(tmS r).map fun l=>([c],-1)::l else HD r:=by
 conv=>lhs;rw [tmS.eq_def]
 cases r with
 |nil=>rfl
 |cons d r'=>rfl
def tmR(T:List (List UInt8))(G:List Int):Option (List (List UInt8 × Int))→Option aH
 |some l=>some (T++l.map Prod.fst,G++l.map Prod.snd,true)
 |none=>some ([],[],false)
theorem qf(T:List (List UInt8))(G:List Int)(x:List UInt8)(g:Int)(o:Option (List (List UInt8 × Int))):tmR (T++ [x]) (G++ [g]) o=tmR T G (o.map fun l=>(x,g)::l):=by
 cases o with
 |none=>rfl
 |some l=>simp [tmR]
theorem u9{s:List UInt8}{i:Nat}{c:UInt8}{r:List UInt8}(h:s.drop i=c::r):i < s.length∧s[i]? =some c∧s.drop (i+1)=r:=by
 have h1:i < s.length:=by
  apply Classical.byContradiction
  intro hc
  rw [List.drop_eq_nil_of_le (by omega)] at h;cases h
 rw [List.drop_eq_getElem_cons h1] at h
 exact⟨h1,by rw [List.getElem?_eq_getElem h1,(List.cons.inj h).1],(List.cons.inj h).2⟩
theorem wT{s:List UInt8}{i:Nat}(h:s.drop i=[]):s.length≤i:=by
 have:=congrArg List.length h
 simp at this
 omega
theorem pB{t:List UInt8}(ht:t.length≤1048576)(N:Nat):∀ (m i n:Nat) (T:List (List UInt8)) (G:List Int),t.length - i≤m→i≤t.length→T.length≤i→G.length≤i→m+1≤n→bh N n t T G (i:Int)=tmR T G (tmS (t.drop i))
 |m,i,0,T,G,h1,h2,h3,h4,h5=>by omega
 |m,i,n+1,T,G,h1,h2,h3,h4,h5=>by
  rw [bh]
  cases hd:t.drop i with
  |nil=>
   have:=wT hd
   rw [decide_eq_false (by omega),cond_false]
   simp [tmS,tmR]
  |cons c r=>
   obtain⟨k1,k2,k3⟩:=u9 hd
   obtain⟨m,rfl⟩:∃k,m=k+1:=⟨m - 1,by omega⟩
   rw [decide_eq_true (by omega),cond_true,lW,k2,Option.bind_some,pQ]
   cases hc:(b2i c) != (b2i 36) with
   |true=>
    have hs:gq t (i:Int) (w64 ((i:Int)+1))=some [c] :=by
     rw [lT _ (by omega)]
     unfold gq
     rw [if_pos (by omega)]
     have:List.drop i (List.take (i+1) t)=[c] :=by
      rw [List.drop_take,show i+1 - i=1 by omega,hd];rfl
     simp only [Int.toNat_natCast,this]
    rw [cond_true,cond_true,hs,Option.bind_some,me (by omega) _ _ (by omega),Option.bind_some,me (by omega) _ _ (by omega),Option.bind_some]
    show bh N n t _ _ (w64 ((i:Int)+1))=_
    rw [lT _ (by omega),pB ht N m (i+1) n _ _ (by omega) (by omega) (by simp;omega) (by simp;omega) (by omega),k3,qf]
   |false=>
    rw [cond_false,cond_false]
    have h14:∀j:Nat,j=i+1→(∀d r',r=d::r'→(b2i d==b2i 36)=false∧dig d=false)→dF N (bh N n) n t T G (j:Int)=tmR T G (E4 r):=by
     rintro j rfl hx
     unfold dF
     rw [Fd _ (by omega)]
     cases r with
     |nil=>
      have:=wT k3
      rw [decide_eq_false (by omega),cond_false];rfl
     |cons d r'=>
      obtain⟨q1,q2,q3⟩:=u9 k3
      match r',q3 with
      | [],q3=>
        have:=wT q3
        rw [decide_eq_false (by omega),cond_false]
        show _=tmR T G (bif (b2i d==b2i 123) then none else none)
        cases (b2i d==b2i 123)<;> rfl
      | [e],q3=>
        obtain⟨p1,p2,p3⟩:=u9 q3
        have:=wT p3
        rw [decide_eq_false (by omega),cond_false]
        show _=tmR T G (bif (b2i d==b2i 123) then none else none)
        cases (b2i d==b2i 123)<;> rfl
      |e::f::r'',q3=>
       obtain⟨p1,p2,p3⟩:=u9 q3
       obtain⟨o1,o2,o3⟩:=u9 p3
       rw [decide_eq_true (by omega),cond_true,lW,q2,Option.bind_some,E4]
       cases hd3:(b2i d==b2i 123) with
       |false=>rfl
       |true=>
        rw [cond_true,cond_true,lT _ (by omega),lW,p2,Option.bind_some,uE,Option.bind_some]
        cases he:dig e with
        |false=>rfl
        |true=>
         rw [cond_true,cond_true,lW,o2,Option.bind_some]
         cases hf:(b2i f==b2i 125) with
         |false=>rfl
         |true=>
          obtain⟨m,rfl⟩:∃k,m=k+1:=⟨m - 1,by omega⟩
          rw [cond_true,cond_true,Option.bind_some,me (by omega) _ _ (by omega),Option.bind_some,me (by omega) _ _ (by omega),Option.bind_some]
          show bh N n t _ _ (w64 (w64 (((i+1:Nat):Int)+2)+1))=_
          rw [Fd _ (by omega),lT _ (by omega),pB ht N m (i+1+2+1) n _ _ (by omega) (by omega) (by simp;omega) (by simp;omega) (by omega),o3]
          exact qf T G [] (dv e) _
    have h12:∀j:Nat,j=i+1→(∀d r',r=d::r'→(b2i d==b2i 36)=false)→dG N (bh N n) n t T G (j:Int)=tmR T G (Fx r):=by
     rintro j rfl hx
     unfold dG
     cases r with
     |nil=>
      have:=wT k3
      rw [decide_eq_false (by omega),cond_false]
      exact h14 (i+1) rfl (fun d r' e=>by cases e)
     |cons d r'=>
      obtain⟨q1,q2,q3⟩:=u9 k3
      rw [decide_eq_true (by omega),cond_true,lW,q2,Option.bind_some,uE,Option.bind_some,Fx]
      cases hdd:dig d with
      |true=>
       rw [cond_true,cond_true,Option.bind_some,me (by omega) _ _ (by omega),Option.bind_some,me (by omega) _ _ (by omega),Option.bind_some]
       show bh N n t _ _ (w64 (((i+1:Nat):Int)+1))=_
       rw [lT _ (by omega),pB ht N m (i+1+1) n _ _ (by omega) (by omega) (by simp;omega) (by simp;omega) (by omega),q3]
       exact qf T G [] (dv d) _
      |false=>
       rw [cond_false,cond_false]
       exact h14 (i+1) rfl (fun d' r'' e=>by cases e;exact⟨hx _ _ rfl,hdd⟩)
    rw [lT _ (by omega)]
    cases r with
    |nil=>
     have:=wT k3
     rw [decide_eq_false (by omega),cond_false]
     exact h12 (i+1) rfl (fun d r' e=>by cases e)
    |cons d r'=>
     obtain⟨q1,q2,q3⟩:=u9 k3
     rw [decide_eq_true (by omega),cond_true,lW,q2,Option.bind_some,HD]
     cases hd36:(b2i d==b2i 36) with
     |true=>
      rw [cond_true,cond_true,me (by omega) _ _ (by omega),Option.bind_some,me (by omega) _ _ (by omega),Option.bind_some]
      show bh N n t _ _ (w64 (((i+1:Nat):Int)+1))=_
      rw [lT _ (by omega),pB ht N m (i+1+1) n _ _ (by omega) (by omega) (by simp;omega) (by simp;omega) (by omega),q3]
      exact qf T G [36] (-1) _
     |false=>
      rw [cond_false,cond_false]
      exact h12 (i+1) rfl (fun d' r'' e=>by cases e;exact hd36)
theorem Ap{t:List UInt8}(ht:t.length≤1048576){N:Nat}(hN:1048600≤N):eq N t=tmR [] [] (tmS t):=
 pB ht N t.length 0 N [] [] (by omega) (by omega) (by simp) (by simp) (by omega)
section
variable (whole:List UInt8) (groups:List (List UInt8))
def yA(ps:List Vpiece):List UInt8:=ps.flatMap (exS whole groups)
def gu(l:List (List UInt8 × Int)):List UInt8:=l.flatMap fun q=>exS whole groups ⟨q.1,q.2⟩
theorem AI(s:List UInt8):exS whole groups ⟨s,-1⟩=s:=by
 unfold exS
 rw [if_neg (by simp),if_neg (by simp)]
theorem vV:∀ (s:List UInt8),∃k:Nat,k≤s.length∧Lib.indexByte (s++ [36]) 36=(k:Int)∧(∀ (c:UInt8) (r:List UInt8),s=c::r→(b2i c != b2i 36)=true→0 < k)∧(tmS s=(tmS (s.drop k)).map fun l=>(s.take k).map (fun c=>([c],(-1:Int)))++l)
 | [] =>⟨0,Nat.le_refl _,rfl,(fun c r h=>by cases h),rfl⟩
 |c::r=>by
  obtain⟨k,h1,h2,_,h4⟩:=vV r
  cases hc:(b2i c != b2i 36) with
  |false=>
   have hc':c=36:=by
    have:b2i c=b2i 36:=by simpa using hc
    have h5:((c.toNat:Nat):Int)=(((36:UInt8).toNat:Nat):Int):=this
    exact UInt8.toNat_inj.1 (by omega)
   subst hc'
   refine⟨0,Nat.zero_le _,rfl,(fun c' r' h h'=>by cases h;rw [hc] at h';cases h'),?_⟩
   simp
  |true=>
   have hb:(c==36)=false:=beq_eq_false_iff_ne.2 fun e=>by subst e;cases hc
   refine⟨k+1,by simp;omega,?_,fun _ _ _ _=>by omega,?_⟩
   ·show Lib.indexByte (c::(r++ [36])) 36=_
    rw [Lib.indexByte,hb,h2]
    have:((k:Int)== -1)=false:=beq_eq_false_iff_ne.2 (by omega)
    rw [this]
    simp
   ·rw [pQ,hc,cond_true,h4]
    simp only [List.drop_succ_cons,List.take_succ_cons,List.map_cons,Option.map_map]
    congr 1
theorem IS(s:List UInt8):gu whole groups (s.map fun c=>([c],(-1:Int)))=s:=by
 induction s with
 |nil=>rfl
 |cons c r ih=>
  show exS whole groups ⟨[c],-1⟩++gu whole groups (r.map fun c=>([c],(-1:Int)))=_
  rw [ih,AI];rfl
def xY(B:Nat)(s:List UInt8)(acc:List Vpiece)(r:Option ce):Prop:=match tmS s with
 |none=>r=some ([],false)
 |some l=>∃ps,r=some (acc++ps,true)∧yA whole groups ps=gu whole groups l∧(∀p∈ps,p.text.length≤B)∧ps.length≤s.length
theorem n6{B:Nat}{s s':List UInt8}{acc:List Vpiece}{p:Vpiece}{L:List (List UInt8 × Int)}{r:Option ce}(h:xY whole groups B s' (acc++ [p]) r)(ht:tmS s=(tmS s').map fun l=>L++l)(he:exS whole groups p=gu whole groups L)(hp:p.text.length≤B)(hl:s'.length+1≤s.length):xY whole groups B s acc r:=by
 unfold xY at h ⊢
 rw [ht]
 cases h':tmS s' with
 |none=>rw [h'] at h;exact h
 |some l=>
  rw [h'] at h
  obtain⟨ps,h1,h2,h3,h4⟩:=h
  refine⟨p::ps,by rw [h1];simp,?_,fun q hq=> ?_,by simp;omega⟩
  ·show exS whole groups p++yA whole groups ps=gu whole groups (L++l)
   rw [h2,he]
   simp [gu]
  ·rcases List.mem_cons.1 hq with rfl|hq
   ·exact hp
   ·exact h3 q hq
theorem s8{s:List UInt8}{k:Nat}(h:k≤s.length):gq s (k:Int) (s.length:Int)=some (s.drop k):=by
 unfold gq
 rw [if_pos (by omega)]
 simp
theorem qt{B:Nat}(hB1:1≤B)(hB2:B≤1048576)(N:Nat):∀ (m n:Nat) (s:List UInt8) (acc:List Vpiece),s.length≤m→s.length≤B→acc.length+s.length≤B→m+1≤n→xY whole groups B s acc (bQ N n s acc)
 |m,0,s,acc,h1,h2,h3,h4=>by omega
 |m,n+1,s,acc,h1,h2,h3,h4=>by
  cases s with
  |nil=>
   rw [bQ]
   exact⟨[],(by simp),rfl,(fun p hp=>by cases hp),Nat.le_refl _⟩
  |cons c r=>
   obtain⟨m,rfl⟩:∃k,m=k+1:=⟨m - 1,by simp at h1;omega⟩
   have hlen:(c::r).length=r.length+1:=rfl
   rw [hlen] at h1 h2 h3
   rw [bQ]
   have e0:(!decide (c::r=([] :List UInt8)))=true:=by simp
   rw [e0,cond_true]
   have ei:ap (c::r) 0=some c:=rfl
   rw [ei,Option.bind_some]
   cases hc:(b2i c) != (b2i 36) with
   |true=>
    obtain⟨k,k1,k2,k3,k4⟩:=vV (c::r)
    have hk:=k3 c r rfl hc
    have ec:vA (c::r) [36] =some ((c::r)++ [36]):=by
     unfold vA
     rw [if_pos (by simp;omega)]
    have es:bN N ((c::r)++ [36]) 36=some (k:Int):=by
     unfold bN jm
     rw [k2];rfl
    have e1:gq (c::r) 0 (k:Int)=some ((c::r).take k):=by
     unfold gq
     rw [if_pos (by omega)]
     simp
    rw [cond_true,ec,Option.bind_some,es,Option.bind_some,e1,Option.bind_some,me (by omega) _ _ (by omega),Option.bind_some,s8 k1,Option.bind_some]
    have hd:((c::r).drop k).length+k=r.length+1:=by rw [List.length_drop,hlen];rw [hlen] at k1;omega
    refine n6 whole groups (qt hB1 hB2 N m n _ _ (by omega) (by omega) (by simp only [List.length_append,List.length_singleton];omega) (by omega)) k4 ?_ ?_ (by rw [hlen];omega)
    ·rw [IS,AI]
    ·rw [List.length_take];rw [hlen];omega
   |false=>
    have e1:gq (c::r) 1 ((c::r).length:Int)=some r:=s8 (k:=1) (by simp)
    rw [cond_false,e1,Option.bind_some]
    have tc:tmS (c::r)=HD r:=by rw [pQ,hc,cond_false]
    cases r with
    |nil=>
     show xY whole groups B [c] acc (some ([],false))
     unfold xY
     rw [tc]
     rfl
    |cons d r'=>
     have hl2:(d::r').length=r'.length+1:=rfl
     rw [hl2] at h1 h2 h3 hlen
     have e2:decide (d::r'=([] :List UInt8))=false:=by simp
     have e3:ap (d::r') 0=some d:=rfl
     have e4:gq (d::r') 1 ((d::r').length:Int)=some r':=s8 (k:=1) (by simp)
     rw [e2,cond_false,e3,Option.bind_some]
     rw [HD] at tc
     cases h36:(b2i d==b2i 36) with
     |true=>
      rw [h36,cond_true] at tc
      rw [cond_true,me (by omega) _ _ (by omega),Option.bind_some,e4,Option.bind_some]
      refine n6 whole groups (L:=[([36],-1)]) (qt hB1 hB2 N m n _ _ (by omega) (by omega) (by simp only [List.length_append,List.length_singleton];omega) (by omega)) tc ?_ hB1 (by simp)
      simp [gu]
     |false=>
      rw [h36,cond_false,Fx] at tc
      rw [cond_false,Option.bind_some,Ao,Option.bind_some]
      cases hdd:dig d with
      |true=>
       rw [hdd,cond_true] at tc
       rw [cond_true,Option.bind_some,K3 hdd,me (by omega) _ _ (by omega),Option.bind_some,e4,Option.bind_some]
       refine n6 whole groups (L:=[([],dv d)]) (qt hB1 hB2 N m n _ _ (by omega) (by omega) (by simp only [List.length_append,List.length_singleton];omega) (by omega)) tc ?_ (Nat.zero_le _) (by simp)
       simp [gu]
      |false=>
       rw [hdd,cond_false] at tc
       rw [cond_false]
       have no:tmS (c::d::r')=none→xY whole groups B (c::d::r') acc (some ([],false)):=fun h=>by unfold xY;rw [h]
       match r',tc with
       | [],tc=>
         refine no ?_
         rw [tc]
         show(bif (b2i d==b2i 123) then none else none)=none
         cases (b2i d==b2i 123)<;> rfl
       | [e],tc=>
         refine no ?_
         rw [tc]
         show(bif (b2i d==b2i 123) then none else none)=none
         cases (b2i d==b2i 123)<;> rfl
       |e::f::r'',tc=>
        have e5:decide (((d::e::f::r'').length:Int) > 2)=true:=decide_eq_true (by simp;omega)
        rw [e5,cond_true,Option.bind_some]
        rw [E4] at tc
        cases h123:(b2i d==b2i 123) with
        |false=>rw [h123,cond_false] at tc;exact no tc
        |true=>
         rw [h123,cond_true] at tc
         have e6:ap (d::e::f::r'') 1=some e:=rfl
         have e7:ap (d::e::f::r'') 2=some f:=rfl
         rw [cond_true,e6,Option.bind_some,Ao,Option.bind_some]
         cases he:dig e with
         |false=>rw [he,cond_false] at tc;exact no tc
         |true=>
          rw [he,cond_true] at tc
          rw [cond_true,e7,Option.bind_some]
          cases hf:(b2i f==b2i 125) with
          |false=>rw [hf,cond_false] at tc;exact no tc
          |true=>
           rw [hf,cond_true] at tc
           have e8:gq (d::e::f::r'') 3 ((d::e::f::r'').length:Int)=some r'':=s8 (k:=3) (by simp)
           have hl3:(e::f::r'').length=r''.length+2:=rfl
           rw [hl3] at h1 h2 h3
           rw [cond_true,Option.bind_some,K3 he,me (by omega) _ _ (by omega),Option.bind_some,e8,Option.bind_some]
           refine n6 whole groups (L:=[([],dv e)]) (qt hB1 hB2 N m n _ _ (by omega) (by omega) (by simp only [List.length_append,List.length_singleton];omega) (by omega)) tc ?_ (Nat.zero_le _) (by simp)
           simp [gu]
theorem Cz:∀ (ps:List Vpiece) (acc:List UInt8),acc.length≤20000→uG whole groups ps acc=if 20000 < (acc++yA whole groups ps).length then([],2) else(acc++yA whole groups ps,0)
 | [],acc,h=>by
   rw [uG]
   have:acc++yA whole groups [] =acc:=by simp [yA]
   rw [this,if_neg (by omega)]
 |p::ps,acc,h=>by
  have e:acc++yA whole groups (p::ps)=acc++exS whole groups p++yA whole groups ps:=by simp [yA]
  rw [uG,e]
  by_cases hx:20000 < acc.length+ (exS whole groups p).length
  ·rw [if_pos hx,if_pos (by simp only [List.length_append];omega)]
  ·rw [if_neg hx]
   exact Cz ps _ (by simp only [List.length_append];omega)
variable {whole groups} in
theorem xb{B:Nat}(hw:whole.length≤B)(hg:∀g∈groups,g.length≤B){p:Vpiece}(hp:p.text.length≤B):(exS whole groups p).length≤B:=by
 unfold exS
 split
 ·exact hw
 ·split
  ·rw [List.getD_eq_getElem?_getD]
   cases h:groups[(p.group - 1).toNat]? with
   |none=>exact Nat.zero_le _
   |some g=>exact hg g (List.mem_of_getElem? h)
  ·exact hp
variable {whole groups} in
theorem wc{B:Nat}(hw:whole.length≤B)(hg:∀g∈groups,g.length≤B):∀ (l:List (List UInt8 × Int)),(∀q∈l,q.1.length≤B)→(gu whole groups l).length≤l.length * B
 | [],_=>Nat.zero_le _
 |q::l,h=>by
  have h1:=wc hw hg l fun q hq=>h q (List.mem_cons_of_mem _ hq)
  have h2:=xb (groups:=groups) hw hg (p:=⟨q.1,q.2⟩) (h q List.mem_cons_self)
  have e:(gu whole groups (q::l)).length=(exS whole groups ⟨q.1,q.2⟩).length+ (gu whole groups l).length:=by simp [gu]
  rw [e,List.length_cons,Nat.succ_mul]
  omega
theorem Eb(l:List (List UInt8 × Int))(q:List UInt8 × Int):gu whole groups (l++ [q])=gu whole groups l++exS whole groups ⟨q.1,q.2⟩:=by simp [gu]
theorem yp{B:Nat}(hB1:20000≤B)(hB:B≤16777216)(hw:whole.length≤B)(hg:∀g∈groups,g.length≤B)(hgl:groups.length≤B){l:List (List UInt8 × Int)}(hl:l.length≤1048576)(hlt:∀q∈l,q.1.length≤B)(N:Nat):∀ (m i n:Nat) (s:List UInt8) (many:Int),i+m=l.length→m+1≤n→many=((gu whole groups (l.take i)).length:Int)→(many≤20000→s=gu whole groups (l.take i))→s.length≤20000+B→
  ∃s',bG N n whole groups 20000 (l.map Prod.fst) (l.map Prod.snd) s many (i:Int)=some (s',((gu whole groups l).length:Int))∧((gu whole groups l).length≤20000→s'=gu whole groups l)
 |m,i,0,s,many,h1,h2,h3,h4,h5=>by omega
 |0,i,n+1,s,many,h1,h2,h3,h4,h5=>by
  have ht:l.take i=l:=List.take_of_length_le (by omega)
  rw [ht] at h3 h4
  rw [bG,decide_eq_false (by simp;omega),cond_false]
  by_cases h:(s.length:Int) > 20000
  ·have hs:gq s 0 20000=some (s.take 20000):=by
    unfold gq
    rw [if_pos (by omega)]
    simp
   rw [decide_eq_true h,cond_true,hs,Option.bind_some,h3]
   refine⟨_,rfl,fun hc=> ?_⟩
   have:=h4 (by omega)
   rw [← this] at hc
   omega
  ·rw [decide_eq_false h,cond_false,h3]
   exact⟨_,rfl,fun hc=>h4 (by omega)⟩
 |m+1,i,n+1,s,many,h1,h2,h3,h4,h5=>by
  have hi:i < l.length:=by omega
  have hq:=List.getElem?_eq_getElem hi
  have hqm:=List.getElem_mem hi
  have htk:l.take (i+1)=l.take i++ [l[i]] :=by rw [List.take_add_one,hq];rfl
  have hx:=xb (groups:=groups) hw hg (p:=⟨l[i].1,l[i].2⟩) (hlt _ hqm)
  have hc1:=wc (groups:=groups) hw hg (l.take i) fun q hq=>hlt q (List.mem_of_mem_take hq)
  have hc2:(l.take i).length * B≤1048576 * 16777216:=Nat.mul_le_mul (by simp;omega) hB
  have e1:ap (l.map Prod.fst) (i:Int)=some l[i].1:=by rw [lW,List.getElem?_map,hq];rfl
  have e2:ap (l.map Prod.snd) (i:Int)=some l[i].2:=by rw [lW,List.getElem?_map,hq];rfl
  have hcat:gu whole groups (l.take (i+1))=gu whole groups (l.take i)++exS whole groups ⟨l[i].1,l[i].2⟩:=by rw [htk,Eb]
  generalize l[i] =q at hqm hx e1 e2 hcat
  obtain⟨tx,g⟩:=q
  dsimp only at hx e1 e2 hcat
  have h11:∀x,exS whole groups ⟨tx,g⟩=x→∃s',cF N (bG N n) n whole groups 20000 (l.map Prod.fst) (l.map Prod.snd) s many (i:Int) x=some (s',((gu whole groups l).length:Int))∧((gu whole groups l).length≤20000→s'=gu whole groups l):=by
   rintro x rfl
   have hlen:((gu whole groups (l.take (i+1))).length:Int)=many+ ((exS whole groups ⟨tx,g⟩).length:Int):=by rw [hcat,List.length_append,h3];omega
   have hm:w64 (many+ ((exS whole groups ⟨tx,g⟩).length:Int))=((gu whole groups (l.take (i+1))).length:Int):=by rw [hlen];exact yU (by omega) (by omega)
   unfold cF
   by_cases h:(s.length:Int) < 20000
   ·have ec:vA s (exS whole groups ⟨tx,g⟩)=some (s++exS whole groups ⟨tx,g⟩):=by
     unfold vA
     rw [if_pos (by omega)]
    rw [decide_eq_true h,cond_true,ec,Option.bind_some]
    show ∃s',bG N n whole groups 20000 _ _ _ _ (w64 ((i:Int)+1))=_∧_
    rw [hm,lT _ (by omega)]
    refine yp hB1 hB hw hg hgl hl hlt N m (i+1) n _ _ (by omega) (by omega) rfl (fun hc=> ?_) (by simp only [List.length_append];omega)
    rw [hlen] at hc
    rw [h4 (by omega),hcat]
   ·rw [decide_eq_false h,cond_false]
    show ∃s',bG N n whole groups 20000 _ _ _ _ (w64 ((i:Int)+1))=_∧_
    rw [hm,lT _ (by omega)]
    refine yp hB1 hB hw hg hgl hl hlt N m (i+1) n _ _ (by omega) (by omega) rfl (fun hc=> ?_) h5
    rw [hlen] at hc
    have h6:=h4 (by omega)
    have h7:exS whole groups ⟨tx,g⟩=[] :=List.eq_nil_of_length_eq_zero (by rw [h6] at h;omega)
    rw [hcat,h7,List.append_nil]
    exact h6
  have h9:∀x16,(g=0→x16=whole)→(g≠0→x16=tx)→∃s',ea N (bG N n) n whole groups 20000 (l.map Prod.fst) (l.map Prod.snd) s many (i:Int) x16=some (s',((gu whole groups l).length:Int))∧((gu whole groups l).length≤20000→s'=gu whole groups l):=by
   intro x16 hx0 hx1
   unfold ea
   rw [e2,Option.bind_some]
   by_cases hg0:g > 0
   ·rw [decide_eq_true hg0,cond_true,Option.bind_some]
    by_cases hg1:g≤(groups.length:Int)
    ·have ew:w64 (g - 1)=(((g - 1).toNat:Nat):Int):=by rw [yU (by omega) (by omega)];omega
     have hlt2:(g - 1).toNat < groups.length:=by omega
     rw [decide_eq_true hg1,cond_true,Option.bind_some,ew,lW,List.getElem?_eq_getElem hlt2,Option.bind_some]
     refine h11 _ ?_
     unfold exS
     rw [if_neg (by dsimp only;omega),if_pos ⟨hg0,hg1⟩,List.getD_eq_getElem?_getD,List.getElem?_eq_getElem hlt2]
     rfl
    ·rw [decide_eq_false hg1,cond_false]
     refine h11 _ ?_
     unfold exS
     rw [if_neg (by dsimp only;omega),if_neg (by dsimp only;omega),hx1 (by omega)]
   ·rw [decide_eq_false hg0,cond_false]
    refine h11 _ ?_
    unfold exS
    by_cases hz:g=0
    ·rw [if_pos hz,hx0 hz]
    ·rw [if_neg hz,if_neg (by dsimp only;omega),hx1 hz]
  rw [bG,decide_eq_true (by simp;omega),cond_true,e1,Option.bind_some,e2,Option.bind_some]
  by_cases hz:g=0
  ·rw [beq_iff_eq.2 hz,cond_true]
   exact h9 _ (fun _=>rfl) (fun h=>absurd hz h)
  ·rw [beq_eq_false_iff_ne.2 hz,cond_false]
   exact h9 _ (fun h=>absurd h hz) (fun _=>rfl)
theorem CJ(N:Nat)(e:Int)(he:e≠0)(x:List UInt8):fy N [] e e x=some true:=by
 unfold fy eQ
 rw [bne,beq_eq_false_iff_ne.2 he,Bool.not_false,cond_true,beq_self_eq_true,cond_true]
 rfl
theorem Hi:∀ (m:Nat) (s:List UInt8) (l:List (List UInt8 × Int)),s.length≤m→tmS s=some l→l.length≤s.length∧∀q∈l,q.1.length≤1
 |m,[],l,hm,h=>by cases h;exact⟨Nat.le_refl _,fun q hq=>by cases hq⟩
 |0,c::r,l,hm,h=>by simp at hm
 |m+1,c::r,l,hm,h=>by
  have step:∀ (s':List UInt8) (q:List UInt8 × Int),s'.length≤r.length→q.1.length≤1→(tmS s').map (fun l=>q::l)=some l→l.length≤(c::r).length∧∀q∈l,q.1.length≤1:=by
   intro s' q hs hq hh
   obtain⟨l',e1,rfl⟩:=Option.map_eq_some_iff.1 hh
   obtain⟨h1,h2⟩:=Hi m s' l' (by simp at hm;omega) e1
   refine⟨by simp;omega,fun x hx=> ?_⟩
   rcases List.mem_cons.1 hx with rfl|hx
   ·exact hq
   ·exact h2 x hx
  rw [pQ] at h
  cases hc:(b2i c != b2i 36) with
  |true=>rw [hc,cond_true] at h;exact step r ([c],-1) (Nat.le_refl _) (Nat.le_refl _) h
  |false=>
   rw [hc,cond_false] at h
   match r,h with
   |d::r',h=>
    rw [HD] at h
    cases h36:(b2i d==b2i 36) with
    |true=>rw [h36,cond_true] at h;exact step r' ([36],-1) (by simp) (Nat.le_refl _) h
    |false=>
     rw [h36,cond_false,Fx] at h
     cases hdd:dig d with
     |true=>rw [hdd,cond_true] at h;exact step r' ([],dv d) (by simp) (Nat.zero_le _) h
     |false=>
      rw [hdd,cond_false] at h
      match r',h with
      | [],h=>
        exfalso
        have h':(bif (b2i d==b2i 123) then none else none)=some l:=h
        cases h2:(b2i d==b2i 123)<;> rw [h2] at h'<;> cases h'
      | [e],h=>
        exfalso
        have h':(bif (b2i d==b2i 123) then none else none)=some l:=h
        cases h2:(b2i d==b2i 123)<;> rw [h2] at h'<;> cases h'
      |e::f::r'',h=>
       rw [E4] at h
       cases h123:(b2i d==b2i 123) with
       |false=>rw [h123,cond_false] at h;cases h
       |true=>
        rw [h123,cond_true] at h
        cases he:dig e with
        |false=>rw [he,cond_false] at h;cases h
        |true=>
         rw [he,cond_true] at h
         cases hf:(b2i f==b2i 125) with
         |false=>rw [hf,cond_false] at h;cases h
         |true=>rw [hf,cond_true] at h;exact step r'' ([],dv e) (by simp;omega) (Nat.zero_le _) h
theorem tG{t whole:List UInt8}{groups:List (List UInt8)}(ht:t.length≤1048576)(hw:whole.length≤1048576)(hg:∀g∈groups,g.length≤16777216)(hgl:groups.length≤16777216):gI 1048700 t whole groups=some true:=by
 have hp:=qt whole groups (B:=1048576) (by omega) (by omega) 1048700 t.length 1048700 t [] (Nat.le_refl _) ht (by simpa using ht) (by omega)
 have htm:=Ap ht (N:=1048700) (by omega)
 have h9:∀x7 x8 x12 x13,fy 1048700 x7 x8 x12 x13=some true→bW 1048700 1048700 x7 x8 x12 x13=some true:=fun x7 x8 x12 x13 h=>by
  unfold bW
  rw [Kn,Option.bind_some,cond_true,h]
  rfl
 unfold xY at hp
 unfold gI fh gQ
 cases h:tmS t with
 |none=>
  rw [h] at hp htm
  dsimp only at hp
  rw [hp,htm]
  show bW 1048700 1048700 [] 1 1 [] =_
  exact h9 _ _ _ _ (CJ _ _ (by omega) _)
 |some l=>
  rw [h] at hp htm
  obtain⟨ps,h1,h2,h3,h4⟩:=hp
  rw [List.nil_append] at h1
  obtain⟨k1,k2⟩:=Hi _ _ _ (Nat.le_refl _) h
  have hsm:Iz whole groups ps=true:=by
   unfold Iz
   simp only [Bool.and_eq_true,decide_eq_true_eq,List.all_eq_true]
   exact⟨⟨⟨⟨by omega,fun g hg'=>by have:=hg g hg';omega⟩,fun p hp'=>by have:=h3 p hp';omega⟩,by omega⟩,by omega⟩
  have htm':eq 1048700 t=some (l.map Prod.fst,l.map Prod.snd,true):=htm
  obtain⟨s',e1,e2⟩:=yp whole groups (B:=16777216) (by omega) (by omega) (by omega) hg hgl (l:=l) (by omega) (fun q hq=>by have:=k2 q hq;omega) 1048700 l.length 0 1048700 [] 0 (by omega) (by omega) rfl (fun _=>rfl) (by simp)
  have e3:fx 1048700 t whole groups 20000=some (s',((gu whole groups l).length:Int)):=by
   unfold fx
   rw [htm',Option.bind_some]
   exact e1
  rw [h1]
  dsimp only
  rw [if_pos hsm,Option.bind_some,htm',Option.bind_some]
  dsimp only
  rw [Bool.not_true,cond_false,e3,Option.bind_some,Cz whole groups ps [] (by simp),List.nil_append,h2]
  dsimp only
  by_cases hc:20000 < (gu whole groups l).length
  ·rw [decide_eq_true (by omega),cond_true,if_pos hc]
   exact h9 _ _ _ _ (CJ _ _ (by omega) _)
  ·rw [decide_eq_false (by omega),cond_false,if_neg hc,e2 (by omega)]
   refine h9 _ _ _ _ ?_
   unfold fy eQ
   simp
end
end Go.Proofs.Ytlhjbhgkhpbnfaa
namespace Go.Proofs.Ytlhjbhgkhpbnfaa
open Go.RowKit Go.Deep Go.ChangeShapes Go.WideShapes Go.ChangeAt P
set_option linter.unusedSimpArgs false
set_option linter.unusedVariables false
def Dp(w:World)(us:List AV)(cs:List Value):Prop:=us.length=cs.length∧∀ (i:Nat) u v,us[i]? =some u→cs[i]? =some v→Rel (sb w) u v
def Dl(w:World)(us:List AV)(off:Nat)(cs:List Value):Prop:=∀ (i:Nat) u v,us[i]? =some u→cs[off+i]? =some v→Rel (sb w) u v
theorem Dl.nil{w:World}{off:Nat}{cs:List Value}:Dl w [] off cs:=fun i u v hu=>by simp at hu
theorem Dl.whole{w:World}{us:List AV}{cs:List Value}(h:Dl w us 0 cs)(e:us.length=cs.length):Dp w us cs:=⟨e,fun i u v hu hv=>h i u v hu (by simpa using hv)⟩
section
variable {R:Nat} {H:Type} {enc:TypeId × Value→H} {Pr:Program} {w:World} {base:Nat} {spare:Nat→Bool} {held:Bool}
def qG(R:Nat){H:Type}(enc:TypeId × Value→H)(Pr:Program)(w:World)(base:Nat)(spare:Nat→Bool)(held:Bool)(t:TypeId){α:Type}(ec:α→List AV)(Wf:α→Prop):Prop:=
 ∀ (fuel:Nat) (cs:List Value) (x:DataW H × List MemPlace),DataW.trod enc Pr w base spare held fuel t cs=some x→(∀n∈x.1.weights Pr t,n≤R)→∃z,Wf z∧Dp w (ec z) cs
abbrev Nw{H:Type}(enc:TypeId × Value→H)(Pr:Program)(w:World)(base:Nat)(spare:Nat→Bool)(held:Bool)(t:TypeId){α:Type}(ec:α→List AV)(Wf:α→Prop):Prop:=qG reachBytes enc Pr w base spare held t ec Wf
theorem xa{t:TypeId}(ht:Pr.underlying t=some .string):qG R enc Pr w base spare held t (fun s:List UInt8=>[.v (.string (mkB s))]) (fun s=>s.length≤R):=by
 intro fuel cs x h hw
 obtain⟨s,rfl,rfl,hs⟩:=DataW.trod_string ht h
 refine⟨s.data.toList,hw _ (by simp [DataW.weights]),rfl,fun i u v hu hv=> ?_⟩
 match i,hu,hv with
 |0,hu,hv=>simp at hu hv;subst hu hv;exact .v _
 |i+1,hu,hv=>simp at hu
theorem mh{e:TypeId}:∀ {l:List (DataW H)} {d:DataW H},d∈l→∀n∈d.weights Pr e,n∈DataW.weightsAll Pr e l
 | [],_,h,_,_=>by cases h
 |x::l,d,h,n,hn=>by
  simp only [DataW.weightsAll,List.mem_append]
  rcases List.mem_cons.1 h with rfl|h
  ·exact .inl hn
  ·exact .inr (mh h n hn)
theorem D0{a:Addr}{n:Nat}{cs:List Value}(h:w.cells? base a n=some cs):cs.length=n∧∀j,j < n→w.cell? (a.add j)=cs[j]? :=by
 unfold World.cells? at h
 split at h
 ·refine⟨by simpa using mapM_some_length h,fun j hj=> ?_⟩
  exact mapM_some_get h j j (by simp [hj])
 ·cases h
theorem r8{t e:TypeId}{α:Type}{ec:α→List AV}{Wf:α→Prop}{sz:Nat}(ht:Pr.underlying t=some (.slice e))(hc:Pr.cellsOf e=sz)(h1:1≤sz)(hb:1≤Pr.bytesOf e)(hlen:∀z,(ec z).length=sz)(ho:qG R enc Pr w base spare held e ec Wf):
  qG R enc Pr w base spare held t (fun l:List α=>[.sl false sz (l.map ec)]) (fun l=>l.length≤R∧∀z∈l,Wf z):=by
 intro fuel cs x h hw
 have one:∀ (l:List α) (v:Value),Rel (sb w) (.sl false sz (l.map ec)) v→Dp w [.sl false sz (l.map ec)] [v] :=fun l v hr=>⟨rfl,fun i u v' hu hv=>by
  match i,hu,hv with
  |0,hu,hv=>simp at hu hv;subst hu hv;exact hr
  |i+1,hu,hv=>simp at hu⟩
 rcases open_slice ht h with ⟨rfl,rfl⟩| ⟨a,len,cap,m,n,D,Pl,rfl,hba,hl,hm,hmm,rfl,hel⟩
 ·exact⟨[],⟨Nat.zero_le _,fun z hz=>by cases hz⟩,one [] _ (.nl _ _ _ _)⟩
 ·have hlm:len≤m:=by rw [hmm];split<;> omega
  have hlr:len≤R:=by
   have:=hw ((((List.range len).map D).length+ ((List.range (m - len)).map fun j=>D (len+j)).length) * Pr.bytesOf e) (by simp only [DataW.weights,ht];exact List.mem_cons_self ..)
   simp only [List.length_map,List.length_range] at this
   have h2:(len+ (m - len)) * 1≤(len+ (m - len)) * Pr.bytesOf e:=Nat.mul_le_mul_left _ hb
   omega
  have hwt:∀i,i < len→∀k∈(D i).weights Pr e,k≤R:=fun i hi k hk=>by
   refine hw k ?_
   simp only [DataW.weights,ht]
   refine List.mem_cons_of_mem _ (List.mem_append.2 (.inl ?_))
   exact mh (List.mem_map.2 ⟨i,List.mem_range.2 hi,rfl⟩) k hk
  rcases Nat.eq_zero_or_pos len with h0|hpos
  ·subst h0
   exact⟨[],⟨Nat.zero_le _,fun z hz=>by cases hz⟩,one [] _ (.nl _ _ _ _)⟩
  have each:∀i,i < len→∃y:α × List Value,Wf y.1∧Dp w (ec y.1) y.2∧y.2.length=sz∧∀j,j < sz→w.cell? ((a.add (i * sz)).add j)=y.2[j]? :=fun i hi=>by
   obtain⟨cs',h2,h3⟩:=hel i (by omega)
   rw [hc] at h2
   obtain⟨z,hz,hr⟩:=ho _ _ _ h3 (hwt i hi)
   obtain⟨k1,k2⟩:=D0 h2
   exact⟨(z,cs'),hz,hr,k1,k2⟩
  obtain⟨y0,_⟩:=each 0 hpos
  haveI:Inhabited (α × List Value):=⟨y0⟩
  obtain⟨f,hf⟩:=choose_lt each
  have hspot:a.spot=none:=by
   obtain⟨_,_,k1,k2⟩:=hf 0 hpos
   have:=k2 0 (by omega)
   rw [List.getElem?_eq_getElem (by omega)] at this
   obtain⟨b,off,spot⟩:=a
   simpa [Addr.add] using World.cell?_spot this
  obtain⟨b,off,spot⟩:=a
  simp only at hspot
  subst hspot
  have hcell:∀i,i < len→∀j,j < sz→w.cell? ⟨b,off+i * sz+j,none⟩=(f i).2[j]? :=fun i hi j hj=>by
   have:=(hf i hi).2.2.2 j hj
   rw [dw,dw] at this
   exact this
  have hblk:∃cs e' fr,w.heap[b]? =some (.cells cs e' fr)∧off+ (len - 1) * sz+ (sz - 1) < cs.size:=by
   have c2:=hcell (len - 1) (by omega) (sz - 1) (by omega)
   rw [List.getElem?_eq_getElem (by have:=(hf (len - 1) (by omega)).2.2.1;omega)] at c2
   unfold World.cell? at c2
   split at c2
   ·rename_i cs e' fr hb'
    exact⟨cs,e',fr,hb',(Array.getElem?_eq_some_iff.1 c2).1⟩
   all_goals cases c2
  obtain⟨cs,e',fr,hb',hsz⟩:=hblk
  have hg:(sb w).g b=some cs.size:=by simp only [sb,hb']
  have hsum:(len - 1) * sz+sz=len * sz:=by rw [← Nat.succ_mul];congr 1;omega
  refine⟨(List.range len).map fun i=>(f i).1,⟨by simpa using hlr,fun z hz=> ?_⟩,one _ _ ?_⟩
  ·obtain⟨i,hi,rfl⟩:=List.mem_map.1 hz
   exact(hf i (List.mem_range.1 hi)).1
  ·have hL:(((List.range len).map fun i=>(f i).1).map ec).length=len:=by simp
   have hrow:∀ (i:Nat) r,(((List.range len).map fun i=>(f i).1).map ec)[i]? =some r→i < len∧r=ec (f i).1:=fun i r hr=>by
    have hi:i < len:=by have:=(List.getElem?_eq_some_iff.1 hr).1;simpa using this
    refine⟨hi,?_⟩
    simp [hi] at hr
    exact hr.symm
   have:=Rel.sl (X:=sb w) false sz (((List.range len).map fun i=>(f i).1).map ec) b off cap cs.size (fun i j=>((f i).2[j]?).getD undef) hg (by rw [hL];omega) (by rw [hL];exact hl) (fun i r hr=>by rw [(hrow i r hr).2];exact hlen _) (fun i j r u hr hu=>by
    obtain⟨hi,rfl⟩:=hrow i r hr
    have hj:j < sz:=by have:=(List.getElem?_eq_some_iff.1 hu).1;rw [hlen] at this;exact this
    have hjl:j < (f i).2.length:=by rw [(hf i hi).2.2.1];exact hj
    show w.cell? _=_
    rw [hcell i hi j hj,List.getElem?_eq_getElem hjl];rfl) (fun i j r u hr hu=>by
    obtain⟨hi,rfl⟩:=hrow i r hr
    have hj:j < sz:=by have:=(List.getElem?_eq_some_iff.1 hu).1;rw [hlen] at this;exact this
    have hjl:j < (f i).2.length:=by rw [(hf i hi).2.2.1];exact hj
    refine(hf i hi).2.1.2 j u _ hu ?_
    rw [List.getElem?_eq_getElem hjl];rfl)
   rw [hL] at this
   exact this
theorem IH{r:Reach}{b0:Nat}{t e:TypeId}{v:Value}{d:DataW H}{ps:List MemPlace}{α:Type}{u:α→AV}{Wf:α→Prop}(ho:qG R enc Pr w base spare held t (fun z=>[u z]) Wf)(ht:Pr.underlying t=some (.slice e))(hval:Value.okWide Pr w r b0 t v)(hd:DataW.Trod enc Pr w base spare held t v d ps)(hw:∀n∈d.weights Pr t,n≤R):
  ∃z,Wf z∧Rel (sb w) (u z) v:=by
 obtain⟨oa,ln,cp,rfl⟩:=okWide_slice ht hval
 obtain⟨fuel,hf⟩:=hd
 obtain⟨z,hz,hr⟩:=ho _ _ _ hf hw
 exact⟨z,hz,hr.2 0 _ _ rfl (by simp [Value.cells])⟩
end
end Go.Proofs.Ytlhjbhgkhpbnfaa
namespace Go.Proofs.Ytlhjbhgkhpbnfaa
open Go.RowKit Go.Deep Go.ChangeShapes Go.WideShapes Go.ChangeAt P
set_option linter.unusedVariables false
set_option linter.unusedSimpArgs false
theorem Try.own:ownKnob Try.prog.godebug=none:=by kernel_rfl
theorem Try.laidOut:laidOutB Try.prog=true:=by kernel_rfl
theorem ua{H:Type}{enc:TypeId × Value→H}{w:World}{base:Nat}{spare:Nat→Bool}{held:Bool}:Nw enc Try.prog w base spare held 22 (fun l:List (List UInt8)=>[AV.sl false 1 (l.map (fun s:List UInt8=>[AV.v (.string (mkB s))]))]) (fun l=>l.length≤reachBytes∧∀y∈l,y.length≤reachBytes):=
 r8 Try.underlying22 (by kernel_rfl) (by decide) (of_decide_eq_true (by kernel_rfl)) (fun z=>by rfl) (xa Try.underlying9)
end Go.Proofs.Ytlhjbhgkhpbnfaa
namespace Go.Proofs.Ytlhjbhgkhpbnfaa
open Go.RowKit P
section
variable {Pr:Program}
end
def zW(n:Nat):Prop:=n≤140737488351232
theorem zW.le{n:Nat}(h:zW n):n≤140737488351232:=h
end Go.Proofs.Ytlhjbhgkhpbnfaa
