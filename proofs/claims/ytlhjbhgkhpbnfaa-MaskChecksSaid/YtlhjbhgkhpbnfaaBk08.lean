import Derived.Test.YtlhjbhgkhpbnfaaBk07
import Derived.RegionTactic
import Derived.BigRegion
import Derived.ProofKit
import Derived.OpenShut
import Derived.Deep.Slices
import Derived.Test.YtlhjbhgkhpbnfaaRows
import Derived.WalkKit
import Derived.WalkSpells
import Derived.WalkLawsBesides
import Derived.Lib.VarintBits
import Derived.Lib.BufferRead
import Derived.Lib.Hide
set_option linter.unusedSimpArgs false
set_option linter.unusedVariables false
namespace Go.Proofs.Ytlhjbhgkhpbnfaa
open Go.RowKit P
set_option maxRecDepth 100000
def ij(r:Bool × VReader):TV EE.T:=.a (.d .bool r.1)
def Bq(i0:Nat)(r:Bool × VReader):List (Nat × TB EE.T):=[(i0,.cs (cv EE (.nam 3) r.2))]
def rT(r:Bool × VReader):RL EE.T:=.ret (ij r) (Bq 100000 r)
def NW:Lvs:=⟨[(1,⟨[(0,false),(1,false)],[],[(100000,(some 3,[]))],[]⟩)],[],[],[],false,[(100000,(some 3,[]))],[100000],[],[]⟩
def N7:List ResultVar:=[.tmp 4]
def H4(N:Nat):Gam EE:=⟨[],EQT,[],[]⟩
theorem IK(N:Nat):GOk Try.prog TT EE (H4 N):=GOk.nil cN
def Kl(c:Code):List It2:=[.c c]
def Lh(x1:UInt8)(y0:VReader):TS EE.T:=⟨28,[(0,.a (.box 100000 0)),(1,.a (.d .byte x1))],[(100000,.cs (cv EE (.nam 3) y0))],[]⟩
abbrev Oz(N:Nat)(r:Bool × VReader)(k:List It2)(s:TS EE.T):Prop:=fa (Y:=TT) EE (H4 N) NW N7 (fun u=>u=rT r) k s
def GL(x:Bool × VReader):Tree (Lf EE.T × Option (Bool × VReader)):=.leaf (.done (rT x),some x)
theorem Iz{N:Nat}{r:Bool × VReader}(x1:UInt8)(y0:VReader)(h:aP N x1 y0=some r):Oz N r (Kl (aa 0 Try.f40)) (Lh x1 y0):=
 av (m:=4000) (t:=
 .cond (decide (y0.At < (y0.M.length:Int)))
 (
  .bnd (cg y0.M y0.At) fun z1=>
  GL ((b2i z1)==(b2i x1),y0))
 (
  GL (false,y0))) (by kernel_rfl) (by kernel_rfl) h (⟨fun _=>aO (enc:=rT) rfl,aO (enc:=rT) rfl⟩)
def Fx(x1:UInt8)(y0:VReader):List (TV EE.T):=[.a (.box 100000 0),.a (.d .byte x1)]
def A0(x1:UInt8)(y0:VReader):List (Nat × TB EE.T):=[(100000,.cs (cv EE (.nam 3) y0))]
theorem pW{N:Nat}(x1:UInt8)(y0:VReader){r:Bool × VReader}(h:aP N x1 y0=some r)(ρ:Rn)(hi:Inj ρ (A0 x1 y0)):aE Try.prog 40 ((Fx x1 y0).map (TV.to EE.toEnc ρ)) (hTo EE.toEnc ρ (A0 x1 y0)) (fun out H=>out=.ret ((ij r).to EE.toEnc ρ)∧H=hTo EE.toEnc ρ (Bq 100000 r)):=
 (dO (aa 0 Try.f40) 28 mixed (IK N) Try.func40 (by kernel_rfl) rfl rfl rfl rfl (Iz x1 y0 h) ρ hi).mono fun out H h=>cx.retH rfl rfl h
def eP(N:Nat)(us:List (TV EE.T))(hs:List (Nat × TB EE.T)):XR EE.T:=
 gdX (eT us 2) <|
 bnX (aB us 0) fun i0=>
 bnX (aD .byte us 1) fun x1=>
 bnX (bS EE 3 hs i0) fun y0=>
 gdX (bA hs [i0]) <|
 .ret (aP N x1 y0) [i0] ij (Bq i0)
theorem eW(N:Nat):XOk Try.prog EE 40 (eP N):=fun us hs=>
 aJ fun h1=>ak fun i0 h2=>ak fun x1 h3=>ak fun y0 h4=>aJ fun h5=>fun z hz=>⟨rfl,fun ρ hi=>ni (us':=Fx x1 y0) (h0:=A0 x1 y0) (ρ':=jT ρ [i0]) hi h5 (by kernel_rfl) ⟨gJ h2 (by kernel_rfl),ja h3,bU h1⟩ ⟨(by kernel_rfl),so h4,trivial⟩ (fun hj=>pW x1 y0 hz _ hj) (fun out H h=>⟨h.1.trans (by kernel_rfl),h.2.trans (by kernel_rfl)⟩)⟩
def gP(r:Bool × VReader):TV EE.T:=.a (.d .bool r.1)
def As(i0:Nat)(r:Bool × VReader):List (Nat × TB EE.T):=[(i0,.cs (cv EE (.nam 3) r.2))]
def sD(r:Bool × VReader):RL EE.T:=.ret (gP r) (As 100000 r)
def Nh:Lvs:=⟨[],[],[],[],false,[(100000,(some 3,[]))],[100000],[],[]⟩
def Oa:List ResultVar:=[.tmp 4]
def H8(N:Nat):Gam EE:=⟨[],EQT,[⟨40,eP N⟩],[]⟩
theorem Jo(N:Nat):GOk Try.prog TT EE (H8 N):=GOk.consx (eW N) (GOk.nil cN)
def Jj(c:Code):List It2:=[.c c]
def LP(x1:UInt8)(y0:VReader):TS EE.T:=⟨18,[(0,.a (.box 100000 0)),(1,.a (.d .byte x1))],[(100000,.cs (cv EE (.nam 3) y0))],[]⟩
abbrev Nm(N:Nat)(r:Bool × VReader)(k:List It2)(s:TS EE.T):Prop:=fa (Y:=TT) EE (H8 N) Nh Oa (fun u=>u=sD r) k s
def Fi(x:Bool × VReader):Tree (Lf EE.T × Option (Bool × VReader)):=.leaf (.done (sD x),some x)
theorem J4{N:Nat}{r:Bool × VReader}(x1:UInt8)(y0:VReader)(h:au N x1 y0=some r):Nm N r (Jj (aa 0 Try.f44)) (LP x1 y0):=
 av (m:=4000) (t:=
 .bnd (aP N x1 y0) fun z1=>
 .cond (z1.1)
 (
  Fi (z1.1,({ M:=z1.2.M,At:=w64 (z1.2.At+1),Groups:=z1.2.Groups,F:=z1.2.F }:VReader)))
 (
  Fi (z1.1,z1.2))) (by kernel_rfl) (by kernel_rfl) h (fun _=>⟨aO (enc:=sD) rfl,aO (enc:=sD) rfl⟩)
def Fw(x1:UInt8)(y0:VReader):List (TV EE.T):=[.a (.box 100000 0),.a (.d .byte x1)]
def By(x1:UInt8)(y0:VReader):List (Nat × TB EE.T):=[(100000,.cs (cv EE (.nam 3) y0))]
theorem oB{N:Nat}(x1:UInt8)(y0:VReader){r:Bool × VReader}(h:au N x1 y0=some r)(ρ:Rn)(hi:Inj ρ (By x1 y0)):aE Try.prog 44 ((Fw x1 y0).map (TV.to EE.toEnc ρ)) (hTo EE.toEnc ρ (By x1 y0)) (fun out H=>out=.ret ((gP r).to EE.toEnc ρ)∧H=hTo EE.toEnc ρ (As 100000 r)):=
 (dO (aa 0 Try.f44) 18 mixed (Jo N) Try.func44 (by kernel_rfl) rfl rfl rfl rfl (J4 x1 y0 h) ρ hi).mono fun out H h=>cx.retH rfl rfl h
def gR(N:Nat)(us:List (TV EE.T))(hs:List (Nat × TB EE.T)):XR EE.T:=
 gdX (eT us 2) <|
 bnX (aB us 0) fun i0=>
 bnX (aD .byte us 1) fun x1=>
 bnX (bS EE 3 hs i0) fun y0=>
 gdX (bA hs [i0]) <|
 .ret (au N x1 y0) [i0] gP (As i0)
theorem i9(N:Nat):XOk Try.prog EE 44 (gR N):=fun us hs=>
 aJ fun h1=>ak fun i0 h2=>ak fun x1 h3=>ak fun y0 h4=>aJ fun h5=>fun z hz=>⟨rfl,fun ρ hi=>ni (us':=Fw x1 y0) (h0:=By x1 y0) (ρ':=jT ρ [i0]) hi h5 (by kernel_rfl) ⟨gJ h2 (by kernel_rfl),ja h3,bU h1⟩ ⟨(by kernel_rfl),so h4,trivial⟩ (fun hj=>oB x1 y0 hz _ hj) (fun out H h=>⟨h.1.trans (by kernel_rfl),h.2.trans (by kernel_rfl)⟩)⟩
def kG(r:Bool):TV EE.T:=.a (.d .bool r)
def mY(r:Bool):RL EE.T:=.ret (kG r) []
def Sb:Lvs:=⟨[],[],[],[],false,[],[],[],[]⟩
def SJ:List ResultVar:=[.tmp 2]
def Sl(N:Nat):Gam EE:=⟨[],EQT,[],[]⟩
theorem PT(N:Nat):GOk Try.prog TT EE (Sl N):=GOk.nil cN
def Rx(c:Code):List It2:=[.c c]
def Qg(x0:UInt8):TS EE.T:=⟨21,[(0,.a (.d .byte x0))],[],[]⟩
abbrev SE(N:Nat)(r:Bool)(k:List It2)(s:TS EE.T):Prop:=fa (Y:=TT) EE (Sl N) Sb SJ (fun u=>u=mY r) k s
def wa(x:Bool):Tree (Lf EE.T × Option Bool):=.leaf (.done (mY x),some x)
theorem Rl{N:Nat}{r:Bool}(x0:UInt8)(h:fJ N x0=some r):SE N r (Rx (aa 0 Try.f56)) (Qg x0):=
 av (m:=4000) (t:=
 .cond (decide ((b2i x0)≥(b2i 97)))
 (
  .cond (decide ((b2i x0)≤(b2i 122)))
  (
   wa true)
  (
   .cond (decide ((b2i x0)≥(b2i 65)))
   (
    .cond (decide ((b2i x0)≤(b2i 90)))
    (
     wa true)
    (
     wa ((b2i x0)==(b2i 95))))
   (
    wa ((b2i x0)==(b2i 95)))))
 (
  .cond (decide ((b2i x0)≥(b2i 65)))
  (
   .cond (decide ((b2i x0)≤(b2i 90)))
   (
    wa true)
   (
    wa ((b2i x0)==(b2i 95))))
  (
   wa ((b2i x0)==(b2i 95))))) (by kernel_rfl) (by kernel_rfl) h (⟨⟨aO (enc:=mY) rfl,⟨⟨aO (enc:=mY) rfl,aO (enc:=mY) rfl⟩,aO (enc:=mY) rfl⟩⟩,⟨⟨aO (enc:=mY) rfl,aO (enc:=mY) rfl⟩,aO (enc:=mY) rfl⟩⟩)
theorem ut{N:Nat}(x0:UInt8){r:Bool}(h:fJ N x0=some r)(ρ:Rn):aE Try.prog 56 (([.a (.d .byte x0)] :List (TV EE.T)).map (TV.to EE.toEnc ρ)) [] (fun out H=>out=.ret ((kG r).to EE.toEnc ρ)∧H=[]):=
 (rA (aa 0 Try.f56) 21 mixed (PT N) Try.func56 (by kernel_rfl) rfl rfl rfl rfl (Rl x0 h) ρ).mono fun out H h=>cx.ret rfl h
def kA(N:Nat):List (TV EE.T)→PV EE.T
 | [u0] =>match lp .byte u0 with
   |some x0=>.opt (fJ N x0) kG
   |_=>.bad
 |_=>.bad
theorem te(N:Nat)(us:List (TV EE.T)):(kA N us).ok fun u=>∀ρ,aE Try.prog 56 (us.map (TV.to EE.toEnc ρ)) [] (fun out H=>out=.ret (u.to EE.toEnc ρ)∧H=[]):=by
 unfold kA
 split
 ·split
  ·rename_i h0
   intro z hz ρ;refine eU ?_ (ut _ hz ρ);exact⟨ec h0 ρ,trivial⟩
  ·trivial
 ·trivial
def jR(r:Bool):TV EE.T:=.a (.d .bool r)
def BE(r:Bool):RL EE.T:=.ret (jR r) []
def RR:Lvs:=⟨[],[],[],[],false,[],[],[],[]⟩
def SR:List ResultVar:=[.tmp 2]
def R9(N:Nat):Gam EE:=⟨[],EQT,[],[]⟩
theorem P0(N:Nat):GOk Try.prog TT EE (R9 N):=GOk.nil cN
def Rw(c:Code):List It2:=[.c c]
def QQ(x0:UInt8):TS EE.T:=⟨9,[(0,.a (.d .byte x0))],[],[]⟩
abbrev SM(N:Nat)(r:Bool)(k:List It2)(s:TS EE.T):Prop:=fa (Y:=TT) EE (R9 N) RR SR (fun u=>u=BE r) k s
def Po(x:Bool):Tree (Lf EE.T × Option Bool):=.leaf (.done (BE x),some x)
theorem Qt{N:Nat}{r:Bool}(x0:UInt8)(h:dE N x0=some r):SM N r (Rw (aa 0 Try.f32)) (QQ x0):=
 av (m:=4000) (t:=
 .cond (decide ((b2i x0)≥(b2i 48)))
 (
  Po (decide ((b2i x0)≤(b2i 57))))
 (
  Po false)) (by kernel_rfl) (by kernel_rfl) h (⟨aO (enc:=BE) rfl,aO (enc:=BE) rfl⟩)
theorem sY{N:Nat}(x0:UInt8){r:Bool}(h:dE N x0=some r)(ρ:Rn):aE Try.prog 32 (([.a (.d .byte x0)] :List (TV EE.T)).map (TV.to EE.toEnc ρ)) [] (fun out H=>out=.ret ((jR r).to EE.toEnc ρ)∧H=[]):=
 (rA (aa 0 Try.f32) 9 mixed (P0 N) Try.func32 (by kernel_rfl) rfl rfl rfl rfl (Qt x0 h) ρ).mono fun out H h=>cx.ret rfl h
def jS(N:Nat):List (TV EE.T)→PV EE.T
 | [u0] =>match lp .byte u0 with
   |some x0=>.opt (dE N x0) jR
   |_=>.bad
 |_=>.bad
theorem sh(N:Nat)(us:List (TV EE.T)):(jS N us).ok fun u=>∀ρ,aE Try.prog 32 (us.map (TV.to EE.toEnc ρ)) [] (fun out H=>out=.ret (u.to EE.toEnc ρ)∧H=[]):=by
 unfold jS
 split
 ·split
  ·rename_i h0
   intro z hz ρ;refine eU ?_ (sY _ hz ρ);exact⟨ec h0 ρ,trivial⟩
  ·trivial
 ·trivial
def fV(r:VReader):TV EE.T:=.tu []
def Aa(i0:Nat)(r:VReader):List (Nat × TB EE.T):=[(i0,.cs (cv EE (.nam 3) r))]
def rR(r:VReader):RL EE.T:=.ret (fV r) (Aa 100000 r)
def OF:Lvs:=⟨[],[],[],[],false,[(100000,(some 3,[]))],[100000],[],[]⟩
def O1:List ResultVar:=[]
def KJ(N:Nat):Gam EE:=⟨[],EQT,[],[]⟩
theorem LW(N:Nat):GOk Try.prog TT EE (KJ N):=GOk.nil cN
def K3(c:Code):List It2:=[.c c]
def KQ(x1:Int)(x2:Int)(y0:VReader):TS EE.T:=⟨18,[(0,.a (.box 100000 0)),(1,.a (.d (.int .i64) x1)),(2,.a (.d (.int .i64) x2))],[(100000,.cs (cv EE (.nam 3) y0))],[]⟩
abbrev Oe(N:Nat)(r:VReader)(k:List It2)(s:TS EE.T):Prop:=fa (Y:=TT) EE (KJ N) OF O1 (fun u=>u=rR r) k s
def FJ(x:VReader):Tree (Lf EE.T × Option VReader):=.leaf (.done (rR x),some x)
theorem KS{N:Nat}{r:VReader}(x1:Int)(x2:Int)(y0:VReader)(h:ah N x1 x2 y0=some r):Oe N r (K3 (aa 0 Try.f24)) (KQ x1 x2 y0):=
 av (m:=4000) (t:=
 .cond (y0.F.Err==0)
 (
  FJ ({ M:=y0.M,At:=y0.At,Groups:=y0.Groups,F:=({ Err:=x1,At:=x2 }:VFault) }:VReader))
 (
  FJ y0)) (by kernel_rfl) (by kernel_rfl) h (⟨aO (enc:=rR) rfl,aO (enc:=rR) rfl⟩)
def Gz(x1:Int)(x2:Int)(y0:VReader):List (TV EE.T):=[.a (.box 100000 0),.a (.d (.int .i64) x1),.a (.d (.int .i64) x2)]
def AF(x1:Int)(x2:Int)(y0:VReader):List (Nat × TB EE.T):=[(100000,.cs (cv EE (.nam 3) y0))]
theorem m7{N:Nat}(x1:Int)(x2:Int)(y0:VReader){r:VReader}(h:ah N x1 x2 y0=some r)(ρ:Rn)(hi:Inj ρ (AF x1 x2 y0)):aE Try.prog 24 ((Gz x1 x2 y0).map (TV.to EE.toEnc ρ)) (hTo EE.toEnc ρ (AF x1 x2 y0)) (fun out H=>out=.ret ((fV r).to EE.toEnc ρ)∧H=hTo EE.toEnc ρ (Aa 100000 r)):=
 (dO (aa 0 Try.f24) 18 mixed (LW N) Try.func24 (by kernel_rfl) rfl rfl rfl rfl (KS x1 x2 y0 h) ρ hi).mono fun out H h=>cx.retH rfl rfl h
def eQ(N:Nat)(us:List (TV EE.T))(hs:List (Nat × TB EE.T)):XR EE.T:=
 gdX (eT us 3) <|
 bnX (aB us 0) fun i0=>
 bnX (aD (.int .i64) us 1) fun x1=>
 bnX (aD (.int .i64) us 2) fun x2=>
 bnX (bS EE 3 hs i0) fun y0=>
 gdX (bA hs [i0]) <|
 .ret (ah N x1 x2 y0) [i0] fV (Aa i0)
theorem fq(N:Nat):XOk Try.prog EE 24 (eQ N):=fun us hs=>
 aJ fun h1=>ak fun i0 h2=>ak fun x1 h3=>ak fun x2 h4=>ak fun y0 h5=>aJ fun h6=>fun z hz=>⟨rfl,fun ρ hi=>ni (us':=Gz x1 x2 y0) (h0:=AF x1 x2 y0) (ρ':=jT ρ [i0]) hi h6 (by kernel_rfl) ⟨gJ h2 (by kernel_rfl),ja h3,ja h4,bU h1⟩ ⟨(by kernel_rfl),so h5,trivial⟩ (fun hj=>m7 x1 x2 y0 hz _ hj) (fun out H h=>⟨h.1.trans (by kernel_rfl),h.2.trans (by kernel_rfl)⟩)⟩
def oh(r:List Bool):TV EE.T:=.a (.d (.sl .bool) r)
def E3(r:List Bool):RL EE.T:=.ret (oh r) []
def R4:Lvs:=⟨[],[],[],[],false,[],[],[(3,[.cl 4 (.v .bool) (.s 3)])],[]⟩
def Sj:List ResultVar:=[.tmp 2]
def Sh(N:Nat):Gam EE:=⟨[],EQT,[],[4]⟩
theorem Qu(N:Nat):GOk Try.prog TT EE (Sh N):=GOk.nil cN
def Ql(c:Code):List It2:=[.c c]
def QT(x0:UInt8):TS EE.T:=⟨9,[(0,.a (.d .byte x0))],[],[]⟩
abbrev RZ(N:Nat)(r:List Bool)(k:List It2)(s:TS EE.T):Prop:=fa (Y:=TT) EE (Sh N) R4 Sj (fun u=>u=E3 r) k s
def Rz(x:List Bool):Tree (Lf EE.T × Option (List Bool)):=.leaf (.done (E3 x),some x)
theorem Ro{N:Nat}{r:List Bool}(x0:UInt8)(h:fO N x0=some r):RZ N r (Ql (aa 0 Try.f57)) (QT x0):=
 av (m:=4000) (t:=
 .bnd (uq 1 256 256) fun z1=>
 .bnd (dg z1.1 (b2i x0)) fun z2=>
 .bnd (gW (List.replicate z1.2 false) (0+z2) true) fun z3=>
 .bnd (un z1.1 z1.2 z3) fun z4=>
 Rz z4) (by kernel_rfl) (by kernel_rfl) h (fun _=>fun _=>fun _=>fun _=>aO (enc:=E3) rfl)
theorem Aj{N:Nat}(x0:UInt8){r:List Bool}(h:fO N x0=some r)(ρ:Rn):aE Try.prog 57 (([.a (.d .byte x0)] :List (TV EE.T)).map (TV.to EE.toEnc ρ)) [] (fun out H=>out=.ret ((oh r).to EE.toEnc ρ)∧H=[]):=
 (rA (aa 0 Try.f57) 9 mixed (Qu N) Try.func57 (by kernel_rfl) rfl rfl rfl rfl (Ro x0 h) ρ).mono fun out H h=>cx.ret rfl h
def oG(N:Nat):List (TV EE.T)→PV EE.T
 | [u0] =>match lp .byte u0 with
   |some x0=>.opt (fO N x0) oh
   |_=>.bad
 |_=>.bad
theorem xQ(N:Nat)(us:List (TV EE.T)):(oG N us).ok fun u=>∀ρ,aE Try.prog 57 (us.map (TV.to EE.toEnc ρ)) [] (fun out H=>out=.ret (u.to EE.toEnc ρ)∧H=[]):=by
 unfold oG
 split
 ·split
  ·rename_i h0
   intro z hz ρ;refine eU ?_ (Aj _ hz ρ);exact⟨ec h0 ρ,trivial⟩
  ·trivial
 ·trivial
def fU(r:Bool × VReader):TV EE.T:=.a (.d .bool r.1)
def Am(i0:Nat)(r:Bool × VReader):List (Nat × TB EE.T):=[(i0,.cs (cv EE (.nam 3) r.2))]
def su(r:Bool × VReader):RL EE.T:=.ret (fU r) (Am 100000 r)
def MJ:Lvs:=⟨[],[(2,⟨[(0,false),(1,false),(5,false)],[],[(100000,(some 3,[]))],[]⟩)],[],[],false,[(100000,(some 3,[]))],[100000],[],[]⟩
def NC:List ResultVar:=[.tmp 4]
def Lv(N:Nat):Gam EE:=⟨[],EQT,[⟨40,eP N⟩],[]⟩
theorem IR(N:Nat):GOk Try.prog TT EE (Lv N):=GOk.consx (eW N) (GOk.nil cN)
def Ds(c:Code):List It2:=atL 2 c
def D8(x1:List UInt8)(x5:Int)(Tc:VReader):TS EE.T:=⟨17,[(0,.a (.box 100000 0)),(1,.a (.d .str x1)),(5,.a (.d (.int .i64) x5))],[(100000,.cs (cv EE (.nam 3) Tc))],[]⟩
def JG(c:Code):List It2:=[.c c]
def IZ(x1:List UInt8)(y0:VReader):TS EE.T:=⟨17,[(0,.a (.box 100000 0)),(1,.a (.d .str x1))],[(100000,.cs (cv EE (.nam 3) y0))],[]⟩
def CR(c:Code)(f:(List UInt8)→Int→VReader→Option (Bool × VReader))(x1:List UInt8)(x5:Int)(Tc:VReader):Tree (Lf EE.T × Option (Bool × VReader)):=.leaf (.go (Ds c) (D8 x1 x5 Tc),f x1 x5 Tc)
abbrev Fs(N:Nat)(r:Bool × VReader)(k:List It2)(s:TS EE.T):Prop:=fa (Y:=TT) EE (Lv N) MJ NC (fun u=>u=su r) k s
def FV(x:Bool × VReader):Tree (Lf EE.T × Option (Bool × VReader)):=.leaf (.done (su x),some x)
theorem CX{N:Nat}{r:Bool × VReader}:∀ (n:Nat) (x1:List UInt8) (x5:Int) (Tc:VReader),cm N n x1 x5 Tc=some r→Fs N r (Ds (aa 0 Try.f42)) (D8 x1 x5 Tc)
 |0,_,_,_,h=>by cases h
 |n+1,x1,x5,Tc,h=>av (m:=4000) (t:=
  .cond (decide (x5 < (x1.length:Int)))
  (
   .bnd (cg x1 x5) fun z1=>
   .bnd (aP N z1 Tc) fun z2=>
   .cond (z2.1)
   (
    FV (true,z2.2))
   (
    CR (aa 0 Try.f42) (cm N n) x1 (w64 (x5+1)) z2.2))
  (
   FV (false,Tc))) (by kernel_rfl) (by kernel_rfl) h (⟨fun _=>fun _=>⟨aO (enc:=su) rfl,fun h=>(CX n) _ _ _ h⟩,aO (enc:=su) rfl⟩)
theorem Ix{N:Nat}{r:Bool × VReader}(x1:List UInt8)(y0:VReader)(h:aW N x1 y0=some r):Fs N r (JG (aa 0 Try.f42)) (IZ x1 y0):=
 av (m:=4000) (t:=
 CR (aa 0 Try.f42) (cm N N) x1 0 y0) (by kernel_rfl) (by kernel_rfl) h (fun h=>CX N _ _ _ h)
def FO(x1:List UInt8)(y0:VReader):List (TV EE.T):=[.a (.box 100000 0),.a (.d .str x1)]
def BK(x1:List UInt8)(y0:VReader):List (Nat × TB EE.T):=[(100000,.cs (cv EE (.nam 3) y0))]
theorem nC{N:Nat}(x1:List UInt8)(y0:VReader){r:Bool × VReader}(h:aW N x1 y0=some r)(ρ:Rn)(hi:Inj ρ (BK x1 y0)):aE Try.prog 42 ((FO x1 y0).map (TV.to EE.toEnc ρ)) (hTo EE.toEnc ρ (BK x1 y0)) (fun out H=>out=.ret ((fU r).to EE.toEnc ρ)∧H=hTo EE.toEnc ρ (Am 100000 r)):=
 (dO (aa 0 Try.f42) 17 mixed (IR N) Try.func42 (by kernel_rfl) rfl rfl rfl rfl (Ix x1 y0 h) ρ hi).mono fun out H h=>cx.retH rfl rfl h
def fY(N:Nat)(us:List (TV EE.T))(hs:List (Nat × TB EE.T)):XR EE.T:=
 gdX (eT us 2) <|
 bnX (aB us 0) fun i0=>
 bnX (aD .str us 1) fun x1=>
 bnX (bS EE 3 hs i0) fun y0=>
 gdX (bA hs [i0]) <|
 .ret (aW N x1 y0) [i0] fU (Am i0)
theorem io(N:Nat):XOk Try.prog EE 42 (fY N):=fun us hs=>
 aJ fun h1=>ak fun i0 h2=>ak fun x1 h3=>ak fun y0 h4=>aJ fun h5=>fun z hz=>⟨rfl,fun ρ hi=>ni (us':=FO x1 y0) (h0:=BK x1 y0) (ρ':=jT ρ [i0]) hi h5 (by kernel_rfl) ⟨gJ h2 (by kernel_rfl),ja h3,bU h1⟩ ⟨(by kernel_rfl),so h4,trivial⟩ (fun hj=>nC x1 y0 hz _ hj) (fun out H h=>⟨h.1.trans (by kernel_rfl),h.2.trans (by kernel_rfl)⟩)⟩
def qF(r:Bool):TV EE.T:=.a (.d .bool r)
def pT(r:Bool):List (Nat × TB EE.T):=[]
def fK(N:RecC4)(us:List (TV EE.T))(hs:List (Nat × TB EE.T)):XR EE.T:=
 gdX (eT us 1) <|
 bnX (aD (.sl (.sl (.nam 11))) us 0) fun x0=>
 gdX (bA hs []) <|
 .may (jq N x0) [] qF (pT)
def s7(N:RecC4):Prop:=XOk Try.prog EE 43 (fK N)
theorem oM(N:RecC4)(hN:s7 N):XOk Try.prog EE 43 (fK N):=hN
theorem HD(n:Nat):s7 ⟨n,fun _=>none⟩:=fun us hs=>
 aJ fun h1=>ak fun x0 h2=>aJ fun h3=>fun p hz=>by cases hz
def gK(r:Bool):TV EE.T:=.a (.d .bool r)
def Bp(r:Bool):List (Nat × TB EE.T):=[]
def pd(r:PR Bool):RL EE.T:=match r with
 |.ok z=>.ret (gK z) (Bp z)
 |.pan v=>.pan v
def NP:Lvs:=⟨[(7,⟨[(0,false),(3,false),(4,false),(5,false)],[],[],[]⟩)],[(2,⟨[(0,false),(3,false)],[],[],[]⟩),(6,⟨[(0,false),(3,false),(4,false),(5,false)],[],[],[]⟩)],[7],[],false,[],[],[],[]⟩
def NK:List ResultVar:=[.tmp 2]
def Li(N:RecC4):Gam EE:=⟨[],EQT,[⟨43,fK N⟩],[]⟩
theorem Kd(N:RecC4)(hN:s7 N):GOk Try.prog TT EE (Li N):=GOk.consx (oM N hN) (GOk.nil cN)
def D1(c:Code):List It2:=atR 7 c
def B1(x0:List (List VPiece))(x3:Int)(x4:Bool)(x5:Int):TS EE.T:=⟨50,[(0,.a (.d (.sl (.sl (.nam 11))) x0)),(3,.a (.d (.int .i64) x3)),(4,.a (.d .bool x4)),(5,.a (.d (.int .i64) x5))],[],[]⟩
def vV(c:Code):List It2:=atL 6 c
def v6(x0:List (List VPiece))(x3:Int)(x4:Bool)(x5:Int):TS EE.T:=⟨50,[(0,.a (.d (.sl (.sl (.nam 11))) x0)),(3,.a (.d (.int .i64) x3)),(4,.a (.d .bool x4)),(5,.a (.d (.int .i64) x5))],[],[]⟩
def sy(c:Code):List It2:=atL 2 c
def rP(x0:List (List VPiece))(x3:Int):TS EE.T:=⟨50,[(0,.a (.d (.sl (.sl (.nam 11))) x0)),(3,.a (.d (.int .i64) x3))],[],[]⟩
def KT(c:Code):List It2:=[.c c]
def Kn(x0:List (List VPiece)):TS EE.T:=⟨50,[(0,.a (.d (.sl (.sl (.nam 11))) x0))],[],[]⟩
def n9(c:Code)(f:(List (List VPiece))→Int→Bool→Int→Option (PR Bool))(x0:List (List VPiece))(x3:Int)(x4:Bool)(x5:Int):Tree (Lf EE.T × Option (PR Bool)):=.leaf (.go (D1 c) (B1 x0 x3 x4 x5),f x0 x3 x4 x5)
def Dm(c:Code)(f:(List (List VPiece))→Int→Bool→Int→Option (PR Bool))(x0:List (List VPiece))(x3:Int)(x4:Bool)(x5:Int):Tree (Lf EE.T × Option (PR Bool)):=.leaf (.go (vV c) (v6 x0 x3 x4 x5),f x0 x3 x4 x5)
def C4(c:Code)(f:(List (List VPiece))→Int→Option (PR Bool))(x0:List (List VPiece))(x3:Int):Tree (Lf EE.T × Option (PR Bool)):=.leaf (.go (sy c) (rP x0 x3),f x0 x3)
abbrev np(N:RecC4)(r:PR Bool)(k:List It2)(s:TS EE.T):Prop:=fa (Y:=TT) EE (Li N) NP NK (fun u=>u=pd r) k s
def AI(x:PR Bool):Tree (Lf EE.T × Option (PR Bool)):=.leaf (.done (pd x),some x)
theorem pc{N:RecC4}{r:PR Bool}{k6:(List (List VPiece))→Int→Bool→Int→Option (PR Bool)}{k2:(List (List VPiece))→Int→Option (PR Bool)}(hk6:∀x0 x3 x4 x5,k6 x0 x3 x4 x5=some r→np N r (vV (aa 0 Try.f43)) (v6 x0 x3 x4 x5))(hk2:∀x0 x3,k2 x0 x3=some r→np N r (sy (aa 0 Try.f43)) (rP x0 x3))(n:Nat)(x0:List (List VPiece))(x3:Int)(x4:Bool)(x5:Int)(h:bn N k6 k2 n x0 x3 x4 x5=some r):np N r (D1 (aa 0 Try.f43)) (B1 x0 x3 x4 x5):=
 av (m:=4000) (t:=
 Dm (aa 0 Try.f43) k6 x0 x3 x4 (w64 (x5+1))) (by kernel_rfl) (by kernel_rfl) h (fun h=>hk6 _ _ _ _ h)
theorem mf{N:RecC4}{r:PR Bool}{k2:(List (List VPiece))→Int→Option (PR Bool)}(hk2:∀x0 x3,k2 x0 x3=some r→np N r (sy (aa 0 Try.f43)) (rP x0 x3)):∀ (n:Nat) (x0:List (List VPiece)) (x3:Int) (x4:Bool) (x5:Int),aT N k2 n x0 x3 x4 x5=some r→np N r (vV (aa 0 Try.f43)) (v6 x0 x3 x4 x5)
 |0,_,_,_,_,h=>by cases h
 |n+1,x0,x3,x4,x5,h=>av (m:=4000) (t:=
  .bnd (cg x0 x3) fun z1=>
  .cond (decide (x5 < (z1.length:Int)))
  (
   .bnd (cg x0 x3) fun z2=>
   .bnd (cg z2 x5) fun z3=>
   .cond (x4)
   (
    .cond ((b2i z3.Sign)==(b2i 42))
    (
     n9 (aa 0 Try.f43) (bn N (aT N k2 n) k2 n) x0 x3 true x5)
    (
     .cond ((b2i z3.Sign)==(b2i 63))
     (
      n9 (aa 0 Try.f43) (bn N (aT N k2 n) k2 n) x0 x3 true x5)
     (
      .cond (z3.Group)
      (
       .bnd (jq N z3.Rows) fun z4=>
       .sm z4 (fun z5=>
        n9 (aa 0 Try.f43) (bn N (aT N k2 n) k2 n) x0 x3 z5 x5) (fun vz4=>
        AI (.pan vz4)))
      (
       n9 (aa 0 Try.f43) (bn N (aT N k2 n) k2 n) x0 x3 false x5))))
   (
    n9 (aa 0 Try.f43) (bn N (aT N k2 n) k2 n) x0 x3 false x5))
  (
   .cond (x4)
   (
    AI (.ok true))
   (
    C4 (aa 0 Try.f43) k2 x0 (w64 (x3+1))))) (by kernel_rfl) (by kernel_rfl) h (fun _=>⟨fun _=>fun _=>⟨⟨fun h=>pc (mf hk2 n) hk2 n _ _ _ _ h,⟨fun h=>pc (mf hk2 n) hk2 n _ _ _ _ h,⟨fun _=>⟨fun _=>fun h=>pc (mf hk2 n) hk2 n _ _ _ _ h,fun _=>aO (enc:=pd) rfl⟩,fun h=>pc (mf hk2 n) hk2 n _ _ _ _ h⟩⟩⟩,fun h=>pc (mf hk2 n) hk2 n _ _ _ _ h⟩,⟨aO (enc:=pd) rfl,fun h=>hk2 _ _ h⟩⟩)
theorem Ed{N:RecC4}{r:PR Bool}:∀ (n:Nat) (x0:List (List VPiece)) (x3:Int),bm N n x0 x3=some r→np N r (sy (aa 0 Try.f43)) (rP x0 x3)
 |0,_,_,h=>by cases h
 |n+1,x0,x3,h=>av (m:=4000) (t:=
  .cond (decide (x3 < (x0.length:Int)))
  (
   Dm (aa 0 Try.f43) (aT N (bm N n) n) x0 x3 true 0)
  (
   AI (.ok false))) (by kernel_rfl) (by kernel_rfl) h (⟨fun h=>mf (Ed n) n _ _ _ _ h,aO (enc:=pd) rfl⟩)
theorem LV{N:RecC4}{r:PR Bool}(x0:List (List VPiece))(h:f9 N x0=some r):np N r (KT (aa 0 Try.f43)) (Kn x0):=
 av (m:=4000) (t:=
 C4 (aa 0 Try.f43) (bm N N.n) x0 0) (by kernel_rfl) (by kernel_rfl) h (fun h=>Ed N.n _ _ h)
def Fq(x0:List (List VPiece)):List (TV EE.T):=[.a (.d (.sl (.sl (.nam 11))) x0)]
def AX(x0:List (List VPiece)):List (Nat × TB EE.T):=[]
theorem n8{N:RecC4}(hN:s7 N)(x0:List (List VPiece)){r:PR Bool}(h:f9 N x0=some r)(ρ:Rn)(hi:Inj ρ (AX x0)):aE Try.prog 43 ((Fq x0).map (TV.to EE.toEnc ρ)) (hTo EE.toEnc ρ (AX x0)) (fun out H=>match r with|.ok z=>out=.ret ((gK z).to EE.toEnc ρ)∧H=hTo EE.toEnc ρ (Bp z)|.pan v=>out=.pan v):=
 (dO (aa 0 Try.f43) 50 mixed (Kd N hN) Try.func43 (by kernel_rfl) rfl rfl rfl rfl (LV x0 h) ρ hi).mono fun out H h=>by cases r with|ok z=>exact cx.retH rfl rfl h|pan v=>exact cx.pan h
def pZ(N:RecC4)(us:List (TV EE.T))(hs:List (Nat × TB EE.T)):XR EE.T:=
 gdX (eT us 1) <|
 bnX (aD (.sl (.sl (.nam 11))) us 0) fun x0=>
 gdX (bA hs []) <|
 .may (f9 N x0) [] gK (Bp)
theorem nN(N:RecC4)(hN:s7 N):XOk Try.prog EE 43 (pZ N):=fun us hs=>
 aJ fun h1=>ak fun x0 h2=>aJ fun h3=>fun p hz=>⟨fun z e=>rfl,fun ρ hi=>ni (us':=Fq x0) (h0:=AX x0) (ρ':=jT ρ []) hi h3 (by kernel_rfl) ⟨ja h2,bU h1⟩ trivial (fun hj=>n8 hN x0 hz _ hj) (fun out H h=>by cases p with|ok z=>exact⟨h.1.trans (by kernel_rfl),h.2.trans (by kernel_rfl)⟩|pan v=>exact h)⟩
theorem kz(n0:Nat):∀m,s7 ⟨n0,bo n0 m⟩
 |0=>HD n0
 |m+1=>nN ⟨n0,bo n0 m⟩ (kz n0 m)
def kU(N:Nat):List (TV EE.T)→List (Nat × TB EE.T)→XR EE.T:=fK ⟨N,bo N N⟩
theorem ou(N:Nat):XOk Try.prog EE 43 (kU N):=kz N N
def p8(r:(List (List VPiece)) × VReader):TV EE.T:=.a (.d (.sl (.sl (.nam 11))) r.1)
def ot(i0:Nat)(r:(List (List VPiece)) × VReader):List (Nat × TB EE.T):=[(i0,.cs (cv EE (.nam 3) r.2))]
def fc(N:RecC3)(us:List (TV EE.T))(hs:List (Nat × TB EE.T)):XR EE.T:=
 gdX (eT us 1) <|
 bnX (aB us 0) fun i0=>
 bnX (bS EE 3 hs i0) fun y0=>
 gdX (bA hs [i0]) <|
 .may (iF N y0) [i0] p8 (ot i0)
def nk(N:RecC3):Prop:=XOk Try.prog EE 23 (fc N)
theorem nO(N:RecC3)(hN:nk N):XOk Try.prog EE 23 (fc N):=hN
theorem He(n:Nat):nk ⟨n,fun _=>none⟩:=fun us hs=>
 aJ fun h1=>ak fun i0 h2=>ak fun y0 h3=>aJ fun h4=>fun p hz=>by cases hz
def gk(r:ai):TV EE.T:=.ag (cv EE (.nam 11) r.1)
def BJ(i0:Nat)(r:ai):List (Nat × TB EE.T):=[(i0,.cs (cv EE (.nam 3) r.2))]
def dq(r:PR ai):RL EE.T:=match r with
 |.ok z=>.ret (gk z) (BJ 100000 z)
 |.pan v=>.pan v
def Pg:Lvs:=⟨[(1,⟨[(0,false),(2,false)],[],[(2,(none,[])),(100000,(some 3,[]))],[]⟩),(10,⟨[(0,false),(2,false)],[],[(2,(none,[])),(100000,(some 3,[]))],[]⟩),(13,⟨[(0,false),(2,false)],[],[(2,(none,[])),(100000,(some 3,[]))],[]⟩),(14,⟨[(0,false),(2,false)],[],[(2,(none,[])),(100000,(some 3,[]))],[]⟩),(21,⟨[(0,false),(2,false),(6,false),(7,false)],[],[(2,(none,[])),(117,(none,[])),(100000,(some 3,[]))],[]⟩),(24,⟨[(0,false),(2,false),(6,false),(7,false)],[],[(2,(none,[])),(117,(none,[])),(100000,(some 3,[]))],[]⟩),(28,⟨[(0,false),(2,false),(6,false),(7,false),(9,false)],[],[(2,(none,[])),(117,(none,[])),(100000,(some 3,[]))],[]⟩),(31,⟨[(0,false),(2,false),(6,false),(7,false),(9,false)],[],[(2,(none,[])),(117,(none,[])),(100000,(some 3,[]))],[]⟩),(36,⟨[(0,false),(2,false),(6,false),(7,false),(9,false),(10,false)],[],[(2,(none,[])),(117,(none,[])),(100000,(some 3,[]))],[]⟩)],[(5,⟨[(2,false),(4,false),(5,false)],[],[(2,(none,[])),(27,(none,[])),(100000,(some 3,[]))],[]⟩),(19,⟨[(0,false),(2,false),(6,false),(7,false),(8,false)],[],[(2,(none,[])),(117,(none,[])),(100000,(some 3,[]))],[]⟩),(37,⟨[(0,false),(2,false),(6,false),(7,false),(10,false),(11,false)],[],[(2,(none,[])),(117,(none,[])),(100000,(some 3,[]))],[]⟩),(41,⟨[(2,false),(6,false),(7,false),(12,false)],[],[(2,(none,[])),(117,(none,[])),(100000,(some 3,[]))],[]⟩)],[13,21,36],[],false,[(2,(some 11,[])),(100000,(some 3,[]))],[100000],[(8,[.cl 27 (.v .bool) (.s 4)]),(44,[.cl 117 (.v .bool) (.s 7)])],[]⟩
def MK:List ResultVar:=[.cell 2 111]
def JI(N:RecC3):Gam EE:=⟨[⟨56,kA N.n⟩,⟨32,jS N.n⟩,⟨57,oG N.n⟩],EQT,[⟨44,gR N.n⟩,⟨42,fY N.n⟩,⟨23,fc N⟩,⟨40,eP N.n⟩,⟨24,eQ N.n⟩],[27,117]⟩
theorem Lq(N:RecC3)(hN:nk N):GOk Try.prog TT EE (JI N):=GOk.cons (te N.n) (GOk.cons (sh N.n) (GOk.cons (xQ N.n) (GOk.consx (i9 N.n) (GOk.consx (io N.n) (GOk.consx (nO N hN) (GOk.consx (eW N.n) (GOk.consx (fq N.n) (GOk.nil cN))))))))
def DB(c:Code):List It2:=atL 5 c
def DO(x4_n:Nat)(x4_c:Nat)(x5:Int)(b2_0:Bool)(b2_1:List Bool)(b2_2:Int)(b2_3:List (List VPiece))(b2_4:UInt8)(b27:List Bool)(Tc:VReader):TS EE.T:=⟨312,[(2,.a (.box 2 0)),(4,.a (.bsl 27 0 x4_n x4_c)),(5,.a (.d (.int .i64) x5))],[(2,.cs [.d .bool b2_0,.own .bool b2_1,.d (.int .i64) b2_2,.own (.sl (.nam 11)) b2_3,.d .byte b2_4]),(27,.row .bool b27),(100000,.cs (cv EE (.nam 3) Tc))],[]⟩
def zy(c:Code):List It2:=atR 13 c
def yz(b2_0:Bool)(b2_1:List Bool)(b2_2:Int)(b2_3:List (List VPiece))(b2_4:UInt8)(Tc:VReader):TS EE.T:=⟨312,[(0,.a (.box 100000 0)),(2,.a (.box 2 0))],[(2,.cs [.d .bool b2_0,.own .bool b2_1,.d (.int .i64) b2_2,.own (.sl (.nam 11)) b2_3,.d .byte b2_4]),(100000,.cs (cv EE (.nam 3) Tc))],[]⟩
def zN(c:Code):List It2:=atL 37 c
def yJ(x6:Bool)(x7_n:Nat)(x7_c:Nat)(x10:Int)(x11:Int)(b2_0:Bool)(b2_1:List Bool)(b2_2:Int)(b2_3:List (List VPiece))(b2_4:UInt8)(b117:List Bool)(Tc:VReader):TS EE.T:=⟨312,[(0,.a (.box 100000 0)),(2,.a (.box 2 0)),(6,.a (.d .bool x6)),(7,.a (.bsl 117 0 x7_n x7_c)),(10,.a (.d (.int .i64) x10)),(11,.a (.d (.int .i64) x11))],[(2,.cs [.d .bool b2_0,.own .bool b2_1,.d (.int .i64) b2_2,.own (.sl (.nam 11)) b2_3,.d .byte b2_4]),(117,.row .bool b117),(100000,.cs (cv EE (.nam 3) Tc))],[]⟩
def zY(c:Code):List It2:=atR 36 c
def yI(x6:Bool)(x7_n:Nat)(x7_c:Nat)(x9:Int)(x10:Int)(b2_0:Bool)(b2_1:List Bool)(b2_2:Int)(b2_3:List (List VPiece))(b2_4:UInt8)(b117:List Bool)(Tc:VReader):TS EE.T:=⟨312,[(0,.a (.box 100000 0)),(2,.a (.box 2 0)),(6,.a (.d .bool x6)),(7,.a (.bsl 117 0 x7_n x7_c)),(9,.a (.d (.int .i64) x9)),(10,.a (.d (.int .i64) x10))],[(2,.cs [.d .bool b2_0,.own .bool b2_1,.d (.int .i64) b2_2,.own (.sl (.nam 11)) b2_3,.d .byte b2_4]),(117,.row .bool b117),(100000,.cs (cv EE (.nam 3) Tc))],[]⟩
def zo(c:Code):List It2:=atR 21 c
def yu(x6:Bool)(x7_n:Nat)(x7_c:Nat)(b2_0:Bool)(b2_1:List Bool)(b2_2:Int)(b2_3:List (List VPiece))(b2_4:UInt8)(b117:List Bool)(Tc:VReader):TS EE.T:=⟨312,[(0,.a (.box 100000 0)),(2,.a (.box 2 0)),(6,.a (.d .bool x6)),(7,.a (.bsl 117 0 x7_n x7_c))],[(2,.cs [.d .bool b2_0,.own .bool b2_1,.d (.int .i64) b2_2,.own (.sl (.nam 11)) b2_3,.d .byte b2_4]),(117,.row .bool b117),(100000,.cs (cv EE (.nam 3) Tc))],[]⟩
def yC(c:Code):List It2:=atL 41 c
def y8(x6:Bool)(x7_n:Nat)(x7_c:Nat)(x12:Int)(b2_0:Bool)(b2_1:List Bool)(b2_2:Int)(b2_3:List (List VPiece))(b2_4:UInt8)(b117:List Bool)(Tc:VReader):TS EE.T:=⟨312,[(2,.a (.box 2 0)),(6,.a (.d .bool x6)),(7,.a (.bsl 117 0 x7_n x7_c)),(12,.a (.d (.int .i64) x12))],[(2,.cs [.d .bool b2_0,.own .bool b2_1,.d (.int .i64) b2_2,.own (.sl (.nam 11)) b2_3,.d .byte b2_4]),(117,.row .bool b117),(100000,.cs (cv EE (.nam 3) Tc))],[]⟩
def lZ(c:Code):List It2:=atL 19 c
def mw(x6:Bool)(x7_n:Nat)(x7_c:Nat)(x8:Bool)(b2_0:Bool)(b2_1:List Bool)(b2_2:Int)(b2_3:List (List VPiece))(b2_4:UInt8)(b117:List Bool)(Tc:VReader):TS EE.T:=⟨312,[(0,.a (.box 100000 0)),(2,.a (.box 2 0)),(6,.a (.d .bool x6)),(7,.a (.bsl 117 0 x7_n x7_c)),(8,.a (.d .bool x8))],[(2,.cs [.d .bool b2_0,.own .bool b2_1,.d (.int .i64) b2_2,.own (.sl (.nam 11)) b2_3,.d .byte b2_4]),(117,.row .bool b117),(100000,.cs (cv EE (.nam 3) Tc))],[]⟩
def IV(c:Code):List It2:=[.c c]
def Mw(y0:VReader):TS EE.T:=⟨312,[(0,.a (.box 100000 0))],[(100000,.cs (cv EE (.nam 3) y0))],[]⟩
def Ci(c:Code)(f:Nat→Nat→Int→Bool→(List Bool)→Int→(List (List VPiece))→UInt8→(List Bool)→VReader→Option (PR ai))(x4_n:Nat)(x4_c:Nat)(x5:Int)(b2_0:Bool)(b2_1:List Bool)(b2_2:Int)(b2_3:List (List VPiece))(b2_4:UInt8)(b27:List Bool)(Tc:VReader):Tree (Lf EE.T × Option (PR ai)):=.leaf (.go (DB c) (DO x4_n x4_c x5 b2_0 b2_1 b2_2 b2_3 b2_4 b27 Tc),f x4_n x4_c x5 b2_0 b2_1 b2_2 b2_3 b2_4 b27 Tc)
def yx(c:Code)(f:Bool→(List Bool)→Int→(List (List VPiece))→UInt8→VReader→Option (PR ai))(b2_0:Bool)(b2_1:List Bool)(b2_2:Int)(b2_3:List (List VPiece))(b2_4:UInt8)(Tc:VReader):Tree (Lf EE.T × Option (PR ai)):=.leaf (.go (zy c) (yz b2_0 b2_1 b2_2 b2_3 b2_4 Tc),f b2_0 b2_1 b2_2 b2_3 b2_4 Tc)
def zC(c:Code)(f:Bool→Nat→Nat→Int→Int→Bool→(List Bool)→Int→(List (List VPiece))→UInt8→(List Bool)→VReader→Option (PR ai))(x6:Bool)(x7_n:Nat)(x7_c:Nat)(x10:Int)(x11:Int)(b2_0:Bool)(b2_1:List Bool)(b2_2:Int)(b2_3:List (List VPiece))(b2_4:UInt8)(b117:List Bool)(Tc:VReader):Tree (Lf EE.T × Option (PR ai)):=.leaf (.go (zN c) (yJ x6 x7_n x7_c x10 x11 b2_0 b2_1 b2_2 b2_3 b2_4 b117 Tc),f x6 x7_n x7_c x10 x11 b2_0 b2_1 b2_2 b2_3 b2_4 b117 Tc)
def yg(c:Code)(f:Bool→Nat→Nat→Int→Int→Bool→(List Bool)→Int→(List (List VPiece))→UInt8→(List Bool)→VReader→Option (PR ai))(x6:Bool)(x7_n:Nat)(x7_c:Nat)(x9:Int)(x10:Int)(b2_0:Bool)(b2_1:List Bool)(b2_2:Int)(b2_3:List (List VPiece))(b2_4:UInt8)(b117:List Bool)(Tc:VReader):Tree (Lf EE.T × Option (PR ai)):=.leaf (.go (zY c) (yI x6 x7_n x7_c x9 x10 b2_0 b2_1 b2_2 b2_3 b2_4 b117 Tc),f x6 x7_n x7_c x9 x10 b2_0 b2_1 b2_2 b2_3 b2_4 b117 Tc)
def yc(c:Code)(f:Bool→Nat→Nat→Bool→(List Bool)→Int→(List (List VPiece))→UInt8→(List Bool)→VReader→Option (PR ai))(x6:Bool)(x7_n:Nat)(x7_c:Nat)(b2_0:Bool)(b2_1:List Bool)(b2_2:Int)(b2_3:List (List VPiece))(b2_4:UInt8)(b117:List Bool)(Tc:VReader):Tree (Lf EE.T × Option (PR ai)):=.leaf (.go (zo c) (yu x6 x7_n x7_c b2_0 b2_1 b2_2 b2_3 b2_4 b117 Tc),f x6 x7_n x7_c b2_0 b2_1 b2_2 b2_3 b2_4 b117 Tc)
def zR(c:Code)(f:Bool→Nat→Nat→Int→Bool→(List Bool)→Int→(List (List VPiece))→UInt8→(List Bool)→VReader→Option (PR ai))(x6:Bool)(x7_n:Nat)(x7_c:Nat)(x12:Int)(b2_0:Bool)(b2_1:List Bool)(b2_2:Int)(b2_3:List (List VPiece))(b2_4:UInt8)(b117:List Bool)(Tc:VReader):Tree (Lf EE.T × Option (PR ai)):=.leaf (.go (yC c) (y8 x6 x7_n x7_c x12 b2_0 b2_1 b2_2 b2_3 b2_4 b117 Tc),f x6 x7_n x7_c x12 b2_0 b2_1 b2_2 b2_3 b2_4 b117 Tc)
def zp(c:Code)(f:Bool→Nat→Nat→Bool→Bool→(List Bool)→Int→(List (List VPiece))→UInt8→(List Bool)→VReader→Option (PR ai))(x6:Bool)(x7_n:Nat)(x7_c:Nat)(x8:Bool)(b2_0:Bool)(b2_1:List Bool)(b2_2:Int)(b2_3:List (List VPiece))(b2_4:UInt8)(b117:List Bool)(Tc:VReader):Tree (Lf EE.T × Option (PR ai)):=.leaf (.go (lZ c) (mw x6 x7_n x7_c x8 b2_0 b2_1 b2_2 b2_3 b2_4 b117 Tc),f x6 x7_n x7_c x8 b2_0 b2_1 b2_2 b2_3 b2_4 b117 Tc)
abbrev iR(N:RecC3)(r:PR ai)(k:List It2)(s:TS EE.T):Prop:=fa (Y:=TT) EE (JI N) Pg MK (fun u=>u=dq r) k s
def eG(x:PR ai):Tree (Lf EE.T × Option (PR ai)):=.leaf (.done (dq x),some x)
theorem DL{N:RecC3}{r:PR ai}:∀ (n:Nat) (x4_n:Nat) (x4_c:Nat) (x5:Int) (b2_0:Bool) (b2_1:List Bool) (b2_2:Int) (b2_3:List (List VPiece)) (b2_4:UInt8) (b27:List Bool) (Tc:VReader),dk N n x4_n x4_c x5 b2_0 b2_1 b2_2 b2_3 b2_4 b27 Tc=some r→iR N r (DB (aa 0 Try.f41)) (DO x4_n x4_c x5 b2_0 b2_1 b2_2 b2_3 b2_4 b27 Tc)
 |0,_,_,_,_,_,_,_,_,_,_,h=>by cases h
 |n+1,x4_n,x4_c,x5,b2_0,b2_1,b2_2,b2_3,b2_4,b27,Tc,h=>av (m:=4000) (t:=
  .cond (decide (x5 < 256))
  (
   .bnd (dg x4_n x5) fun z28=>
   .bnd (gW b27 (0+z28) true) fun z29=>
   Ci (aa 0 Try.f41) (dk N n) x4_n x4_c (w64 (x5+1)) b2_0 b2_1 b2_2 b2_3 b2_4 z29 Tc)
  (
   .bnd (un x4_n x4_c b27) fun z30=>
   eG (.ok ((VPiece.mk false z30 0 ([] :List (List VPiece)) 0),Tc)))) (by kernel_rfl) (by kernel_rfl) h (⟨fun _=>fun _=>fun h=>(DL n) _ _ _ _ _ _ _ _ _ _ h,fun _=>aO (enc:=dq) rfl⟩)
theorem yT{N:RecC3}{r:PR ai}(n:Nat)(b2_0:Bool)(b2_1:List Bool)(b2_2:Int)(b2_3:List (List VPiece))(b2_4:UInt8)(Tc:VReader)(h:cq N n b2_0 b2_1 b2_2 b2_3 b2_4 Tc=some r):iR N r (zy (aa 0 Try.f41)) (yz b2_0 b2_1 b2_2 b2_3 b2_4 Tc):=
 av (m:=4000) (t:=
 .bnd (cg Tc.M (w64 ((w64 (Tc.At+1)) - 1))) fun z31=>
 .bnd (fO N.n z31) fun z32=>
 eG (.ok ((VPiece.mk false z32 0 ([] :List (List VPiece)) 0),({ M:=Tc.M,At:=w64 (Tc.At+1),Groups:=Tc.Groups,F:=Tc.F }:VReader)))) (by kernel_rfl) (by kernel_rfl) h (fun _=>fun _=>aO (enc:=dq) rfl)
theorem yD{N:RecC3}{r:PR ai}{k19:Bool→Nat→Nat→Bool→Bool→(List Bool)→Int→(List (List VPiece))→UInt8→(List Bool)→VReader→Option (PR ai)}(hk19:∀x6 x7_n x7_c x8 b2_0 b2_1 b2_2 b2_3 b2_4 b117 Tc,k19 x6 x7_n x7_c x8 b2_0 b2_1 b2_2 b2_3 b2_4 b117 Tc=some r→iR N r (lZ (aa 0 Try.f41)) (mw x6 x7_n x7_c x8 b2_0 b2_1 b2_2 b2_3 b2_4 b117 Tc)):∀ (n:Nat) (x6:Bool) (x7_n:Nat) (x7_c:Nat) (x10:Int) (x11:Int) (b2_0:Bool) (b2_1:List Bool) (b2_2:Int) (b2_3:List (List VPiece)) (b2_4:UInt8) (b117:List Bool) (Tc:VReader),bG N k19 n x6 x7_n x7_c x10 x11 b2_0 b2_1 b2_2 b2_3 b2_4 b117 Tc=some r→iR N r (zN (aa 0 Try.f41)) (yJ x6 x7_n x7_c x10 x11 b2_0 b2_1 b2_2 b2_3 b2_4 b117 Tc)
 |0,_,_,_,_,_,_,_,_,_,_,_,_,h=>by cases h
 |n+1,x6,x7_n,x7_c,x10,x11,b2_0,b2_1,b2_2,b2_3,b2_4,b117,Tc,h=>av (m:=4000) (t:=
  .cond (decide (x11≤x10))
  (
   .bnd (dg x7_n x11) fun z49=>
   .bnd (gW b117 (0+z49) true) fun z50=>
   zC (aa 0 Try.f41) (bG N k19 n) x6 x7_n x7_c x10 (w64 (x11+1)) b2_0 b2_1 b2_2 b2_3 b2_4 z50 Tc)
  (
   zp (aa 0 Try.f41) k19 x6 x7_n x7_c false b2_0 b2_1 b2_2 b2_3 b2_4 b117 Tc)) (by kernel_rfl) (by kernel_rfl) h (⟨fun _=>fun _=>fun h=>(yD hk19 n) _ _ _ _ _ _ _ _ _ _ _ _ h,fun h=>hk19 _ _ _ _ _ _ _ _ _ _ _ h⟩)
theorem zj{N:RecC3}{r:PR ai}{k19:Bool→Nat→Nat→Bool→Bool→(List Bool)→Int→(List (List VPiece))→UInt8→(List Bool)→VReader→Option (PR ai)}(hk19:∀x6 x7_n x7_c x8 b2_0 b2_1 b2_2 b2_3 b2_4 b117 Tc,k19 x6 x7_n x7_c x8 b2_0 b2_1 b2_2 b2_3 b2_4 b117 Tc=some r→iR N r (lZ (aa 0 Try.f41)) (mw x6 x7_n x7_c x8 b2_0 b2_1 b2_2 b2_3 b2_4 b117 Tc))(n:Nat)(x6:Bool)(x7_n:Nat)(x7_c:Nat)(x9:Int)(x10:Int)(b2_0:Bool)(b2_1:List Bool)(b2_2:Int)(b2_3:List (List VPiece))(b2_4:UInt8)(b117:List Bool)(Tc:VReader)(h:dH N k19 n x6 x7_n x7_c x9 x10 b2_0 b2_1 b2_2 b2_3 b2_4 b117 Tc=some r):iR N r (zY (aa 0 Try.f41)) (yI x6 x7_n x7_c x9 x10 b2_0 b2_1 b2_2 b2_3 b2_4 b117 Tc):=
 av (m:=4000) (t:=
 zC (aa 0 Try.f41) (bG N k19 n) x6 x7_n x7_c x10 x9 b2_0 b2_1 b2_2 b2_3 b2_4 b117 Tc) (by kernel_rfl) (by kernel_rfl) h (fun h=>yD hk19 n _ _ _ _ _ _ _ _ _ _ _ _ h)
theorem yQ{N:RecC3}{r:PR ai}{k19:Bool→Nat→Nat→Bool→Bool→(List Bool)→Int→(List (List VPiece))→UInt8→(List Bool)→VReader→Option (PR ai)}(hk19:∀x6 x7_n x7_c x8 b2_0 b2_1 b2_2 b2_3 b2_4 b117 Tc,k19 x6 x7_n x7_c x8 b2_0 b2_1 b2_2 b2_3 b2_4 b117 Tc=some r→iR N r (lZ (aa 0 Try.f41)) (mw x6 x7_n x7_c x8 b2_0 b2_1 b2_2 b2_3 b2_4 b117 Tc))(n:Nat)(x6:Bool)(x7_n:Nat)(x7_c:Nat)(b2_0:Bool)(b2_1:List Bool)(b2_2:Int)(b2_3:List (List VPiece))(b2_4:UInt8)(b117:List Bool)(Tc:VReader)(h:cF N k19 n x6 x7_n x7_c b2_0 b2_1 b2_2 b2_3 b2_4 b117 Tc=some r):iR N r (zo (aa 0 Try.f41)) (yu x6 x7_n x7_c b2_0 b2_1 b2_2 b2_3 b2_4 b117 Tc):=
 av (m:=4000) (t:=
 .cond (Tc.At==(Tc.M.length:Int))
 (
  .bnd (ah N.n 1 Tc.At Tc) fun z34=>
  eG (.ok ((VPiece.mk false ([] :List Bool) 0 ([] :List (List VPiece)) 0),z34)))
 (
  .bnd (aW N.n ([91,93,92,94,45] :List UInt8) Tc) fun z35=>
  .cond (z35.1)
  (
   .bnd (ah N.n 1 z35.2.At z35.2) fun z36=>
   eG (.ok ((VPiece.mk false ([] :List Bool) 0 ([] :List (List VPiece)) 0),z36)))
  (
   .bnd (cg z35.2.M z35.2.At) fun z37=>
   .bnd (au N.n 45 ({ M:=z35.2.M,At:=w64 (z35.2.At+1),Groups:=z35.2.Groups,F:=z35.2.F }:VReader)) fun z38=>
   .cond (z38.1)
   (
    .cond (z38.2.At==(z38.2.M.length:Int))
    (
     .bnd (ah N.n 1 z38.2.At z38.2) fun z39=>
     eG (.ok ((VPiece.mk false ([] :List Bool) 0 ([] :List (List VPiece)) 0),z39)))
    (
     .bnd (aW N.n ([91,93,92,94,45] :List UInt8) z38.2) fun z40=>
     .cond (z40.1)
     (
      .bnd (ah N.n 1 z40.2.At z40.2) fun z41=>
      eG (.ok ((VPiece.mk false ([] :List Bool) 0 ([] :List (List VPiece)) 0),z41)))
     (
      .bnd (cg z40.2.M z40.2.At) fun z42=>
      .cond (decide ((w64 (b2i z42)) < (w64 (b2i z37))))
      (
       .bnd (ah N.n 3 z40.2.At z40.2) fun z43=>
       eG (.ok ((VPiece.mk false ([] :List Bool) 0 ([] :List (List VPiece)) 0),z43)))
      (
       yg (aa 0 Try.f41) (dH N k19 n) x6 x7_n x7_c (w64 (b2i z37)) (w64 (b2i z42)) b2_0 b2_1 b2_2 b2_3 b2_4 b117 ({ M:=z40.2.M,At:=w64 (z40.2.At+1),Groups:=z40.2.Groups,F:=z40.2.F }:VReader)))))
   (
    yg (aa 0 Try.f41) (dH N k19 n) x6 x7_n x7_c (w64 (b2i z37)) (w64 (b2i z37)) b2_0 b2_1 b2_2 b2_3 b2_4 b117 z38.2)))) (by kernel_rfl) (by kernel_rfl) h (⟨fun _=>aO (enc:=dq) rfl,fun _=>⟨fun _=>aO (enc:=dq) rfl,fun _=>fun _=>⟨⟨fun _=>aO (enc:=dq) rfl,fun _=>⟨fun _=>aO (enc:=dq) rfl,fun _=>⟨fun _=>aO (enc:=dq) rfl,fun h=>zj hk19 n _ _ _ _ _ _ _ _ _ _ _ _ h⟩⟩⟩,fun h=>zj hk19 n _ _ _ _ _ _ _ _ _ _ _ _ h⟩⟩⟩)
theorem zx{N:RecC3}{r:PR ai}:∀ (n:Nat) (x6:Bool) (x7_n:Nat) (x7_c:Nat) (x12:Int) (b2_0:Bool) (b2_1:List Bool) (b2_2:Int) (b2_3:List (List VPiece)) (b2_4:UInt8) (b117:List Bool) (Tc:VReader),bZ N n x6 x7_n x7_c x12 b2_0 b2_1 b2_2 b2_3 b2_4 b117 Tc=some r→iR N r (yC (aa 0 Try.f41)) (y8 x6 x7_n x7_c x12 b2_0 b2_1 b2_2 b2_3 b2_4 b117 Tc)
 |0,_,_,_,_,_,_,_,_,_,_,_,h=>by cases h
 |n+1,x6,x7_n,x7_c,x12,b2_0,b2_1,b2_2,b2_3,b2_4,b117,Tc,h=>av (m:=4000) (t:=
  .cond (decide (x12 < 256))
  (
   .bnd (dg x7_n x12) fun z44=>
   .bnd (b117[0+z44]?) fun z45=>
   .bnd (dg x7_n x12) fun z46=>
   .bnd (gW b117 (0+z46) (!(z45==x6))) fun z47=>
   zR (aa 0 Try.f41) (bZ N n) x6 x7_n x7_c (w64 (x12+1)) b2_0 b2_1 b2_2 b2_3 b2_4 z47 Tc)
  (
   .bnd (un x7_n x7_c b117) fun z48=>
   eG (.ok ((VPiece.mk false z48 0 ([] :List (List VPiece)) 0),Tc)))) (by kernel_rfl) (by kernel_rfl) h (⟨fun _=>fun _=>fun _=>fun _=>fun h=>(zx n) _ _ _ _ _ _ _ _ _ _ _ h,fun _=>aO (enc:=dq) rfl⟩)
theorem s9{N:RecC3}{r:PR ai}:∀ (n:Nat) (x6:Bool) (x7_n:Nat) (x7_c:Nat) (x8:Bool) (b2_0:Bool) (b2_1:List Bool) (b2_2:Int) (b2_3:List (List VPiece)) (b2_4:UInt8) (b117:List Bool) (Tc:VReader),bf N n x6 x7_n x7_c x8 b2_0 b2_1 b2_2 b2_3 b2_4 b117 Tc=some r→iR N r (lZ (aa 0 Try.f41)) (mw x6 x7_n x7_c x8 b2_0 b2_1 b2_2 b2_3 b2_4 b117 Tc)
 |0,_,_,_,_,_,_,_,_,_,_,_,h=>by cases h
 |n+1,x6,x7_n,x7_c,x8,b2_0,b2_1,b2_2,b2_3,b2_4,b117,Tc,h=>av (m:=4000) (t:=
  .cond (x8)
  (
   yc (aa 0 Try.f41) (cF N (bf N n) n) x6 x7_n x7_c b2_0 b2_1 b2_2 b2_3 b2_4 b117 Tc)
  (
   .bnd (au N.n 93 Tc) fun z33=>
   .cond (!z33.1)
   (
    yc (aa 0 Try.f41) (cF N (bf N n) n) x6 x7_n x7_c b2_0 b2_1 b2_2 b2_3 b2_4 b117 z33.2)
   (
    zR (aa 0 Try.f41) (bZ N n) x6 x7_n x7_c 0 b2_0 b2_1 b2_2 b2_3 b2_4 b117 z33.2))) (by kernel_rfl) (by kernel_rfl) h (⟨fun h=>yQ (s9 n) n _ _ _ _ _ _ _ _ _ _ h,fun _=>⟨fun h=>yQ (s9 n) n _ _ _ _ _ _ _ _ _ _ h,fun h=>zx n _ _ _ _ _ _ _ _ _ _ _ h⟩⟩)
theorem Jq{N:RecC3}{r:PR ai}(y0:VReader)(h:bw N y0=some r):iR N r (IV (aa 0 Try.f41)) (Mw y0):=
 av (m:=4000) (t:=
 .bnd (cg y0.M y0.At) fun z1=>
 .bnd (au N.n 46 y0) fun z2=>
 .cond (z2.1)
 (
  .bnd (uq 1 256 256) fun z3=>
  Ci (aa 0 Try.f41) (dk N N.n) z3.1 z3.2 0 false ([] :List Bool) 0 ([] :List (List VPiece)) 0 (List.replicate z3.2 false) z2.2)
 (
  .bnd (au N.n 92 z2.2) fun z4=>
  .cond (z4.1)
  (
   .cond (z4.2.At==(z4.2.M.length:Int))
   (
    .bnd (ah N.n 1 z4.2.At z4.2) fun z5=>
    eG (.ok ((VPiece.mk false ([] :List Bool) 0 ([] :List (List VPiece)) 0),z5)))
   (
    .bnd (cg z4.2.M z4.2.At) fun z6=>
    .bnd (fJ N.n z6) fun z7=>
    .cond (z7)
    (
     .bnd (cg z4.2.M z4.2.At) fun z8=>
     .cond ((b2i z8) != (b2i 95))
     (
      .bnd (ah N.n 1 z4.2.At z4.2) fun z9=>
      eG (.ok ((VPiece.mk false ([] :List Bool) 0 ([] :List (List VPiece)) 0),z9)))
     (
      .bnd (cg z4.2.M z4.2.At) fun z10=>
      .bnd (dE N.n z10) fun z11=>
      .cond (z11)
      (
       .bnd (ah N.n 1 z4.2.At z4.2) fun z12=>
       eG (.ok ((VPiece.mk false ([] :List Bool) 0 ([] :List (List VPiece)) 0),z12)))
      (
       yx (aa 0 Try.f41) (cq N N.n) false ([] :List Bool) 0 ([] :List (List VPiece)) 0 z4.2)))
    (
     .bnd (cg z4.2.M z4.2.At) fun z13=>
     .bnd (dE N.n z13) fun z14=>
     .cond (z14)
     (
      .bnd (ah N.n 1 z4.2.At z4.2) fun z15=>
      eG (.ok ((VPiece.mk false ([] :List Bool) 0 ([] :List (List VPiece)) 0),z15)))
     (
      yx (aa 0 Try.f41) (cq N N.n) false ([] :List Bool) 0 ([] :List (List VPiece)) 0 z4.2))))
  (
   .bnd (au N.n 91 z4.2) fun z16=>
   .cond (z16.1)
   (
    .bnd (au N.n 94 z16.2) fun z17=>
    .bnd (uq 1 256 256) fun z18=>
    zp (aa 0 Try.f41) (bf N N.n) z17.1 z18.1 z18.2 true false ([] :List Bool) 0 ([] :List (List VPiece)) 0 (List.replicate z18.2 false) z17.2)
   (
    .bnd (aP N.n 40 z16.2) fun z19=>
    .cond (z19.1)
    (
     .cond (z19.2.Groups==9)
     (
      .bnd (ah N.n 2 z19.2.At z19.2) fun z20=>
      eG (.ok ((VPiece.mk false ([] :List Bool) 0 ([] :List (List VPiece)) 0),z20)))
     (
      .bnd (iF N ({ M:=z19.2.M,At:=w64 (z19.2.At+1),Groups:=w64 (z19.2.Groups+1),F:=z19.2.F }:VReader)) fun z21=>
      .sm z21 (fun z22=>
       .cond (z22.2.F.Err==0)
       (
        .bnd (au N.n 41 z22.2) fun z23=>
        .cond (!z23.1)
        (
         .bnd (ah N.n 1 z23.2.At z23.2) fun z24=>
         eG (.ok ((VPiece.mk true ([] :List Bool) (w64 (z19.2.Groups+1)) z22.1 0),z24)))
        (
         eG (.ok ((VPiece.mk true ([] :List Bool) (w64 (z19.2.Groups+1)) z22.1 0),z23.2))))
       (
        eG (.ok ((VPiece.mk true ([] :List Bool) (w64 (z19.2.Groups+1)) z22.1 0),z22.2)))) (fun vz21=>
       eG (.pan vz21))))
    (
     .bnd (aW N.n ([42,43,63,41,124,93] :List UInt8) z19.2) fun z25=>
     .cond (z25.1)
     (
      .bnd (ah N.n 1 z25.2.At z25.2) fun z26=>
      eG (.ok ((VPiece.mk false ([] :List Bool) 0 ([] :List (List VPiece)) 0),z26)))
     (
      .bnd (fO N.n z1) fun z27=>
      eG (.ok ((VPiece.mk false z27 0 ([] :List (List VPiece)) 0),({ M:=z25.2.M,At:=w64 (z25.2.At+1),Groups:=z25.2.Groups,F:=z25.2.F }:VReader))))))))) (by kernel_rfl) (by kernel_rfl) h (fun _=>fun _=>⟨fun _=>fun h=>DL N.n _ _ _ _ _ _ _ _ _ _ h,fun _=>⟨⟨fun _=>aO (enc:=dq) rfl,fun _=>fun _=>⟨fun _=>⟨fun _=>aO (enc:=dq) rfl,fun _=>fun _=>⟨fun _=>aO (enc:=dq) rfl,fun h=>yT N.n _ _ _ _ _ _ h⟩⟩,fun _=>fun _=>⟨fun _=>aO (enc:=dq) rfl,fun h=>yT N.n _ _ _ _ _ _ h⟩⟩⟩,fun _=>⟨fun _=>fun _=>fun h=>s9 N.n _ _ _ _ _ _ _ _ _ _ _ h,fun _=>⟨⟨fun _=>aO (enc:=dq) rfl,fun _=>⟨fun _=>⟨fun _=>⟨fun _=>aO (enc:=dq) rfl,aO (enc:=dq) rfl⟩,aO (enc:=dq) rfl⟩,fun _=>aO (enc:=dq) rfl⟩⟩,fun _=>⟨fun _=>aO (enc:=dq) rfl,fun _=>aO (enc:=dq) rfl⟩⟩⟩⟩⟩)
def Gd(y0:VReader):List (TV EE.T):=[.a (.box 100000 0)]
def BV(y0:VReader):List (Nat × TB EE.T):=[(100000,.cs (cv EE (.nam 3) y0))]
theorem nQ{N:RecC3}(hN:nk N)(y0:VReader){r:PR ai}(h:bw N y0=some r)(ρ:Rn)(hi:Inj ρ (BV y0)):aE Try.prog 41 ((Gd y0).map (TV.to EE.toEnc ρ)) (hTo EE.toEnc ρ (BV y0)) (fun out H=>match r with|.ok z=>out=.ret ((gk z).to EE.toEnc ρ)∧H=hTo EE.toEnc ρ (BJ 100000 z)|.pan v=>out=.pan v):=
 (dO (aa 0 Try.f41) 312 mixed (Lq N hN) Try.func41 (by kernel_rfl) rfl rfl rfl rfl (Jq y0 h) ρ hi).mono fun out H h=>by cases r with|ok z=>exact cx.retH rfl rfl h|pan v=>exact cx.pan h
def jy(N:RecC3)(us:List (TV EE.T))(hs:List (Nat × TB EE.T)):XR EE.T:=
 gdX (eT us 1) <|
 bnX (aB us 0) fun i0=>
 bnX (bS EE 3 hs i0) fun y0=>
 gdX (bA hs [i0]) <|
 .may (bw N y0) [i0] gk (BJ i0)
theorem nt(N:RecC3)(hN:nk N):XOk Try.prog EE 41 (jy N):=fun us hs=>
 aJ fun h1=>ak fun i0 h2=>ak fun y0 h3=>aJ fun h4=>fun p hz=>⟨fun z e=>rfl,fun ρ hi=>ni (us':=Gd y0) (h0:=BV y0) (ρ':=jT ρ [i0]) hi h4 (by kernel_rfl) ⟨gJ h2 (by kernel_rfl),bU h1⟩ ⟨(by kernel_rfl),so h3,trivial⟩ (fun hj=>nQ hN y0 hz _ hj) (fun out H h=>by cases p with|ok z=>exact⟨h.1.trans (by kernel_rfl),h.2.trans (by kernel_rfl)⟩|pan v=>exact h)⟩
def ge(r:ae):TV EE.T:=.a (.d (.sl (.sl (.nam 11))) r.1)
def A7(i0:Nat)(r:ae):List (Nat × TB EE.T):=[(i0,.cs (cv EE (.nam 3) r.2))]
def mg(r:PR ae):RL EE.T:=match r with
 |.ok z=>.ret (ge z) (A7 100000 z)
 |.pan v=>.pan v
def Ot:Lvs:=⟨[(4,⟨[(0,false),(3,false),(4,false)],[],[(100000,(some 3,[]))],[]⟩),(9,⟨[(0,false),(3,false),(4,false),(5,false)],[],[(5,(some 11,[])),(100000,(some 3,[]))],[]⟩),(11,⟨[(0,false),(3,false),(4,false),(5,false)],[],[(5,(some 11,[])),(100000,(some 3,[]))],[]⟩),(12,⟨[(0,false),(3,false),(4,false)],[],[(100000,(some 3,[]))],[]⟩)],[(2,⟨[(0,false),(3,false)],[],[(100000,(some 3,[]))],[]⟩),(4,⟨[(0,false),(3,false),(4,false)],[],[(100000,(some 3,[]))],[]⟩)],[9,11,12],[],false,[(100000,(some 3,[]))],[100000],[],[]⟩
def Ni:List ResultVar:=[.tmp 2]
def Mp(N:RecC3):Gam EE:=⟨[],EQT,[⟨44,gR N.n⟩,⟨42,fY N.n⟩,⟨43,kU N.n⟩,⟨41,jy N⟩,⟨40,eP N.n⟩,⟨24,eQ N.n⟩],[]⟩
theorem Il(N:RecC3)(hN:nk N):GOk Try.prog TT EE (Mp N):=GOk.consx (i9 N.n) (GOk.consx (io N.n) (GOk.consx (ou N.n) (GOk.consx (nt N hN) (GOk.consx (eW N.n) (GOk.consx (fq N.n) (GOk.nil cN))))))
def zI(c:Code):List It2:=atR 11 c
def zz(x3:List (List VPiece))(x4:List VPiece)(b5:VPiece)(Tc:VReader):TS EE.T:=⟨99,[(0,.a (.box 100000 0)),(3,.a (.own (.sl (.nam 11)) x3)),(4,.a (.own (.nam 11) x4)),(5,.a (.box 5 0))],[(5,.cs (cv EE (.nam 11) b5)),(100000,.cs (cv EE (.nam 3) Tc))],[]⟩
def Em(c:Code):List It2:=atR 9 c
def DZ(x3:List (List VPiece))(x4:List VPiece)(b5:VPiece)(Tc:VReader):TS EE.T:=⟨99,[(0,.a (.box 100000 0)),(3,.a (.own (.sl (.nam 11)) x3)),(4,.a (.own (.nam 11) x4)),(5,.a (.box 5 0))],[(5,.cs (cv EE (.nam 11) b5)),(100000,.cs (cv EE (.nam 3) Tc))],[]⟩
def yE(c:Code):List It2:=atR 12 c
def yX(x3:List (List VPiece))(x4:List VPiece)(Tc:VReader):TS EE.T:=⟨99,[(0,.a (.box 100000 0)),(3,.a (.own (.sl (.nam 11)) x3)),(4,.a (.own (.nam 11) x4))],[(100000,.cs (cv EE (.nam 3) Tc))],[]⟩
def rC(c:Code):List It2:=atL 4 c
def sb(x3:List (List VPiece))(x4:List VPiece)(Tc:VReader):TS EE.T:=⟨99,[(0,.a (.box 100000 0)),(3,.a (.own (.sl (.nam 11)) x3)),(4,.a (.own (.nam 11) x4))],[(100000,.cs (cv EE (.nam 3) Tc))],[]⟩
def mb(c:Code):List It2:=atL 2 c
def mA(x3:List (List VPiece))(Tc:VReader):TS EE.T:=⟨99,[(0,.a (.box 100000 0)),(3,.a (.own (.sl (.nam 11)) x3))],[(100000,.cs (cv EE (.nam 3) Tc))],[]⟩
def Mi(c:Code):List It2:=[.c c]
def Ky(y0:VReader):TS EE.T:=⟨99,[(0,.a (.box 100000 0))],[(100000,.cs (cv EE (.nam 3) y0))],[]⟩
def sQ(c:Code)(f:(List (List VPiece))→(List VPiece)→VPiece→VReader→Option (PR ae))(x3:List (List VPiece))(x4:List VPiece)(b5:VPiece)(Tc:VReader):Tree (Lf EE.T × Option (PR ae)):=.leaf (.go (zI c) (zz x3 x4 b5 Tc),f x3 x4 b5 Tc)
def rU(c:Code)(f:(List (List VPiece))→(List VPiece)→VPiece→VReader→Option (PR ae))(x3:List (List VPiece))(x4:List VPiece)(b5:VPiece)(Tc:VReader):Tree (Lf EE.T × Option (PR ae)):=.leaf (.go (Em c) (DZ x3 x4 b5 Tc),f x3 x4 b5 Tc)
def pi(c:Code)(f:(List (List VPiece))→(List VPiece)→VReader→Option (PR ae))(x3:List (List VPiece))(x4:List VPiece)(Tc:VReader):Tree (Lf EE.T × Option (PR ae)):=.leaf (.go (yE c) (yX x3 x4 Tc),f x3 x4 Tc)
def C3(c:Code)(f:(List (List VPiece))→(List VPiece)→VReader→Option (PR ae))(x3:List (List VPiece))(x4:List VPiece)(Tc:VReader):Tree (Lf EE.T × Option (PR ae)):=.leaf (.go (rC c) (sb x3 x4 Tc),f x3 x4 Tc)
def DT(c:Code)(f:(List (List VPiece))→VReader→Option (PR ae))(x3:List (List VPiece))(Tc:VReader):Tree (Lf EE.T × Option (PR ae)):=.leaf (.go (mb c) (mA x3 Tc),f x3 Tc)
abbrev hY(N:RecC3)(r:PR ae)(k:List It2)(s:TS EE.T):Prop:=fa (Y:=TT) EE (Mp N) Ot Ni (fun u=>u=mg r) k s
def uU(x:PR ae):Tree (Lf EE.T × Option (PR ae)):=.leaf (.done (mg x),some x)
theorem tv{N:RecC3}{r:PR ae}{k4:(List (List VPiece))→(List VPiece)→VReader→Option (PR ae)}{k2:(List (List VPiece))→VReader→Option (PR ae)}(hk4:∀x3 x4 Tc,k4 x3 x4 Tc=some r→hY N r (rC (aa 0 Try.f23)) (sb x3 x4 Tc))(hk2:∀x3 Tc,k2 x3 Tc=some r→hY N r (mb (aa 0 Try.f23)) (mA x3 Tc))(n:Nat)(x3:List (List VPiece))(x4:List VPiece)(b5:VPiece)(Tc:VReader)(h:aX N k4 k2 n x3 x4 b5 Tc=some r):hY N r (zI (aa 0 Try.f23)) (zz x3 x4 b5 Tc):=
 av (m:=4000) (t:=
 .bnd (g9 72 x4 ([(VPiece.mk b5.Group b5.Set b5.Number b5.Rows b5.Sign)] :List VPiece)) fun z11=>
 C3 (aa 0 Try.f23) k4 x3 z11 Tc) (by kernel_rfl) (by kernel_rfl) h (fun _=>fun h=>hk4 _ _ _ h)
theorem rn{N:RecC3}{r:PR ae}{k4:(List (List VPiece))→(List VPiece)→VReader→Option (PR ae)}{k2:(List (List VPiece))→VReader→Option (PR ae)}(hk4:∀x3 x4 Tc,k4 x3 x4 Tc=some r→hY N r (rC (aa 0 Try.f23)) (sb x3 x4 Tc))(hk2:∀x3 Tc,k2 x3 Tc=some r→hY N r (mb (aa 0 Try.f23)) (mA x3 Tc))(n:Nat)(x3:List (List VPiece))(x4:List VPiece)(b5:VPiece)(Tc:VReader)(h:aF N k4 k2 n x3 x4 b5 Tc=some r):hY N r (Em (aa 0 Try.f23)) (DZ x3 x4 b5 Tc):=
 av (m:=4000) (t:=
 .bnd (cg Tc.M Tc.At) fun z10=>
 sQ (aa 0 Try.f23) (aX N k4 k2 n) x3 x4 (VPiece.mk b5.Group b5.Set b5.Number b5.Rows z10) ({ M:=Tc.M,At:=w64 (Tc.At+1),Groups:=Tc.Groups,F:=Tc.F }:VReader)) (by kernel_rfl) (by kernel_rfl) h (fun _=>fun h=>tv hk4 hk2 n _ _ _ _ h)
theorem pQ{N:RecC3}{r:PR ae}{k2:(List (List VPiece))→VReader→Option (PR ae)}(hk2:∀x3 Tc,k2 x3 Tc=some r→hY N r (mb (aa 0 Try.f23)) (mA x3 Tc))(n:Nat)(x3:List (List VPiece))(x4:List VPiece)(Tc:VReader)(h:aY N k2 n x3 x4 Tc=some r):hY N r (yE (aa 0 Try.f23)) (yX x3 x4 Tc):=
 av (m:=4000) (t:=
 .bnd (g9 24 x3 ([x4] :List (List VPiece))) fun z12=>
 .bnd (au N.n 124 Tc) fun z13=>
 .cond (!z13.1)
 (
  uU (.ok (z12,z13.2)))
 (
  DT (aa 0 Try.f23) k2 z12 z13.2)) (by kernel_rfl) (by kernel_rfl) h (fun _=>fun _=>⟨aO (enc:=mg) rfl,fun h=>hk2 _ _ h⟩)
theorem ll{N:RecC3}{r:PR ae}{k2:(List (List VPiece))→VReader→Option (PR ae)}(hk2:∀x3 Tc,k2 x3 Tc=some r→hY N r (mb (aa 0 Try.f23)) (mA x3 Tc)):∀ (n:Nat) (x3:List (List VPiece)) (x4:List VPiece) (Tc:VReader),aA N k2 n x3 x4 Tc=some r→hY N r (rC (aa 0 Try.f23)) (sb x3 x4 Tc)
 |0,_,_,_,h=>by cases h
 |n+1,x3,x4,Tc,h=>av (m:=4000) (t:=
  .cond (Tc.F.Err==0)
  (
   .cond (decide (Tc.At < (Tc.M.length:Int)))
   (
    .bnd (aP N.n 124 Tc) fun z1=>
    .cond (!z1.1)
    (
     .bnd (aP N.n 41 z1.2) fun z2=>
     .cond (!z2.1)
     (
      .bnd (bw N z2.2) fun z3=>
      .sm z3 (fun z4=>
       .cond (z4.2.F.Err==0)
       (
        .bnd (aW N.n ([42,43,63] :List UInt8) z4.2) fun z5=>
        .cond (z5.1)
        (
         .cond (z4.1.Group)
         (
          .bnd (aP N.n 63 z5.2) fun z6=>
          .cond (!z6.1)
          (
           .bnd (jo N.n z4.1.Rows) fun z7=>
           .sm z7 (fun z8=>
            .cond (z8)
            (
             .bnd (ah N.n 4 z6.2.At z6.2) fun z9=>
             rU (aa 0 Try.f23) (aF N (aA N k2 n) k2 n) x3 x4 (VPiece.mk z4.1.Group z4.1.Set z4.1.Number z4.1.Rows z4.1.Sign) z9)
            (
             rU (aa 0 Try.f23) (aF N (aA N k2 n) k2 n) x3 x4 (VPiece.mk z4.1.Group z4.1.Set z4.1.Number z4.1.Rows z4.1.Sign) z6.2)) (fun vz7=>
            uU (.pan vz7)))
          (
           rU (aa 0 Try.f23) (aF N (aA N k2 n) k2 n) x3 x4 (VPiece.mk z4.1.Group z4.1.Set z4.1.Number z4.1.Rows z4.1.Sign) z6.2))
         (
          rU (aa 0 Try.f23) (aF N (aA N k2 n) k2 n) x3 x4 (VPiece.mk z4.1.Group z4.1.Set z4.1.Number z4.1.Rows z4.1.Sign) z5.2))
        (
         sQ (aa 0 Try.f23) (aX N (aA N k2 n) k2 n) x3 x4 (VPiece.mk z4.1.Group z4.1.Set z4.1.Number z4.1.Rows z4.1.Sign) z5.2))
       (
        sQ (aa 0 Try.f23) (aX N (aA N k2 n) k2 n) x3 x4 (VPiece.mk z4.1.Group z4.1.Set z4.1.Number z4.1.Rows z4.1.Sign) z4.2)) (fun vz3=>
       uU (.pan vz3)))
     (
      pi (aa 0 Try.f23) (aY N k2 n) x3 x4 z2.2))
    (
     pi (aa 0 Try.f23) (aY N k2 n) x3 x4 z1.2))
   (
    pi (aa 0 Try.f23) (aY N k2 n) x3 x4 Tc))
  (
   pi (aa 0 Try.f23) (aY N k2 n) x3 x4 Tc)) (by kernel_rfl) (by kernel_rfl) h (⟨⟨fun _=>⟨fun _=>⟨fun _=>⟨fun _=>⟨fun _=>⟨⟨fun _=>⟨fun _=>⟨fun _=>⟨fun _=>fun h=>rn (ll hk2 n) hk2 n _ _ _ _ h,fun h=>rn (ll hk2 n) hk2 n _ _ _ _ h⟩,fun _=>aO (enc:=mg) rfl⟩,fun h=>rn (ll hk2 n) hk2 n _ _ _ _ h⟩,fun h=>rn (ll hk2 n) hk2 n _ _ _ _ h⟩,fun h=>tv (ll hk2 n) hk2 n _ _ _ _ h⟩,fun h=>tv (ll hk2 n) hk2 n _ _ _ _ h⟩,fun _=>aO (enc:=mg) rfl⟩,fun h=>pQ hk2 n _ _ _ h⟩,fun h=>pQ hk2 n _ _ _ h⟩,fun h=>pQ hk2 n _ _ _ h⟩,fun h=>pQ hk2 n _ _ _ h⟩)
theorem Ee{N:RecC3}{r:PR ae}:∀ (n:Nat) (x3:List (List VPiece)) (Tc:VReader),bl N n x3 Tc=some r→hY N r (mb (aa 0 Try.f23)) (mA x3 Tc)
 |0,_,_,h=>by cases h
 |n+1,x3,Tc,h=>av (m:=4000) (t:=
  .cond (Tc.F.Err==0)
  (
   C3 (aa 0 Try.f23) (aA N (bl N n) n) x3 ([] :List VPiece) Tc)
  (
   uU (.ok (x3,Tc)))) (by kernel_rfl) (by kernel_rfl) h (⟨fun h=>ll (Ee n) n _ _ _ h,aO (enc:=mg) rfl⟩)
theorem Kf{N:RecC3}{r:PR ae}(y0:VReader)(h:fL N y0=some r):hY N r (Mi (aa 0 Try.f23)) (Ky y0):=
 av (m:=4000) (t:=
 DT (aa 0 Try.f23) (bl N N.n) ([] :List (List VPiece)) y0) (by kernel_rfl) (by kernel_rfl) h (fun h=>Ee N.n _ _ h)
def GA(y0:VReader):List (TV EE.T):=[.a (.box 100000 0)]
def Bc(y0:VReader):List (Nat × TB EE.T):=[(100000,.cs (cv EE (.nam 3) y0))]
theorem nL{N:RecC3}(hN:nk N)(y0:VReader){r:PR ae}(h:fL N y0=some r)(ρ:Rn)(hi:Inj ρ (Bc y0)):aE Try.prog 23 ((GA y0).map (TV.to EE.toEnc ρ)) (hTo EE.toEnc ρ (Bc y0)) (fun out H=>match r with|.ok z=>out=.ret ((ge z).to EE.toEnc ρ)∧H=hTo EE.toEnc ρ (A7 100000 z)|.pan v=>out=.pan v):=
 (dO (aa 0 Try.f23) 99 mixed (Il N hN) Try.func23 (by kernel_rfl) rfl rfl rfl rfl (Kf y0 h) ρ hi).mono fun out H h=>by cases r with|ok z=>exact cx.retH rfl rfl h|pan v=>exact cx.pan h
def oC(N:RecC3)(us:List (TV EE.T))(hs:List (Nat × TB EE.T)):XR EE.T:=
 gdX (eT us 1) <|
 bnX (aB us 0) fun i0=>
 bnX (bS EE 3 hs i0) fun y0=>
 gdX (bA hs [i0]) <|
 .may (fL N y0) [i0] ge (A7 i0)
theorem m8(N:RecC3)(hN:nk N):XOk Try.prog EE 23 (oC N):=fun us hs=>
 aJ fun h1=>ak fun i0 h2=>ak fun y0 h3=>aJ fun h4=>fun p hz=>⟨fun z e=>rfl,fun ρ hi=>ni (us':=GA y0) (h0:=Bc y0) (ρ':=jT ρ [i0]) hi h4 (by kernel_rfl) ⟨gJ h2 (by kernel_rfl),bU h1⟩ ⟨(by kernel_rfl),so h3,trivial⟩ (fun hj=>nL hN y0 hz _ hj) (fun out H h=>by cases p with|ok z=>exact⟨h.1.trans (by kernel_rfl),h.2.trans (by kernel_rfl)⟩|pan v=>exact h)⟩
theorem jZ(n0:Nat):∀m,nk ⟨n0,ax n0 m⟩
 |0=>He n0
 |m+1=>m8 ⟨n0,ax n0 m⟩ (jZ n0 m)
def j9(N:Nat):List (TV EE.T)→List (Nat × TB EE.T)→XR EE.T:=fc ⟨N,ax N N⟩
theorem nM(N:Nat):XOk Try.prog EE 23 (j9 N):=jZ N N
def ne(r:db):TV EE.T:=.tu [.a (.d (.sl (.sl (.nam 11))) r.1),.a (.d (.int .i64) r.2.1),.ag (cv EE (.nam 2) r.2.2)]
def KG(r:db):List (Nat × TB EE.T):=[]
def sP(r:PR db):RL EE.T:=match r with
 |.ok z=>.ret (ne z) (KG z)
 |.pan v=>.pan v
def Ss:Lvs:=⟨[(7,⟨[(4,false),(5,false),(6,false)],[],[(4,(some 2,[])),(13,(some 3,[]))],[]⟩),(8,⟨[(4,false),(5,false)],[],[(4,(some 2,[])),(13,(some 3,[]))],[]⟩),(9,⟨[(4,false),(5,false),(6,false)],[],[(4,(some 2,[])),(13,(some 3,[]))],[]⟩)],[],[7],[],false,[(4,(some 2,[]))],[],[],[]⟩
def RA:List ResultVar:=[.tmp 2,.tmp 3,.cell 4 28]
def RK(N:Nat):Gam EE:=⟨[],EQT,[⟨23,j9 N⟩,⟨24,eQ N⟩],[]⟩
theorem PZ(N:Nat):GOk Try.prog TT EE (RK N):=GOk.consx (nM N) (GOk.consx (fq N) (GOk.nil cN))
def Lr(c:Code):List It2:=atR 7 c
def Jy(x6:List (List VPiece))(b4:VFault)(b13:VReader):TS EE.T:=⟨53,[(4,.a (.box 4 0)),(5,.a (.box 13 0)),(6,.a (.d (.sl (.sl (.nam 11))) x6))],[(4,.cs (cv EE (.nam 2) b4)),(13,.cs (cv EE (.nam 3) b13))],[]⟩
def Q3(c:Code):List It2:=[.c c]
def QK(x0:List UInt8):TS EE.T:=⟨53,[(0,.a (.d .str x0))],[],[]⟩
def Fb(c:Code)(f:(List (List VPiece))→VFault→VReader→Option (PR db))(x6:List (List VPiece))(b4:VFault)(b13:VReader):Tree (Lf EE.T × Option (PR db)):=.leaf (.go (Lr c) (Jy x6 b4 b13),f x6 b4 b13)
abbrev Py(N:Nat)(r:PR db)(k:List It2)(s:TS EE.T):Prop:=fa (Y:=TT) EE (RK N) Ss RA (fun u=>u=sP r) k s
def Gi(x:PR db):Tree (Lf EE.T × Option (PR db)):=.leaf (.done (sP x),some x)
theorem w10oR7{N:Nat}{r:PR db}(n:Nat)(x6:List (List VPiece))(b4:VFault)(b13:VReader)(h:dp N n x6 b4 b13=some r):Py N r (Lr (aa 0 Try.f10)) (Jy x6 b4 b13):=
 av (m:=4000) (t:=
 .cond (b13.F.Err != 0)
 (
  Gi (.ok (([] :List (List VPiece)),0,b13.F)))
 (
  Gi (.ok (x6,b13.Groups,({ Err:=0,At:=0 }:VFault))))) (by kernel_rfl) (by kernel_rfl) h (⟨aO (enc:=sP) rfl,aO (enc:=sP) rfl⟩)
theorem Rj{N:Nat}{r:PR db}(x0:List UInt8)(h:ie N x0=some r):Py N r (Q3 (aa 0 Try.f10)) (QK x0):=
 av (m:=4000) (t:=
 .cond (decide ((x0.length:Int) > 60))
 (
  Gi (.ok (([] :List (List VPiece)),0,({ Err:=2,At:=0 }:VFault))))
 (
  .bnd (lC N ({ M:=x0,At:=0,Groups:=0,F:=({ Err:=0,At:=0 }:VFault) }:VReader)) fun z1=>
  .sm z1 (fun z2=>
   .cond (z2.2.F.Err==0)
   (
    .cond (decide (z2.2.At < (x0.length:Int)))
    (
     .bnd (ah N 1 z2.2.At z2.2) fun z3=>
     Fb (aa 0 Try.f10) (dp N N) z2.1 ({ Err:=0,At:=0 }:VFault) z3)
    (
     Fb (aa 0 Try.f10) (dp N N) z2.1 ({ Err:=0,At:=0 }:VFault) z2.2))
   (
    Fb (aa 0 Try.f10) (dp N N) z2.1 ({ Err:=0,At:=0 }:VFault) z2.2)) (fun vz1=>
   Gi (.pan vz1)))) (by kernel_rfl) (by kernel_rfl) h (⟨aO (enc:=sP) rfl,fun _=>⟨fun _=>⟨⟨fun _=>fun h=>w10oR7 N _ _ _ h,fun h=>w10oR7 N _ _ _ h⟩,fun h=>w10oR7 N _ _ _ h⟩,fun _=>aO (enc:=sP) rfl⟩⟩)
def PJ(x0:List UInt8):List (TV EE.T):=[.a (.d .str x0)]
def Kz(x0:List UInt8):List (Nat × TB EE.T):=[]
theorem xF{N:Nat}(x0:List UInt8){r:PR db}(h:ie N x0=some r)(ρ:Rn)(hi:Inj ρ (Kz x0)):aE Try.prog 10 ((PJ x0).map (TV.to EE.toEnc ρ)) (hTo EE.toEnc ρ (Kz x0)) (fun out H=>match r with|.ok z=>out=.ret ((ne z).to EE.toEnc ρ)∧H=hTo EE.toEnc ρ (KG z)|.pan v=>out=.pan v):=
 (dO (aa 0 Try.f10) 53 mixed (PZ N) Try.func10 (by kernel_rfl) rfl rfl rfl rfl (Rj x0 h) ρ hi).mono fun out H h=>by cases r with|ok z=>exact cx.retH rfl rfl h|pan v=>exact cx.pan h
def sw(N:Nat)(us:List (TV EE.T))(hs:List (Nat × TB EE.T)):XR EE.T:=
 gdX (eT us 1) <|
 bnX (aD .str us 0) fun x0=>
 gdX (bA hs []) <|
 .may (ie N x0) [] ne (KG)
theorem xl(N:Nat):XOk Try.prog EE 10 (sw N):=fun us hs=>
 aJ fun h1=>ak fun x0 h2=>aJ fun h3=>fun p hz=>⟨fun z e=>rfl,fun ρ hi=>ni (us':=PJ x0) (h0:=Kz x0) (ρ':=jT ρ []) hi h3 (by kernel_rfl) ⟨ja h2,bU h1⟩ trivial (fun hj=>xF x0 hz _ hj) (fun out H h=>by cases p with|ok z=>exact⟨h.1.trans (by kernel_rfl),h.2.trans (by kernel_rfl)⟩|pan v=>exact h)⟩
theorem zw{w:World}{b i:Nat}{cs:Array Value}{T:TypeId}{fr:Nat × Nat}(hb:w.heap[b]? =some (.cells cs T fr))(v:Value):
  (w.setCell ⟨b,i,none⟩ v).heap[b]? =some (.cells (cs.setIfInBounds i v) T fr):=by
 simp[World.setCell,Array.getElem?_modify,hb]
theorem zk{W:World}{k:Nat}{x y:Value}{T:TypeId}(h:W.heap[k]? =some (.cells #[x,y] T (0,0)))(u v:Value)(o:Obj):
  (((W.setCell ⟨k,0,none⟩ u).setCell ⟨k,1,none⟩ v).alloc o).cell? ⟨k,0,none⟩=some u∧(((W.setCell ⟨k,0,none⟩ u).setCell ⟨k,1,none⟩ v).alloc o).cell? ⟨k,1,none⟩=some v:=by
 have h1:=zw (i:=1) (zw (i:=0) h u) v
 have hl:k < ((W.setCell ⟨k,0,none⟩ u).setCell ⟨k,1,none⟩ v).heap.size:=(Array.getElem?_eq_some_iff.1 h1).1
 have h2:=(Below.heap_alloc ((W.setCell ⟨k,0,none⟩ u).setCell ⟨k,1,none⟩ v) o _ hl).trans h1
 constructor<;> simp[World.cell?,h2]
set_option maxRecDepth 100000 in
set_option maxHeartbeats 4000000 in
theorem Hh{N:Nat}{m:List UInt8}{p:Int × Int}(h:lY N m=some (.error p))(hp:p.1≠0)(w:World):Calls Try.prog 20 #[.string (mkB m)] w fun x w'=>x=.returned (.tuple #[.int .i64 0,.agg #[.int .i64 p.1,.int .i64 p.2]])∧Below w.heap.size w w':=by
 have hc:=fun w=>zU h w
 obtain⟨e,a⟩:=p
 dsimp only at hp hc ⊢
 have hne:(e==0)=false:=by simpa using hp
 go_enter Try.func20,Try.ntmps20
 have b0:Below w.heap.size w (w.alloc (.cells #[.int .i64 0,.int .i64 0] 28)):=(Below.refl _ w).alloc (Nat.le_refl _) _
 go_wp2_with (go_at_call 21;refine(hc _).mono ?_)
 rintro x W1 ⟨rfl,b1⟩
 have s1:w.heap.size < W1.heap.size:=by have:=b1.size;simp at this;omega
 have q1:W1.heap[w.heap.size]? =some (.cells #[.int .i64 0,.int .i64 0] 28 (0,0)):=by
  rw[b1.block w.heap.size (by simp)]
  exact Array.getElem?_push_size
 have q2:∀o:Obj,(W1.alloc o).heap[w.heap.size]? =_:=fun o=>(Below.heap_alloc W1 o _ (by omega)).trans q1
 have d5:∀o:Obj,(W1.alloc o).cell? ⟨w.heap.size,0,none⟩=some (.int .i64 0):=fun o=>by simp[World.cell?,q2 o]
 have d6:∀o:Obj,(W1.alloc o).cell? ⟨w.heap.size,1,none⟩=some (.int .i64 0):=fun o=>by simp[World.cell?,q2 o]
 have r5:∀o:Obj,(W1.alloc o).frozen? ⟨w.heap.size,0,none⟩=false:=fun o=>gy (q2 o) 0
 have r6:∀o:Obj,(W1.alloc o).frozen? ⟨w.heap.size,1,none⟩=false:=fun o=>gy (q2 o) 1
 have e5:W1.cell? ⟨w.heap.size,0,none⟩=some (.int .i64 0):=by simp[World.cell?,q1]
 have e6:W1.cell? ⟨w.heap.size,1,none⟩=some (.int .i64 0):=by simp[World.cell?,q1]
 have f5:W1.frozen? ⟨w.heap.size,0,none⟩=false:=gy q1 0
 have f6:W1.frozen? ⟨w.heap.size,1,none⟩=false:=gy q1 1
 have rc:=fun o=>zk q1 (.int .i64 e) (.int .i64 a) o
 have rc0:=fun o=>(rc o).1
 have rc1:=fun o=>(rc o).2
 go_wp2
 go_region
 go_wp2
 simp[bodyPost,Leaves,settle,results,Try.results20,go_sem,rc0,rc1]
 have hb:Below w.heap.size w W1:=b0.trans (b1.mono (by simp))
 exact(((hb.setCell (Nat.le_refl _) _).setCell (Nat.le_refl _) _).alloc (by simp;omega) _).drew
set_option maxRecDepth 100000 in
set_option maxHeartbeats 4000000 in
theorem ME{N:Nat}{m:List UInt8}{mk:VMask}(h:lY N m=some (.ok mk))(w:World):Calls Try.prog 20 #[.string (mkB m)] w fun x w'=>x=.returned (.tuple #[.int .i64 mk.Groups,.agg #[.int .i64 0,.int .i64 0]])∧Below w.heap.size w w':=by
 have hc:=fun w=>wZ h w
 go_enter Try.func20,Try.ntmps20
 have b0:Below w.heap.size w (w.alloc (.cells #[.int .i64 0,.int .i64 0] 28)):=(Below.refl _ w).alloc (Nat.le_refl _) _
 go_wp2_with (go_at_call 21;refine(hc _).mono ?_)
 rintro x W1 ⟨X1,km,hx,hw,hx1,hs⟩
 subst hw hx
 have b1:=fR (B:=(w.alloc (.cells #[.int .i64 0,.int .i64 0] 28)).heap.size) hx1 fun b hb=>hb
 have s1:w.heap.size < X1.w.heap.size:=by have:=b1.size;simp at this;omega
 have q1:X1.w.heap[w.heap.size]? =some (.cells #[.int .i64 0,.int .i64 0] 28 (0,0)):=by
  rw[b1.block w.heap.size (by simp)]
  exact Array.getElem?_push_size
 have hb:look ([(km,cells EE.toEnc (.nam 8) mk)] :List (Nat × List AV)) km=some [.v (.int .i64 mk.Groups),.sl false 4 (mk.steps.map dy)] :=ga
 have g0:X1.w.cell? ⟨km,0,none⟩=some (.int .i64 mk.Groups):=(jv hs hb rfl rfl).1
 have g1:∀o:Obj,(X1.w.alloc o).cell? ⟨km,0,none⟩=some (.int .i64 mk.Groups):=fun o=>by
  have hl:km < X1.w.heap.size:=by
   unfold World.cell? at g0
   split at g0
   ·rename_i hh;exact(Array.getElem?_eq_some_iff.1 hh).1
   all_goals cases g0
  rw[cu (Below.heap_alloc X1.w o _ hl)];exact g0
 have q2:∀o:Obj,(X1.w.alloc o).heap[w.heap.size]? =_:=fun o=>(Below.heap_alloc X1.w o _ (by omega)).trans q1
 have d5:∀o:Obj,(X1.w.alloc o).cell? ⟨w.heap.size,0,none⟩=some (.int .i64 0):=fun o=>by simp[World.cell?,q2 o]
 have d6:∀o:Obj,(X1.w.alloc o).cell? ⟨w.heap.size,1,none⟩=some (.int .i64 0):=fun o=>by simp[World.cell?,q2 o]
 have r5:∀o:Obj,(X1.w.alloc o).frozen? ⟨w.heap.size,0,none⟩=false:=fun o=>gy (q2 o) 0
 have r6:∀o:Obj,(X1.w.alloc o).frozen? ⟨w.heap.size,1,none⟩=false:=fun o=>gy (q2 o) 1
 have e5:X1.w.cell? ⟨w.heap.size,0,none⟩=some (.int .i64 0):=by simp[World.cell?,q1]
 have e6:X1.w.cell? ⟨w.heap.size,1,none⟩=some (.int .i64 0):=by simp[World.cell?,q1]
 have f5:X1.w.frozen? ⟨w.heap.size,0,none⟩=false:=gy q1 0
 have f6:X1.w.frozen? ⟨w.heap.size,1,none⟩=false:=gy q1 1
 have rc:=fun o=>zk q1 (.int .i64 0) (.int .i64 0) o
 have rc0:=fun o=>(rc o).1
 have rc1:=fun o=>(rc o).2
 go_wp2
 go_region
 go_wp2
 simp[bodyPost,Leaves,settle,results,Try.results20,go_sem,rc0,rc1]
 have hb2:Below w.heap.size w X1.w:=b0.trans (b1.mono (by simp))
 exact(((hb2.setCell (Nat.le_refl _) _).setCell (Nat.le_refl _) _).alloc (by simp;omega) _).drew
def je(N:Nat)(m:List UInt8):Option (Int × VFault):=match lY N m with
 |none=>none
 |some (.error p)=>if p.1=0 then none else some (0,⟨p.1,p.2⟩)
 |some (.ok mk)=>some (mk.Groups,⟨0,0⟩)
def AE(r:Int × VFault):TV EE.T:=.tu [.a (.d (.int .i64) r.1),.ag (cv EE (.nam 2) r.2)]
theorem Ng(X:GW)(n a b:Int):Rel X (.tu [.v (.int .i64 n),.ag [.v (.int .i64 a),.v (.int .i64 b)]]) (.tuple #[.int .i64 n,.agg #[.int .i64 a,.int .i64 b]]):=by
 refine .tu _ _ rfl ?_
 intro i u x hu hx
 match i,hu,hx with
 |0,hu,hx=>simp at hu hx;subst hu hx;exact .v _
 |1,hu,hx=>
  simp at hu hx;subst hu hx
  refine .ag _ _ rfl ?_
  intro i u x hu hx
  match i,hu,hx with
  |0,hu,hx=>simp at hu hx;subst hu hx;exact .v _
  |1,hu,hx=>simp at hu hx;subst hu hx;exact .v _
theorem Ph{N:Nat}(m:List UInt8){r:Int × VFault}(h:je N m=some r):aE Try.prog 20 [.v (.string (mkB m))] [] (fun out H=>out=.ret (.tu [.v (.int .i64 r.1),.ag [.v (.int .i64 r.2.Err),.v (.int .i64 r.2.At)]])∧H=[]):=by
 refine vB ⟨_,Try.func20,by kernel_rfl,rfl⟩ (fun X=>Ng X _ _ _) rfl fun X vs hX hv hr=> ?_
 have e0:=b9 (hr 0 _ rfl)
 have ev:vs= #[.string (mkB m)] :=by
  apply Array.ext (by simpa using hv)
  intro i h1 h2
  have hi:i=0:=by simp at h2;omega
  subst hi
  simp at h1 e0
  simpa[h1] using e0
 rw[ev]
 unfold je at h
 split at h
 ·cases h
 ·rename_i p hc
  split at h
  ·cases h
  ·rename_i hp
   cases h
   exact Hh hc hp X.w
 ·rename_i mk hc
  cases h
  exact ME hc X.w
def m0(N:Nat):List (TV EE.T)→PV EE.T
 | [u0] =>match lp .str u0 with
   |some x0=>.opt (je N x0) AE
   |_=>.bad
 |_=>.bad
theorem vD(N:Nat)(us:List (TV EE.T)):(m0 N us).ok fun u=>∀ρ,aE Try.prog 20 (us.map (TV.to EE.toEnc ρ)) [] (fun out H=>out=.ret (u.to EE.toEnc ρ)∧H=[]):=by
 unfold m0
 split
 ·split
  ·rename_i u0 x0 h0
   intro z hz ρ
   refine eU (us':=([.a (.d .str x0)] :List (TV EE.T))) ⟨ec h0 ρ,trivial⟩ ?_
   exact Ph x0 hz
  ·trivial
 ·trivial
set_option maxRecDepth 100000
def iZ(N:Nat)(x0:List UInt8):Option (PR Bool):=
 (je N x0).bind fun z1=>
 (ie N x0).bind fun z2=>
 match z2 with
 |.pan vz2=>
  some (.pan vz2)
 |.ok z3=>
  (fT N).bind fun z4=>
  bif z4 then
   bif CV z1.2.Err z3.2.2.Err && (CV z1.2.At z3.2.2.At && true) then
    some (.ok (z1.1==z3.2.1))
   else
    some (.ok false)
  else
   some (.ok false)
set_option maxRecDepth 1000000
def noP:VPiece:=VPiece.mk false [] 0 [] 0
def Nd.vv:Nd→VPiece × List (List VPiece)
 |.set S sg=>(VPiece.mk false S 0 [] sg,[])
 |.grp n M sg=>(VPiece.mk true [] (n:Int) M.vv.2 sg,[])
 |.nil=>(noP,[[]])
 |.cons p r=>(noP,[p.vv.1::r.vv.2.headD []])
 |.alt r M=>(noP,r.vv.2.headD [] ::M.vv.2)
def Nd.fm:Nd→Prop × Prop × Prop
 |.set _ _=>(True,False,False)
 |.grp _ M _=>(M.fm.2.2,False,False)
 |.nil=>(False,True,True)
 |.cons p r=>(False,p.fm.1∧r.fm.2.1,p.fm.1∧r.fm.2.1)
 |.alt r M=>(False,False,r.fm.2.1∧M.fm.2.2)
theorem Nd.row_m:∀ {x:Nd},x.fm.2.1→x.fm.2.2
 |.nil,h=>h
 |.cons p r,h=>h
theorem Nd.row_vv:∀ {x:Nd},x.fm.2.1→x.vv.2=[x.vv.2.headD []]
 |.nil,h=>rfl
 |.cons p r,h=>rfl
theorem kE{m:List UInt8}:∀ (f mo i g:Nat) {x:Nd} {j g1:Nat},prs m f mo i g=.ok (x,j,g1)→(mo=0→x.fm.2.2)∧(mo=1→x.fm.2.1)∧(2≤mo→x.fm.1)
 |0,mo,i,g,x,j,g1,h=>by cases h
 |f+1,0,i,g,x,j,g1,h=>by
  refine⟨fun _=> ?_,fun h=>by omega,fun h=>by omega⟩
  rw[O8] at h
  split at h
  ·cases h
  ·rename_i r j0 g0 hr
   have k1:=(kE f 1 i g hr).2.1 rfl
   cases hb:bM m 124 j0 with
   |false=>rw[hb,cond_false] at h;cases h;exact Nd.row_m k1
   |true=>
    rw[hb,cond_true] at h
    split at h
    ·cases h
    ·rename_i M k g2 hM
     cases h
     exact⟨k1,(kE f 0 (j0+1) g0 hM).1 rfl⟩
 |f+1,1,i,g,x,j,g1,h=>by
  refine⟨fun h=>by omega,fun _=> ?_,fun h=>by omega⟩
  rw[Pb] at h
  split at h
  ·cases h;trivial
  ·rename_i c hc
   cases h1:(b2i c==b2i 124) with
   |true=>rw[h1,cond_true] at h;cases h;trivial
   |false=>
    rw[h1,cond_false] at h
    cases h2:(b2i c==b2i 41) with
    |true=>rw[h2,cond_true] at h;cases h;trivial
    |false=>
     rw[h2,cond_false] at h
     split at h
     ·cases h
     ·rename_i p j0 g0 hp
      split at h
      ·cases h
      ·rename_i r k g2 hr
       cases h
       exact⟨(kE f 2 i g hp).2.2 (by omega),(kE f 1 j0 g0 hr).2.1 rfl⟩
 |f+1,mo+2,i,g,x,j,g1,h=>by
  refine⟨fun h=>by omega,fun h=>by omega,fun _=> ?_⟩
  rw[prs] at h
  cases hb:bM m 40 i with
  |true=>
   rw[hb,cond_true] at h
   cases h9:g==9 with
   |true=>rw[h9,cond_true] at h;cases h
   |false=>
    rw[h9,cond_false] at h
    split at h
    ·cases h
    ·rename_i M j0 g0 hM
     have k1:=(kE f 0 (i+1) (g+1) hM).1 rfl
     cases h41:bM m 41 j0 with
     |false=>rw[h41,cond_false] at h;cases h
     |true=>
      rw[h41,cond_true] at h
      cases hs:(dN m (j0+1)==0) with
      |true=>rw[hs,cond_true] at h;cases h;exact k1
      |false=>
       rw[hs,cond_false] at h
       cases hz:(M.null && !(dN m (j0+1)==63)) with
       |true=>rw[hz,cond_true] at h;cases h
       |false=>rw[hz,cond_false] at h;cases h;exact k1
  |false=>
   rw[hb,cond_false] at h
   split at h
   ·cases h
   ·rename_i S j0 hS
    cases hs:(dN m j0==0) with
    |true=>rw[hs,cond_true] at h;cases h;trivial
    |false=>rw[hs,cond_false] at h;cases h;trivial
theorem MU{α:Type}(l r:List α)(x:α):cg (l++x::r) (l.length:Int)=some x:=by
 rw[ixn,List.getElem?_append_right (Nat.le_refl _),Nat.sub_self];rfl
theorem AN{d:Nat}(ih:∀M:Nd,M.fm.2.2→M.len < d→M.len≤500→bo 3000 d M.vv.2=some (.ok M.null)){k2:(List (List VPiece))→Int→Option (PR Bool)}{rows:List (List VPiece)}{p:Nat}(hp:p≤10000){row:List VPiece}(hr:rows[p]? =some row):∀ (x:Nd) (n:Nat) (b:Bool) (done:List VPiece),x.fm.2.1→x.len≤d→x.len≤500→row=done++x.vv.2.headD [] →done.length≤10000 - x.len→x.len+1≤n→
  aT ⟨3000,bo 3000 d⟩ k2 n rows (p:Int) b (done.length:Int)=bif b && x.null then some (.ok true) else k2 rows ((p+1:Nat):Int)
 |x,0,b,done,h1,h2,h2',h3,h4,h5=>by omega
 |.nil,n+1,b,done,h1,h2,h2',h3,h4,h5=>by
  have hl:row=done:=by rw[h3];show done++ [] =done;rw[List.append_nil]
  rw[aT,ixn,hr,Option.bind_some,decide_eq_false (by rw[hl];omega),cond_false,i5 (by omega)]
  cases b<;> rfl
 |.cons q r,n+1,b,done,h1,h2,h2',h3,h4,h5=>by
  have hlen:(Nd.cons q r).len=q.len+r.len:=rfl
  have hq1:1≤q.len:=by
   cases q with
   |set S sg=>show 1≤1+_;omega
   |grp n M sg=>show 1≤M.len+2+_;omega
   |nil=>exact h1.1.elim
   |cons a c=>exact h1.1.elim
   |alt a c=>exact h1.1.elim
  have e3:row=done++q.vv.1::r.vv.2.headD [] :=h3
  have next:∀b',bn ⟨3000,bo 3000 d⟩ (aT ⟨3000,bo 3000 d⟩ k2 n) k2 n rows (p:Int) b' (done.length:Int)=bif b' && r.null then some (.ok true) else k2 rows ((p+1:Nat):Int):=fun b'=>by
   unfold bn
   rw[i5 (by omega)]
   have:=AN ih (k2:=k2) hp hr r n b' (done++ [q.vv.1]) h1.2 (by omega) (by omega) (by rw[e3];simp) (by simp;omega) (by omega)
   rw[show((done++ [q.vv.1]).length:Nat)=done.length+1 by simp] at this
   exact this
  rw[aT,ixn,hr,Option.bind_some,decide_eq_true (by rw[e3];simp;omega),cond_true,Option.bind_some,e3,MU,Option.bind_some]
  cases b with
  |false=>
   rw[cond_false,next]
   rfl
  |true=>
   rw[cond_true,Bool.true_and]
   have key:∀sg:UInt8,(b2i sg==b2i 42)=(sg==42)∧(b2i sg==b2i 63)=(sg==63):=fun sg=>by
    constructor<;>
    ·rw[jO,jO]
     rw[Bool.eq_iff_iff,beq_iff_eq,beq_iff_eq]
     constructor
     ·intro h;exact UInt8.toNat_inj.1 (by omega)
     ·rintro rfl;rfl
   cases q with
   |nil=>exact h1.1.elim
   |cons a c=>exact h1.1.elim
   |alt a c=>exact h1.1.elim
   |set S sg=>
    show(bif b2i sg==b2i 42 then _ else bif b2i sg==b2i 63 then _ else bif false then _ else _)=bif sgN sg && r.null then _ else _
    rw[(key sg).1,(key sg).2]
    unfold sgN
    cases sg==42 with
    |true=>rw[cond_true,next];rfl
    |false=>
     cases sg==63 with
     |true=>rw[cond_false,cond_true,next];rfl
     |false=>rw[cond_false,cond_false,cond_false,next];rfl
   |grp gn M sg=>
    have hM:M.len+2+sgL sg≤d∧M.len+2+sgL sg≤500:=by
     have e:(Nd.grp gn M sg).len=M.len+2+sgL sg:=rfl
     omega
    show(bif b2i sg==b2i 42 then _ else bif b2i sg==b2i 63 then _ else bif true then((bo 3000 d M.vv.2).bind _) else _)=bif (sgN sg || M.null) && r.null then _ else _
    rw[(key sg).1,(key sg).2,ih M h1.1 (by omega) (by omega),Option.bind_some]
    unfold sgN
    cases sg==42 with
    |true=>rw[cond_true,next];rfl
    |false=>
     cases sg==63 with
     |true=>rw[cond_false,cond_true,next];rfl
     |false=>
      rw[cond_false,cond_false,cond_true]
      dsimp only
      rw[next]
      rfl
theorem GM{d:Nat}(ih:∀M:Nd,M.fm.2.2→M.len < d→M.len≤500→bo 3000 d M.vv.2=some (.ok M.null)){rows:List (List VPiece)}:∀ (x:Nd) (n p:Nat) (done:List (List VPiece)),x.fm.2.2→x.len≤d→rows=done++x.vv.2→done.length=p→p+x.len≤500→2 * x.len+3≤n→
  bm ⟨3000,bo 3000 d⟩ n rows (p:Int)=some (.ok x.null)
 |x,0,p,done,h1,h2,h3,h4,h5,h6=>by omega
 |.alt r M,n+1,p,done,h1,h2,h3,h4,h5,h6=>by
  have hlen:(Nd.alt r M).len=r.len+M.len+2:=rfl
  have e3:rows=done++r.vv.2.headD [] ::M.vv.2:=h3
  have hr:rows[p]? =some (r.vv.2.headD []):=by rw[e3,← h4,List.getElem?_append_right (Nat.le_refl _),Nat.sub_self];rfl
  have:=AN ih (k2:=bm ⟨3000,bo 3000 d⟩ n) (by omega) hr r n true [] h1.1 (by omega) (by omega) rfl (Nat.zero_le _) (by omega)
  rw[bm,decide_eq_true (by rw[e3];simp;omega),cond_true]
  refine Eq.trans this ?_
  rw[Bool.true_and]
  show _=some (PR.ok (r.null || M.null))
  cases r.null with
  |true=>rfl
  |false=>
   rw[cond_false,Bool.false_or]
   exact GM ih M n (p+1) (done++ [r.vv.2.headD []]) h1.2 (by omega) (by rw[e3];simp) (by simp only[List.length_append,List.length_cons,List.length_nil];omega) (by omega) (by omega)
 |.nil,n+1,p,done,h1,h2,h3,h4,h5,h6=>by
  have e3:rows=done++ [[]] :=h3
  have hr:rows[p]? =some [] :=by rw[e3,← h4,List.getElem?_append_right (Nat.le_refl _),Nat.sub_self];rfl
  have:=AN ih (k2:=bm ⟨3000,bo 3000 d⟩ n) (by omega) hr .nil n true [] trivial (Nat.zero_le _) (Nat.zero_le _) rfl (Nat.zero_le _) (by show 0+1≤n;omega)
  rw[bm,decide_eq_true (by rw[e3];simp;omega),cond_true]
  exact this
 |.cons q r,n+1,p,done,h1,h2,h3,h4,h5,h6=>by
  have e3:rows=done++ [q.vv.1::r.vv.2.headD []] :=h3
  have hr:rows[p]? =some (q.vv.1::r.vv.2.headD []):=by rw[e3,← h4,List.getElem?_append_right (Nat.le_refl _),Nat.sub_self];rfl
  have:=AN ih (k2:=bm ⟨3000,bo 3000 d⟩ n) (by omega) hr (.cons q r) n true [] h1 h2 (by omega) rfl (by simp) (by omega)
  rw[bm,decide_eq_true (by rw[e3];simp;omega),cond_true]
  refine Eq.trans this ?_
  rw[Bool.true_and]
  cases (Nd.cons q r).null with
  |true=>rfl
  |false=>
   rw[cond_false]
   obtain⟨n,rfl⟩:∃k,n=k+1:=⟨n - 1,by omega⟩
   rw[bm,decide_eq_false (by rw[e3];simp;omega),cond_false]
theorem qe:∀ (d:Nat) (M:Nd),M.fm.2.2→M.len < d→M.len≤500→bo 3000 d M.vv.2=some (.ok M.null)
 |0,M,h2,h3,h4=>by omega
 |d+1,M,h2,h3,h4=>by
  have:=GM (d:=d) (rows:=M.vv.2) (fun N hN hl hs=>qe d N hN hl hs) M 3000 0 [] h2 (by omega) rfl rfl (by omega) (by omega)
  exact this
set_option maxRecDepth 1000000
def rdr(m:List UInt8)(i:Nat)(g:Int)(F:VFault):VReader:=⟨m,(i:Int),g,F⟩
def f0:VFault:=⟨0,0⟩
theorem ris(N:Nat)(c:UInt8)(m:List UInt8)(i:Nat)(g:Int)(F:VFault):aP N c (rdr m i g F)=some (bM m c i,rdr m i g F):=by
 unfold aP bM
 show(bif decide ((i:Int) < (m.length:Int)) then(cg m (i:Int)).bind _ else _)=_
 cases h:m[i]? with
 |none=>
  have hl:=List.getElem?_eq_none_iff.1 h
  rw[decide_eq_false (by omega),cond_false]
 |some b=>
  have hl:=(List.getElem?_eq_some_iff.1 h).1
  rw[decide_eq_true (by omega),cond_true,ixn,h,Option.bind_some]
theorem rl(N:Nat)(c:UInt8)(m:List UInt8){i:Nat}(hi:i≤1000000)(g:Int)(F:VFault):au N c (rdr m i g F)=some (bM m c i,rdr m (jL (bM m c i) i) g F):=by
 unfold au
 rw[ris,Option.bind_some]
 dsimp only
 cases bM m c i with
 |false=>rfl
 |true=>
  rw[cond_true]
  show some (true,(⟨m,w64 ((i:Int)+1),g,F⟩:VReader))=_
  rw[i5 (by omega)]
  rfl
theorem jU(N:Nat)(e a:Int)(m:List UInt8)(i:Nat)(g:Int):ah N e a (rdr m i g f0)=some (rdr m i g ⟨e,a⟩):=rfl
theorem Fz(N:Nat)(m:List UInt8)(i:Nat)(g:Int)(F:VFault)(s:List UInt8)(hs:s.length≤1000):∀ (c n k:Nat),k+c=s.length→c+1≤n→cm N n s (k:Int) (rdr m i g F)=some ((s.drop k).any (fun x=>bM m x i),rdr m i g F)
 |c,0,k,h1,h2=>by omega
 |0,n+1,k,h1,h2=>by
  rw[cm,decide_eq_false (by omega),cond_false,List.drop_eq_nil_of_le (by omega)]
  rfl
 |c+1,n+1,k,h1,h2=>by
  have hk:k < s.length:=by omega
  rw[cm,decide_eq_true (by omega),cond_true,ixn,List.getElem?_eq_getElem hk,Option.bind_some,ris,Option.bind_some,List.drop_eq_getElem_cons hk,List.any_cons]
  dsimp only
  cases bM m s[k] i with
  |true=>rfl
  |false=>
   rw[cond_false,i5 (by omega),Bool.false_or]
   exact Fz N m i g F s hs c n (k+1) (by omega) (by omega)
theorem wS(m:List UInt8)(i:Nat)(g:Int)(F:VFault)(s:List UInt8)(hs:s.length≤1000):aW 3000 s (rdr m i g F)=some (s.any (fun x=>bM m x i),rdr m i g F):=
 Fz 3000 m i g F s hs s.length 3000 0 (by omega) (by omega)
theorem vT(a b:UInt8):(b2i a==b2i b)=(a==b):=by
 rw[jO,jO,Bool.eq_iff_iff,beq_iff_eq,beq_iff_eq]
 constructor
 ·intro h;exact UInt8.toNat_inj.1 (by omega)
 ·rintro rfl;rfl
theorem wA{m:List UInt8}{i:Nat}{c:UInt8}(h:m[i]? =some c)(s:List UInt8):s.any (fun x=>bM m x i)=s.contains c:=by
 rw[List.contains_eq_any_beq]
 congr 1
 funext x
 unfold bM
 rw[h]
 exact vT c x
theorem KE(N:Nat)(c:UInt8):fO N c=some (oU c):=by
 have h1:fO N c=(dg 256 (b2i c)).bind fun z1=>(gW (List.replicate 256 false) (0+z1) true).bind fun z2=>(un 256 256 z2).bind fun z3=>some z3:=by kernel_rfl
 have hc:=c.toNat_lt
 have e1:dg 256 (b2i c)=some c.toNat:=by
  unfold dg
  rw[jO,if_pos (by omega)];simp
 have e2:gW (List.replicate 256 false) (0+c.toNat) true=some (oU c):=by
  unfold gW
  rw[Nat.zero_add,if_pos (by simp;omega)];rfl
 have e3:un 256 256 (oU c)=some (oU c):=by
  unfold un
  rw[if_pos ⟨(sE c).symm,by omega⟩]
 rw[h1,e1,Option.bind_some,e2,Option.bind_some,e3,Option.bind_some]
def Ri(x:UInt8):Bool:=match fJ 0 x,dE 0 x with
 |some L,some M=>(bif L then(bif b2i x != b2i 95 then true else M) else M)==qz x
 |_,_=>false
theorem Iy:(List.range 256).all (fun n=>Ri (UInt8.ofNat n))=true:=by kernel_rfl
theorem MZ(x:UInt8):Ri x=true:=by
 have h:=List.all_eq_true.1 Iy x.toNat (List.mem_range.2 x.toNat_lt)
 rwa [UInt8.ofNat_toNat] at h
theorem Rr(x:UInt8):∃L M,(∀N,fJ N x=some L)∧(∀N,dE N x=some M)∧(bif L then(bif b2i x != b2i 95 then true else M) else M)=qz x:=by
 have h:=MZ x
 unfold Ri at h
 split at h
 ·rename_i L M hL hM
  exact⟨L,M,fun N=>hL,fun N=>hM,by simpa using h⟩
 ·cases h
def p9{α:Type}(m:List UInt8)(q:Int × Int)(r:Option (PR (α × VReader))):Prop:=∃ (p:α) (j:Nat) (g:Int),j≤m.length∧r=some (.ok (p,rdr m j g ⟨q.1,q.2⟩))
def GX(S:List Bool):VPiece:=VPiece.mk false S 0 [] 0
def jW(m:List UInt8)(g:Int)(r:Option (PR (VPiece × VReader))):Except (Int × Int) (List Bool × Nat)→Prop
 |.error q=>p9 m q r
 |.ok (S,j)=>r=some (.ok (GX S,rdr m j g f0))
theorem S9(k)(b:VReader):dk ⟨3000,k⟩ 3000 256 256 0 false [] 0 [] 0 (List.replicate 256 false) b=some (.ok (GX (List.replicate 256 true),b)):=by kernel_rfl
theorem Ez(NR:RecC3){k19}(x6:Bool)(hi:Nat)(h256:hi < 256)(b:VReader):∀ (c n x:Nat) (S:List Bool),S.length=256→x+c=hi+1→c+1≤n→bG NR k19 n x6 256 256 (hi:Int) (x:Int) false [] 0 [] 0 S b=k19 x6 256 256 false false [] 0 [] 0 (la S x c) b
 |c,0,x,S,h1,h2,h3=>by omega
 |0,n+1,x,S,h1,h2,h3=>by
  rw[bG,decide_eq_false (by omega),cond_false]
  rfl
 |c+1,n+1,x,S,h1,h2,h3=>by
  have e1:dg 256 (x:Int)=some x:=by
   unfold dg
   rw[if_pos (by omega)];simp
  have e2:gW S (0+x) true=some (S.set x true):=by
   unfold gW
   rw[Nat.zero_add,if_pos (by omega)]
  rw[bG,decide_eq_true (by omega),cond_true,e1,Option.bind_some,e2,Option.bind_some,i5 (by omega),Ez NR x6 hi h256 b c n (x+1) _ (by simpa using h1) (by omega) (by omega)]
  rfl
theorem PI(NR:RecC3)(x6:Bool)(b:VReader)(S0:List Bool)(h0:S0.length=256):∀ (c n i:Nat) (S:List Bool),i+c=256→c+1≤n→S=(S0.take i).map (fun v=> !(v==x6))++S0.drop i→bZ NR n x6 256 256 (i:Int) false [] 0 [] 0 S b=some (.ok (GX (S0.map fun v=> !(v==x6)),b))
 |c,0,i,S,h1,h2,h3=>by omega
 |0,n+1,i,S,h1,h2,h3=>by
  have hi:i=256:=by omega
  subst hi
  have hS:S=S0.map fun v=> !(v==x6):=by
   rw[h3,List.take_of_length_le (by omega),List.drop_eq_nil_of_le (by omega),List.append_nil]
  rw[bZ,decide_eq_false (by omega),cond_false]
  unfold un
  rw[hS,if_pos (by simp[h0]),Option.bind_some]
  rfl
 |c+1,n+1,i,S,h1,h2,h3=>by
  have hi:i < S0.length:=by omega
  have hl:S.length=256:=by rw[h3];simp;omega
  have e1:dg 256 (i:Int)=some i:=by
   unfold dg
   rw[if_pos (by omega)];simp
  have e2:S[0+i]? =some S0[i] :=by
   have e0:((S0.take i).map fun v=> !(v==x6)).length=i:=by rw[List.length_map,List.length_take];omega
   rw[h3,Nat.zero_add,List.getElem?_append_right (by omega),e0,Nat.sub_self,List.getElem?_drop,Nat.add_zero,List.getElem?_eq_getElem hi]
  have e3:gW S (0+i) (!(S0[i] ==x6))=some (S.set i (!(S0[i] ==x6))):=by
   unfold gW
   rw[Nat.zero_add,if_pos (by omega)]
  rw[bZ,decide_eq_true (by omega),cond_true,e1,Option.bind_some,e2,Option.bind_some,Option.bind_some,e3,Option.bind_some,i5 (by omega)]
  refine PI NR x6 b S0 h0 c n (i+1) _ (by omega) (by omega) ?_
  have e0:((S0.take i).map fun v=> !(v==x6)).length=i:=by rw[List.length_map,List.length_take];omega
  rw[h3,List.set_append_right _ _ (by omega),e0,Nat.sub_self,List.drop_eq_getElem_cons hi,List.set_cons_zero,List.take_add_one,List.getElem?_eq_getElem hi]
  show _=((S0.take i++ [S0[i]]).map _)++_
  rw[List.map_append,List.append_assoc]
  rfl
theorem Jm{m:List UInt8}(hm:m.length≤60)(k)(x6:Bool)(g:Int):∀ (f n:Nat) (first:Bool) (i:Nat) (S:List Bool),i≤m.length→m.length+1≤f+i→f+400≤n→S.length=256→jW m g (bf ⟨3000,k⟩ n x6 256 256 first false [] 0 [] 0 S (rdr m i g f0)) (match qa m f first i S with
  |.error q=>.error q
  |.ok (T,j)=>.ok (T.map fun v=> !(v==x6),j))
 |0,n,first,i,S,h1,h2,h3,h4=>by omega
 |f+1,n,first,i,S,h1,h2,h3,h4=>by
  obtain⟨n,rfl⟩:∃k,n=k+1:=⟨n - 1,by omega⟩
  have hR:jW m g (cF ⟨3000,k⟩ (bf ⟨3000,k⟩ n) n x6 256 256 false [] 0 [] 0 S (rdr m i g f0)) (match(match gT m i with
    |.error q=>.error q
    |.ok (a,i1)=>bif bM m 45 i1 then
      match gT m (i1+1) with
      |.error q=>.error q
      |.ok (b,i3)=>bif decide ((b2i b) < (b2i a)) then .error (3,((i1+1:Nat):Int)) else qa m f false i3 (la S a.toNat (b.toNat+1 - a.toNat))
     else qa m f false i1 (la S a.toNat 1):Except (Int × Int) (List Bool × Nat)) with
    |.error q=>.error q
    |.ok (T,j)=>.ok (T.map fun v=> !(v==x6),j)):=by
   unfold cF
   show jW m g (bif (i:Int)==(m.length:Int) then _ else _) _
   rw[show gT m i=(match m[i]? with
    |none=>.error (1,(i:Int))
    |some b=>bif ([91,93,92,94,45] :List UInt8).contains b then .error (1,(i:Int)) else .ok (b,i+1)) from rfl]
   cases ha:m[i]? with
   |none=>
    have hl:=List.getElem?_eq_none_iff.1 ha
    rw[beq_iff_eq.2 (by omega),cond_true]
    show p9 m _ ((ah 3000 1 (i:Int) (rdr m i g f0)).bind _)
    rw[jU,Option.bind_some]
    exact⟨_,i,g,h1,rfl⟩
   |some a=>
    have hl:=(List.getElem?_eq_some_iff.1 ha).1
    have hab:=a.toNat_lt
    rw[beq_eq_false_iff_ne.2 (by omega),cond_false]
    show jW m g ((aW 3000 ([91,93,92,94,45] :List UInt8) (rdr m i g f0)).bind _) _
    rw[wS _ _ _ _ _ (by decide),Option.bind_some,wA ha]
    dsimp only
    cases ([91,93,92,94,45] :List UInt8).contains a with
    |true=>
     rw[cond_true,cond_true]
     show p9 m _ ((ah 3000 1 (i:Int) (rdr m i g f0)).bind _)
     rw[jU,Option.bind_some]
     exact⟨_,i,g,h1,rfl⟩
    |false=>
     rw[cond_false,cond_false]
     show jW m g ((cg m (i:Int)).bind fun z37=>(au 3000 45 (⟨m,w64 ((i:Int)+1),g,f0⟩:VReader)).bind _) _
     rw[ixn,ha,Option.bind_some,i5 (by omega)]
     show jW m g ((au 3000 45 (rdr m (i+1) g f0)).bind _) _
     rw[rl _ _ _ (by omega),Option.bind_some]
     dsimp only
     cases hd:bM m 45 (i+1) with
     |false=>
      rw[cond_false,cond_false]
      show jW m g (bG ⟨3000,k⟩ (bf ⟨3000,k⟩ n) n x6 256 256 (w64 (b2i a)) (w64 (b2i a)) false [] 0 [] 0 S (rdr m (i+1) g f0)) _
      rw[jO,qS (by omega) (by omega),Ez _ x6 a.toNat hab _ 1 n a.toNat S h4 rfl (by omega)]
      exact Jm hm k x6 g f n false (i+1) _ (by omega) (by omega) (by omega) (by rw[ic];exact h4)
     |true=>
      have hl1:=dP hd
      rw[cond_true,cond_true]
      show jW m g (bif ((i+1+1:Nat):Int)==(m.length:Int) then _ else _) _
      rw[show gT m (i+1+1)=(match m[i+1+1]? with
       |none=>.error (1,((i+1+1:Nat):Int))
       |some b=>bif ([91,93,92,94,45] :List UInt8).contains b then .error (1,((i+1+1:Nat):Int)) else .ok (b,i+1+1+1)) from rfl]
      cases hb:m[i+1+1]? with
      |none=>
       have hl:=List.getElem?_eq_none_iff.1 hb
       rw[beq_iff_eq.2 (by omega),cond_true]
       show p9 m _ ((ah 3000 1 ((i+1+1:Nat):Int) (rdr m (i+1+1) g f0)).bind _)
       rw[jU,Option.bind_some]
       exact⟨_,i+1+1,g,by omega,rfl⟩
      |some b=>
       have hl:=(List.getElem?_eq_some_iff.1 hb).1
       have hbb:=b.toNat_lt
       rw[beq_eq_false_iff_ne.2 (by omega),cond_false]
       show jW m g ((aW 3000 ([91,93,92,94,45] :List UInt8) (rdr m (i+1+1) g f0)).bind _) _
       rw[wS _ _ _ _ _ (by decide),Option.bind_some,wA hb]
       dsimp only
       cases ([91,93,92,94,45] :List UInt8).contains b with
       |true=>
        rw[cond_true,cond_true]
        show p9 m _ ((ah 3000 1 ((i+1+1:Nat):Int) (rdr m (i+1+1) g f0)).bind _)
        rw[jU,Option.bind_some]
        exact⟨_,i+1+1,g,by omega,rfl⟩
       |false=>
        rw[cond_false,cond_false]
        show jW m g ((cg m ((i+1+1:Nat):Int)).bind _) _
        rw[ixn,hb,Option.bind_some]
        dsimp only
        rw[jO,jO,qS (by omega) (by omega),qS (by omega) (by omega)]
        by_cases hlt:((b.toNat:Int)) < (a.toNat:Int)
        ·rw[decide_eq_true hlt,cond_true,cond_true]
         show p9 m _ ((ah 3000 3 ((i+1+1:Nat):Int) (rdr m (i+1+1) g f0)).bind _)
         rw[jU,Option.bind_some]
         exact⟨_,i+1+1,g,by omega,rfl⟩
        ·rw[decide_eq_false hlt,cond_false,cond_false]
         show jW m g (bG ⟨3000,k⟩ (bf ⟨3000,k⟩ n) n x6 256 256 (b.toNat:Int) (a.toNat:Int) false [] 0 [] 0 S (⟨m,w64 (((i+1+1:Nat):Int)+1),g,f0⟩:VReader)) _
         rw[i5 (by omega),Ez _ x6 b.toNat hbb _ (b.toNat+1 - a.toNat) n a.toNat S h4 (by omega) (by omega)]
         exact Jm hm k x6 g f n false (i+1+1+1) _ (by omega) (by omega) (by omega) (by rw[ic];exact h4)
  rw[bf,qa]
  cases first with
  |true=>rw[cond_true];exact hR
  |false=>
   rw[cond_false]
   show jW m g ((au 3000 93 (rdr m i g f0)).bind _) _
   rw[rl _ _ _ (by omega),Option.bind_some]
   dsimp only
   cases hb:bM m 93 i with
   |false=>exact hR
   |true=>
    show(bZ ⟨3000,k⟩ n x6 256 256 ((0:Nat):Int) false [] 0 [] 0 S (rdr m (i+1) g f0))=_
    rw[PI ⟨3000,k⟩ x6 _ S h4 256 n 0 S rfl (by omega) (by simp)]
set_option maxRecDepth 1000000
theorem dU{m:List UInt8}{i:Nat}{c:UInt8}(h:m[i]? =some c)(x:UInt8):bM m x i=(b2i c==b2i x):=by
 unfold bM;rw[h]
theorem S6 {m : List UInt8} (hm : m.length ≤ 60) (k) (g : Int) {i : Nat} (hi : i ≤ m.length) : jW m g ((au 3000 94 (rdr m i g f0)).bind fun z17 =>
        (uq 1 256 256).bind fun z18=>
        bf ⟨3000,k⟩ 3000 z17.1 z18.1 z18.2 true false ([] :List Bool) 0 ([] :List (List VPiece)) 0 (List.replicate z18.2 false) z17.2) (xV m i):=by
 rw[rl _ _ _ (by omega),Option.bind_some,show uq 1 256 256=some (256,256) by kernel_rfl,Option.bind_some]
 unfold xV
 have hs:jL (bM m 94 i) i≤m.length∧i≤jL (bM m 94 i) i:=by
  unfold jL
  cases h:bM m 94 i with
  |true=>have:=dP h;exact⟨by simp;omega,by simp⟩
  |false=>exact⟨hi,Nat.le_refl _⟩
 exact Jm hm k (bM m 94 i) g (m.length+1) 3000 true _ (List.replicate 256 false) hs.1 (by omega) (by omega) (by simp)
theorem Rd{m:List UInt8}(hm:m.length≤60)(k)(g:Int){i:Nat}{c:UInt8}(hc:m[i]? =some c)(h40:bM m 40 i=false):jW m g (bw ⟨3000,k⟩ (rdr m i g f0)) (nE m i):=by
 have hi:=(List.getElem?_eq_some_iff.1 hc).1
 unfold bw nE
 show jW m g ((cg m (i:Int)).bind fun z1=>(au 3000 46 (rdr m i g f0)).bind _) _
 rw[ixn,hc,Option.bind_some,rl _ _ _ (by omega),Option.bind_some,dU hc]
 dsimp only
 cases h46:(b2i c==b2i 46) with
 |true=>
  rw[cond_true,cond_true,show uq 1 256 256=some (256,256) by kernel_rfl,Option.bind_some]
  exact S9 k _
 |false=>
  rw[cond_false,cond_false]
  show jW m g ((au 3000 92 (rdr m i g f0)).bind _) _
  rw[rl _ _ _ (by omega),Option.bind_some,dU hc]
  dsimp only
  cases h92:(b2i c==b2i 92) with
  |true=>
   rw[cond_true,cond_true]
   show jW m g (bif ((i+1:Nat):Int)==(m.length:Int) then _ else _) _
   cases hx:m[i+1]? with
   |none=>
    have hl:=List.getElem?_eq_none_iff.1 hx
    rw[beq_iff_eq.2 (by omega),cond_true]
    show p9 m _ ((ah 3000 1 ((i+1:Nat):Int) (rdr m (i+1) g f0)).bind _)
    rw[jU,Option.bind_some]
    exact⟨_,i+1,g,by omega,rfl⟩
   |some x=>
    have hl:=(List.getElem?_eq_some_iff.1 hx).1
    rw[beq_eq_false_iff_ne.2 (by omega),cond_false]
    show jW m g ((cg m ((i+1:Nat):Int)).bind _) _
    rw[ixn,hx,Option.bind_some]
    obtain⟨L,M,hL,hM,hLM⟩:=Rr x
    rw[hL,Option.bind_some]
    have good:qz x=false→jW m g (cq ⟨3000,k⟩ 3000 false [] 0 [] 0 (rdr m (i+1) g f0)) (bif qz x then .error (1,((i+1:Nat):Int)) else .ok (oU x,i+2)):=fun h=>by
     rw[h,cond_false]
     unfold cq
     show((cg m (w64 (w64 (((i+1:Nat):Int)+1) - 1))).bind fun z31=>(fO 3000 z31).bind fun z32=>some (PR.ok (VPiece.mk false z32 0 [] 0,(⟨m,w64 (((i+1:Nat):Int)+1),g,f0⟩:VReader))))=_
     rw[i5 (by omega),show(((i+1+1:Nat):Int) - 1)=((i+1:Nat):Int) by omega,qS (by omega) (by omega),ixn,hx,Option.bind_some,KE,Option.bind_some]
     rfl
    have bad:qz x=true→∀K:VReader→Option (PR (VPiece × VReader)),(∀r,K r=some (.ok (VPiece.mk false [] 0 [] 0,r)))→jW m g ((ah 3000 1 ((i+1:Nat):Int) (rdr m (i+1) g f0)).bind K) (bif qz x then .error (1,((i+1:Nat):Int)) else .ok (oU x,i+2)):=fun h K hK=>by
     rw[h,cond_true,jU,Option.bind_some,hK]
     exact⟨_,i+1,g,by omega,rfl⟩
    have num:M=qz x→∀K:VReader→Option (PR (VPiece × VReader)),(∀r,K r=some (.ok (VPiece.mk false [] 0 [] 0,r)))→jW m g ((cg m ((i+1:Nat):Int)).bind fun z13=>(dE 3000 z13).bind fun z14=>bif z14 then(ah 3000 1 ((i+1:Nat):Int) (rdr m (i+1) g f0)).bind K else cq ⟨3000,k⟩ 3000 false [] 0 [] 0 (rdr m (i+1) g f0)) (bif qz x then .error (1,((i+1:Nat):Int)) else .ok (oU x,i+2)):=fun h K hK=>by
     rw[ixn,hx,Option.bind_some,hM,Option.bind_some]
     cases M with
     |true=>exact bad h.symm K hK
     |false=>exact good h.symm
    cases L with
    |true=>
     rw[cond_true] at hLM
     rw[cond_true]
     show jW m g ((cg m ((i+1:Nat):Int)).bind _) _
     rw[ixn,hx,Option.bind_some]
     cases h95:(b2i x != b2i 95) with
     |true=>
      rw[h95,cond_true] at hLM
      rw[cond_true]
      exact bad hLM.symm _ fun r=>rfl
     |false=>
      rw[h95,cond_false] at hLM
      rw[cond_false]
      exact num hLM _ fun r=>rfl
    |false=>
     rw[cond_false] at hLM
     rw[cond_false]
     exact num hLM _ fun r=>rfl
  |false=>
   rw[cond_false,cond_false]
   show jW m g ((au 3000 91 (rdr m i g f0)).bind _) _
   rw[rl _ _ _ (by omega),Option.bind_some,dU hc]
   dsimp only
   cases h91:(b2i c==b2i 91) with
   |true=>
    rw[cond_true,cond_true]
    exact S6 (i:=i+1) hm k g (by omega)
   |false=>
    rw[cond_false,cond_false]
    show jW m g ((aP 3000 40 (rdr m i g f0)).bind _) _
    rw[ris,Option.bind_some,h40]
    dsimp only
    rw[cond_false]
    show jW m g ((aW 3000 ([42,43,63,41,124,93] :List UInt8) (rdr m i g f0)).bind _) _
    rw[wS _ _ _ _ _ (by decide),Option.bind_some,wA hc]
    dsimp only
    cases ([42,43,63,41,124,93] :List UInt8).contains c with
    |true=>
     rw[cond_true,cond_true]
     show p9 m _ ((ah 3000 1 (i:Int) (rdr m i g f0)).bind _)
     rw[jU,Option.bind_some]
     exact⟨_,i,g,by omega,rfl⟩
    |false=>
     rw[cond_false,cond_false,KE,Option.bind_some]
     show some (PR.ok (GX (oU c),(⟨m,w64 ((i:Int)+1),g,f0⟩:VReader)))=_
     rw[i5 (by omega)]
     rfl
def N4(m:List UInt8)(out:List (List VPiece))(r:Option (PR (List (List VPiece) × VReader))):Except (Int × Int) (Nd × Nat × Nat)→Prop
 |.error q=>p9 m q r
 |.ok (x,j,g)=>r=some (.ok (out++x.vv.2,rdr m j g f0))
def S4(m:List UInt8)(g:Nat):Except (Int × Int) (Nd × Nat × Nat)→Except (Int × Int) (Nd × Nat × Nat)
 |.error q=>.error q
 |.ok (M,j,g1)=>bif bM m 41 j then .ok (.grp (g+1) M 0,j+1,g1) else .error (1,(j:Int))
def sI(m:List UInt8)(r:Option (PR (VPiece × VReader))):Except (Int × Int) (Nd × Nat × Nat)→Prop
 |.error q=>p9 m q r
 |.ok (x,j,g)=>r=some (.ok (x.vv.1,rdr m j g f0))
theorem QY{m:List UInt8}(hm:m.length≤60){k:VReader→Option (PR (List (List VPiece) × VReader))}{g i:Nat}(h40:bM m 40 i=true)(hg:g≤8){R:Except (Int × Int) (Nd × Nat × Nat)}(hk:N4 m [] (k (rdr m (i+1) (g+1:Nat) f0)) R)(hR:∀q,R=.error q→q.1≠0)(hj:∀x j g1,R=.ok (x,j,g1)→j≤m.length):sI m (bw ⟨3000,k⟩ (rdr m i g f0)) (S4 m g R):=by
 have hi:=dP h40
 obtain⟨c,hc⟩:∃c,m[i]? =some c:=⟨_,List.getElem?_eq_getElem hi⟩
 have hc40:(b2i c==b2i 40)=true:=by rw[← dU hc];exact h40
 rw[vT,beq_iff_eq] at hc40
 subst hc40
 unfold bw
 show sI m ((cg m (i:Int)).bind fun z1=>(au 3000 46 (rdr m i g f0)).bind _) _
 rw[ixn,hc,Option.bind_some,rl _ _ _ (by omega),Option.bind_some,dU hc,show(b2i 40==b2i 46)=false from rfl]
 show sI m ((au 3000 92 (rdr m i g f0)).bind _) _
 rw[rl _ _ _ (by omega),Option.bind_some,dU hc,show(b2i 40==b2i 92)=false from rfl]
 show sI m ((au 3000 91 (rdr m i g f0)).bind _) _
 rw[rl _ _ _ (by omega),Option.bind_some,dU hc,show(b2i 40==b2i 91)=false from rfl]
 show sI m ((aP 3000 40 (rdr m i g f0)).bind _) _
 rw[ris,Option.bind_some,h40]
 show sI m (bif (g:Int)==9 then _ else((k (⟨m,w64 ((i:Int)+1),w64 ((g:Int)+1),f0⟩:VReader)).bind _)) _
 rw[beq_eq_false_iff_ne.2 (by omega),cond_false,i5 (by omega),i5 (by omega)]
 cases R with
 |error q=>
  obtain⟨p,j,g',h1,h2⟩:=hk
  have:k (⟨m,((i+1:Nat):Int),((g+1:Nat):Int),f0⟩:VReader)=_:=h2
  rw[this,Option.bind_some]
  show p9 m q (bif q.1==0 then _ else _)
  rw[beq_eq_false_iff_ne.2 (hR q rfl),cond_false]
  exact⟨_,j,g',h1,rfl⟩
 |ok p=>
  obtain⟨M,j,g1⟩:=p
  have hjl:=hj M j g1 rfl
  have:k (⟨m,((i+1:Nat):Int),((g+1:Nat):Int),f0⟩:VReader)=_:=hk
  rw[this,Option.bind_some]
  show sI m ((au 3000 41 (rdr m j g1 f0)).bind _) (bif bM m 41 j then _ else _)
  rw[rl _ _ _ (by omega),Option.bind_some]
  dsimp only
  have eg:w64 ((rdr m i g f0).Groups+1)=((g+1:Nat):Int):=i5 (by omega)
  rw[eg]
  cases bM m 41 j with
  |true=>rfl
  |false=>
   rw[Bool.not_false,cond_true,cond_false]
   show p9 m _ ((ah 3000 1 (j:Int) (rdr m j g1 f0)).bind _)
   rw[jU,Option.bind_some]
   exact⟨_,j,g1,hjl,rfl⟩
theorem PU{m:List UInt8}(hm:m.length≤60){k:VReader→Option (PR (List (List VPiece) × VReader))}{i:Nat}(h40:bM m 40 i=true):sI m (bw ⟨3000,k⟩ (rdr m i (9:Nat) f0)) (.error (2,(i:Int))):=by
 have hi:=dP h40
 obtain⟨c,hc⟩:∃c,m[i]? =some c:=⟨_,List.getElem?_eq_getElem hi⟩
 have hc40:(b2i c==b2i 40)=true:=by rw[← dU hc];exact h40
 rw[vT,beq_iff_eq] at hc40
 subst hc40
 unfold bw
 show sI m ((cg m (i:Int)).bind fun z1=>(au 3000 46 (rdr m i (9:Nat) f0)).bind _) _
 rw[ixn,hc,Option.bind_some,rl _ _ _ (by omega),Option.bind_some,dU hc,show(b2i 40==b2i 46)=false from rfl]
 show sI m ((au 3000 92 (rdr m i (9:Nat) f0)).bind _) _
 rw[rl _ _ _ (by omega),Option.bind_some,dU hc,show(b2i 40==b2i 92)=false from rfl]
 show sI m ((au 3000 91 (rdr m i (9:Nat) f0)).bind _) _
 rw[rl _ _ _ (by omega),Option.bind_some,dU hc,show(b2i 40==b2i 91)=false from rfl]
 show sI m ((aP 3000 40 (rdr m i (9:Nat) f0)).bind _) _
 rw[ris,Option.bind_some,h40]
 dsimp only
 rw[cond_true,show((rdr m i (9:Nat) f0).Groups==9)=true from rfl,cond_true]
 show p9 m _ ((ah 3000 2 (i:Int) (rdr m i (9:Nat) f0)).bind _)
 rw[jU,Option.bind_some]
 exact⟨_,i,(9:Nat),by omega,rfl⟩
set_option maxRecDepth 1000000
theorem Ga(m:List UInt8)(j:Nat):([42,43,63] :List UInt8).any (fun x=>bM m x j)= !(dN m j==0):=by
 show(bM m 42 j || (bM m 43 j || (bM m 63 j || false)))=_
 unfold dN
 cases bM m 42 j<;> cases bM m 43 j<;> cases bM m 63 j<;> rfl
theorem BW{m:List UInt8}{j:Nat}(h:(dN m j==0)=false):m[j]? =some (dN m j):=by
 have key:∀c:UInt8,bM m c j=true→m[j]? =some c:=fun c hc=>by
  have hj:=dP hc
  obtain⟨b,hb⟩:∃b,m[j]? =some b:=⟨_,List.getElem?_eq_getElem hj⟩
  rw[dU hb,vT,beq_iff_eq] at hc
  rw[hb,hc]
 unfold dN at *
 cases h1:bM m 42 j with
 |true=>exact key _ h1
 |false=>
  cases h2:bM m 43 j with
  |true=>exact key _ h2
  |false=>
   cases h3:bM m 63 j with
   |true=>exact key _ h3
   |false=>rw[h1,h2,h3] at h;cases h
theorem PS{m:List UInt8}{j:Nat}(h:(dN m j==0)=false):bM m 63 j=(dN m j==63):=by
 rw[dU (BW h),vT]
abbrev tU:=(List (List VPiece))→(List VPiece)→VReader→Option (PR ae)
abbrev qq:=(List (List VPiece))→VReader→Option (PR ae)
def afK(N:RecC3)(K:tU)(k2:qq)(n:Nat)(x3:List (List VPiece))(x4:List VPiece)(z4:VPiece × VReader):Option (PR ae):=
 bif z4.2.F.Err==0 then
  (aW N.n ([42,43,63] :List UInt8) z4.2).bind fun z5=>
  bif z5.1 then
   bif z4.1.Group then
    (aP N.n 63 z5.2).bind fun z6=>
    bif !z6.1 then
     (jo N.n z4.1.Rows).bind fun z7=>
     match z7 with
     |.pan vz7=>
      some (.pan vz7)
     |.ok z8=>
      bif z8 then
       (ah N.n 4 z6.2.At z6.2).bind fun z9=>
       aF N K k2 n x3 x4 (VPiece.mk z4.1.Group z4.1.Set z4.1.Number z4.1.Rows z4.1.Sign) z9
      else
       aF N K k2 n x3 x4 (VPiece.mk z4.1.Group z4.1.Set z4.1.Number z4.1.Rows z4.1.Sign) z6.2
    else
     aF N K k2 n x3 x4 (VPiece.mk z4.1.Group z4.1.Set z4.1.Number z4.1.Rows z4.1.Sign) z6.2
   else
    aF N K k2 n x3 x4 (VPiece.mk z4.1.Group z4.1.Set z4.1.Number z4.1.Rows z4.1.Sign) z5.2
  else
   aX N K k2 n x3 x4 (VPiece.mk z4.1.Group z4.1.Set z4.1.Number z4.1.Rows z4.1.Sign) z5.2
 else
  aX N K k2 n x3 x4 (VPiece.mk z4.1.Group z4.1.Set z4.1.Number z4.1.Rows z4.1.Sign) z4.2
def pcK(N:RecC3)(K:tU)(k2:qq)(n:Nat)(x3:List (List VPiece))(x4:List VPiece)(b:VReader):Option (PR ae):=
 (bw N b).bind fun z3=>
 match z3 with
 |.pan vz3=>some (.pan vz3)
 |.ok z4=>afK N K k2 n x3 x4 z4
def xr(m:List UInt8)(N:RecC3)(K:tU)(k2:qq)(n:Nat)(out:List (List VPiece))(row:List VPiece)(r:Option (PR ae)):Except (Int × Int) (Nd × Nat × Nat)→Prop
 |.error q=>∃ (p:VPiece) (j:Nat) (g:Int),j≤m.length∧r=aX N K k2 n out row p (rdr m j g ⟨q.1,q.2⟩)
 |.ok (x,j,g)=>r=aX N K k2 n out row x.vv.1 (rdr m j g f0)
theorem MY(m:List UInt8)(N:RecC3)(K:tU)(k2:qq)(n:Nat)(out:List (List VPiece))(row:List VPiece){q:Int × Int}(hq:q.1≠0)(p:VPiece){j:Nat}(hj:j≤m.length)(g:Int):xr m N K k2 n out row (afK N K k2 n out row (p,rdr m j g ⟨q.1,q.2⟩)) (.error q):=by
 refine⟨VPiece.mk p.Group p.Set p.Number p.Rows p.Sign,j,g,hj,?_⟩
 unfold afK
 show(bif q.1==0 then _ else _)=_
 rw[beq_eq_false_iff_ne.2 hq,cond_false]
theorem Gr{m:List UInt8}(hm:m.length≤60)(N:RecC3)(K:tU)(k2:qq)(n:Nat)(out:List (List VPiece))(row:List VPiece)(p:VPiece){j:Nat}(h:(dN m j==0)=false)(g:Int)(F:VFault):aF N K k2 n out row p (rdr m j g F)=aX N K k2 n out row (VPiece.mk p.Group p.Set p.Number p.Rows (dN m j)) (rdr m (j+1) g F):=by
 have hj:=(List.getElem?_eq_some_iff.1 (BW h)).1
 unfold aF
 show((cg m (j:Int)).bind fun z10=>aX N K k2 n out row (VPiece.mk p.Group p.Set p.Number p.Rows z10) (⟨m,w64 ((j:Int)+1),g,F⟩:VReader))=_
 rw[ixn,BW h,Option.bind_some,i5 (by omega)]
 rfl
theorem RJ{m:List UInt8}(hm:m.length≤60)(k)(K:tU)(k2:qq)(n:Nat)(out:List (List VPiece))(row:List VPiece)(S:List Bool)(j g:Nat):xr m ⟨3000,k⟩ K k2 n out row (afK ⟨3000,k⟩ K k2 n out row (GX S,rdr m j g f0)) (bif dN m j==0 then .ok (.set S 0,j,g) else .ok (.set S (dN m j),j+1,g)):=by
 unfold afK
 show xr m ⟨3000,k⟩ K k2 n out row ((aW 3000 ([42,43,63] :List UInt8) (rdr m j g f0)).bind _) _
 rw[wS _ _ _ _ _ (by decide),Option.bind_some,Ga]
 dsimp only
 cases hs:(dN m j==0) with
 |true=>rfl
 |false=>
  rw[Bool.not_false,cond_true,cond_false]
  show aF ⟨3000,k⟩ K k2 n out row (GX S) (rdr m j g f0)=_
  rw[Gr hm _ _ _ _ _ _ _ hs]
  rfl
theorem R5{m:List UInt8}(hm:m.length≤60)(k)(K:tU)(k2:qq)(n:Nat)(out:List (List VPiece))(row:List VPiece)(M:Nd)(gn:Nat)(hM:M.fm.2.2)(hl:M.len≤500)(j g:Nat):xr m ⟨3000,k⟩ K k2 n out row (afK ⟨3000,k⟩ K k2 n out row ((Nd.grp gn M 0).vv.1,rdr m j g f0)) (bif dN m j==0 then .ok (.grp gn M 0,j,g) else bif M.null && !(dN m j==63) then .error (4,(j:Int)) else .ok (.grp gn M (dN m j),j+1,g)):=by
 unfold afK
 show xr m ⟨3000,k⟩ K k2 n out row ((aW 3000 ([42,43,63] :List UInt8) (rdr m j g f0)).bind _) _
 rw[wS _ _ _ _ _ (by decide),Option.bind_some,Ga]
 dsimp only
 cases hs:(dN m j==0) with
 |true=>rfl
 |false=>
  have hj:=(List.getElem?_eq_some_iff.1 (BW hs)).1
  rw[Bool.not_false,cond_true,cond_false]
  show xr m ⟨3000,k⟩ K k2 n out row ((aP 3000 63 (rdr m j g f0)).bind _) _
  rw[ris,Option.bind_some,PS hs]
  dsimp only
  cases h63:(dN m j==63) with
  |true=>
   rw[Bool.not_true,cond_false,Bool.and_false,cond_false]
   show aF ⟨3000,k⟩ K k2 n out row (Nd.grp gn M 0).vv.1 (rdr m j g f0)=_
   rw[Gr hm _ _ _ _ _ _ _ hs]
   rfl
  |false=>
   rw[Bool.not_false,cond_true,Bool.and_true]
   show xr m ⟨3000,k⟩ K k2 n out row ((bo 3000 3000 M.vv.2).bind _) _
   rw[qe 3000 M hM (by omega) hl,Option.bind_some]
   dsimp only
   cases M.null with
   |true=>
    rw[cond_true,cond_true]
    show xr m ⟨3000,k⟩ K k2 n out row ((ah 3000 4 (j:Int) (rdr m j g f0)).bind fun z9=>aF ⟨3000,k⟩ K k2 n out row (Nd.grp gn M 0).vv.1 z9) _
    rw[jU,Option.bind_some]
    exact⟨_,j+1,g,by omega,Gr hm _ _ _ _ _ _ _ hs _ _⟩
   |false=>
    rw[cond_false,cond_false]
    show aF ⟨3000,k⟩ K k2 n out row (Nd.grp gn M 0).vv.1 (rdr m j g f0)=_
    rw[Gr hm _ _ _ _ _ _ _ hs]
    rfl
theorem MI(x:Nd):VPiece.mk x.vv.1.Group x.vv.1.Set x.vv.1.Number x.vv.1.Rows x.vv.1.Sign=x.vv.1:=by
 cases x<;> rfl
def zL(m:List UInt8)(N:RecC3)(k2:qq)(out:List (List VPiece))(row:List VPiece)(r:Option (PR ae)):Except (Int × Int) (Nd × Nat × Nat)→Prop
 |.error q=>∃ (row':List VPiece) (j:Nat) (g:Int),j≤m.length∧r=aY N k2 0 out row' (rdr m j g ⟨q.1,q.2⟩)
 |.ok (x,j,g)=>r=aY N k2 0 out (row++x.vv.2.headD []) (rdr m j g f0)
theorem Pw{row:List VPiece}(h:row.length≤1000)(p:VPiece):g9 72 row [p] =some (row++ [p]):=by
 unfold g9
 rw[if_pos (by simp;omega)]
theorem Px{out:List (List VPiece)}(h:out.length≤1000)(r:List VPiece):g9 24 out [r] =some (out++ [r]):=by
 unfold g9
 rw[if_pos (by simp;omega)]
theorem Df{m:List UInt8}(hm:m.length≤60):∀ (f:Nat),
  (∀ (d i g n:Nat) (out:List (List VPiece)),i≤m.length→3 * (m.length - i)+3≤f→m.length≤d+i→g≤9→out.length≤i→m.length+2≤n+i→n≤3000→N4 m out (bl ⟨3000,ax 3000 d⟩ n out (rdr m i g f0)) (prs m f 0 i g))∧
  (∀ (d i g n:Nat) (out:List (List VPiece)) (row:List VPiece) (k2:qq),i≤m.length→3 * (m.length - i)+2≤f→m.length≤d+i→g≤9→row.length≤i→m.length+1≤n+i→zL m ⟨3000,ax 3000 d⟩ k2 out row (aA ⟨3000,ax 3000 d⟩ k2 n out row (rdr m i g f0)) (prs m f 1 i g))∧
  (∀ (d i g n:Nat) (out:List (List VPiece)) (row:List VPiece) (k2:qq) (K:tU),i < m.length→3 * (m.length - i)+1≤f→m.length≤d+i→g≤9→xr m ⟨3000,ax 3000 d⟩ K k2 n out row (pcK ⟨3000,ax 3000 d⟩ K k2 n out row (rdr m i g f0)) (prs m f 2 i g))
 |0=>⟨fun d i g n out h1 h2=>by omega,fun d i g n out row k2 h1 h2=>by omega,fun d i g n out row k2 K h1 h2=>by omega⟩
 |f+1=>by
  obtain⟨ihM,ihR,ihP⟩:=Df hm f
  refine⟨fun d i g n out h1 h2 h3 h4 h5 h6 h7=> ?_,fun d i g n out row k2 h1 h2 h3 h4 h5 h6=> ?_,fun d i g n out row k2 K h1 h2 h3 h4=> ?_⟩
  ·obtain⟨n,rfl⟩:∃k,n=k+1:=⟨n - 1,by omega⟩
   rw[bl]
   show N4 m out (aA ⟨3000,ax 3000 d⟩ (bl ⟨3000,ax 3000 d⟩ n) n out [] (rdr m i g f0)) _
   have h8:=ihR d i g n out [] (bl ⟨3000,ax 3000 d⟩ n) h1 (by omega) h3 h4 (Nat.zero_le _) (by omega)
   rw[O8]
   cases hr:prs m f 1 i g with
   |error q=>
    have hq:=iJ f 1 i g hr h1 h4 (by omega) (by omega) (by omega)
    rw[hr] at h8
    obtain⟨row',j,g',hj,h9⟩:=h8
    rw[h9]
    unfold aY
    rw[Px (by omega),Option.bind_some,rl _ _ _ (by omega),Option.bind_some]
    dsimp only
    cases hb:bM m 124 j with
    |false=>exact⟨_,j,g',hj,rfl⟩
    |true=>
     have hj2:=dP hb
     obtain⟨n,rfl⟩:∃k,n=k+1:=⟨n - 1,by omega⟩
     show p9 m q (bl ⟨3000,ax 3000 d⟩ (n+1) (out++ [row']) (rdr m (j+1) g' ⟨q.1,q.2⟩))
     rw[bl]
     show p9 m q (bif q.1==0 then _ else _)
     rw[beq_eq_false_iff_ne.2 hq,cond_false]
     exact⟨_,j+1,g',by omega,rfl⟩
   |ok p=>
    obtain⟨x,j,g1⟩:=p
    have ho:=gS f 1 i g hr h1 h4
    have hv:=Nd.row_vv ((kE f 1 i g hr).2.1 rfl)
    rw[hr] at h8
    have h9:_=_:=h8
    rw[h9]
    unfold aY
    rw[Px (by omega),Option.bind_some,rl _ _ _ (by omega),Option.bind_some]
    dsimp only
    cases hb:bM m 124 j with
    |false=>
     show some (PR.ok (out++ [x.vv.2.headD []],rdr m j g1 f0))=some (.ok (out++x.vv.2,rdr m j g1 f0))
     rw[← hv]
    |true=>
     have hj2:=dP hb
     rw[cond_true]
     show N4 m out (bl ⟨3000,ax 3000 d⟩ n (out++ [x.vv.2.headD []]) (rdr m (j+1) g1 f0)) _
     have h10:=ihM d (j+1) g1 n (out++ [x.vv.2.headD []]) (by omega) (by omega) (by omega) ho.2.2.2.2.1 (by simp;omega) (by omega) (by omega)
     cases hM:prs m f 0 (j+1) g1 with
     |error q=>rw[hM] at h10;exact h10
     |ok p=>
      obtain⟨M,k,g2⟩:=p
      rw[hM] at h10
      refine Eq.trans h10 ?_
      show some (PR.ok (out++ [x.vv.2.headD []] ++M.vv.2,_))=some (PR.ok (out++ (x.vv.2.headD [] ::M.vv.2),_))
      rw[List.append_assoc]
      rfl
  ·obtain⟨n,rfl⟩:∃k,n=k+1:=⟨n - 1,by omega⟩
   rw[aA,Pb]
   show zL m _ k2 out row (bif decide ((i:Int) < (m.length:Int)) then((aP 3000 124 (rdr m i g f0)).bind _) else _) _
   have stop:zL m ⟨3000,ax 3000 d⟩ k2 out row (aY ⟨3000,ax 3000 d⟩ k2 n out row (rdr m i g f0)) (.ok (.nil,i,g)):=by
    show _=aY ⟨3000,ax 3000 d⟩ k2 0 out (row++ []) (rdr m i g f0)
    rw[List.append_nil]
    rfl
   cases hc:m[i]? with
   |none=>
    have hl:=List.getElem?_eq_none_iff.1 hc
    rw[decide_eq_false (by omega),cond_false]
    exact stop
   |some c=>
    have hl:=(List.getElem?_eq_some_iff.1 hc).1
    rw[decide_eq_true (by omega),cond_true,ris,Option.bind_some,dU hc]
    dsimp only
    cases h124:(b2i c==b2i 124) with
    |true=>exact stop
    |false=>
     rw[Bool.not_false,cond_true,cond_false]
     show zL m _ k2 out row ((aP 3000 41 (rdr m i g f0)).bind _) _
     rw[ris,Option.bind_some,dU hc]
     dsimp only
     cases h41:(b2i c==b2i 41) with
     |true=>exact stop
     |false=>
      rw[Bool.not_false,cond_true,cond_false]
      show zL m _ k2 out row (pcK ⟨3000,ax 3000 d⟩ (aA ⟨3000,ax 3000 d⟩ k2 n) k2 n out row (rdr m i g f0)) _
      have h7:=ihP d i g n out row k2 (aA ⟨3000,ax 3000 d⟩ k2 n) hl (by omega) h3 h4
      cases hp:prs m f 2 i g with
      |error q=>
       have hq:=iJ f 2 i g hp h1 h4 (by omega) (by omega) (fun _=>hl)
       rw[hp] at h7
       obtain⟨p,j,g',hj,h8⟩:=h7
       rw[h8]
       unfold aX
       rw[Pw (by omega),Option.bind_some]
       obtain⟨n,rfl⟩:∃k,n=k+1:=⟨n - 1,by omega⟩
       rw[aA]
       show zL m _ k2 out row (bif q.1==0 then _ else _) _
       rw[beq_eq_false_iff_ne.2 hq,cond_false]
       exact⟨_,j,g',hj,rfl⟩
      |ok p=>
       obtain⟨x,j,g1⟩:=p
       have ho:=gS f 2 i g hp h1 h4
       have hij:=ho.2.2.2.2.2 (by omega)
       rw[hp] at h7
       have h8:_=_:=h7
       rw[h8]
       unfold aX
       rw[Pw (by omega),Option.bind_some,MI]
       have h9:=ihR d j g1 n out (row++ [x.vv.1]) k2 ho.2.1 (by omega) (by omega) ho.2.2.2.2.1 (by simp;omega) (by omega)
       dsimp only
       cases hr:prs m f 1 j g1 with
       |error q=>rw[hr] at h9;exact h9
       |ok p=>
        obtain⟨r,k,g2⟩:=p
        rw[hr] at h9
        refine Eq.trans h9 ?_
        rw[List.append_assoc]
        rfl
  ·unfold pcK
   rw[P6]
   have fin:∀ {q:Int × Int},q.1≠0→p9 m q (bw ⟨3000,ax 3000 d⟩ (rdr m i g f0))→xr m ⟨3000,ax 3000 d⟩ K k2 n out row ((bw ⟨3000,ax 3000 d⟩ (rdr m i g f0)).bind fun z3=>
     match z3 with
     |.pan vz3=>some (.pan vz3)
     |.ok z4=>afK ⟨3000,ax 3000 d⟩ K k2 n out row z4) (.error q):=fun hq he=>by
    obtain⟨p,j,g',hj,h5⟩:=he
    rw[h5]
    exact MY m _ K k2 n out row hq p hj g'
   cases hb:bM m 40 i with
   |true=>
    rw[cond_true]
    cases h9:g==9 with
    |true=>
     rw[cond_true]
     have:=beq_iff_eq.1 h9
     subst this
     exact fin (by simp) (PU hm hb)
    |false=>
     have hg9:g≠9:=beq_eq_false_iff_ne.1 h9
     rw[cond_false]
     obtain⟨d,rfl⟩:∃k,d=k+1:=⟨d - 1,by omega⟩
     have hk:=ihM d (i+1) (g+1) 3000 [] (by omega) (by omega) (by omega) (by omega) (Nat.zero_le _) (by omega) (by omega)
     have ha:=QY (k:=ax 3000 (d+1)) (g:=g) hm hb (by omega) hk (fun q h=>iJ f 0 (i+1) (g+1) h (by omega) (by omega) (by omega) (by omega) (by omega)) (fun x j g1 h=>(gS f 0 (i+1) (g+1) h (by omega) (by omega)).2.1)
     cases hM:prs m f 0 (i+1) (g+1) with
     |error q=>
      rw[hM] at ha
      exact fin (iJ f 0 (i+1) (g+1) hM (by omega) (by omega) (by omega) (by omega) (by omega)) ha
     |ok p=>
      obtain⟨M,j,g1⟩:=p
      have ho:=gS f 0 (i+1) (g+1) hM (by omega) (by omega)
      have hf:=(kE f 0 (i+1) (g+1) hM).1 rfl
      rw[hM] at ha
      dsimp only
      cases h41:bM m 41 j with
      |false=>
       rw[cond_false]
       have ha':sI m _ (bif bM m 41 j then _ else _):=ha
       rw[h41,cond_false] at ha'
       exact fin (by simp) ha'
      |true=>
       rw[cond_true]
       have ha':sI m _ (bif bM m 41 j then _ else _):=ha
       rw[h41,cond_true] at ha'
       have ha2:_=_:=ha'
       rw[ha2,Option.bind_some]
       exact R5 hm _ K k2 n out row M (g+1) hf (by omega) (j+1) g1
   |false=>
    rw[cond_false]
    obtain⟨c,hc⟩:∃c,m[i]? =some c:=⟨_,List.getElem?_eq_getElem h1⟩
    have ha:=Rd hm (ax 3000 d) g hc hb
    cases hS:nE m i with
    |error q=>
     rw[hS] at ha
     exact fin (zm h1 hS) ha
    |ok p=>
     obtain⟨S,j⟩:=p
     rw[hS] at ha
     have ha2:_=_:=ha
     rw[ha2,Option.bind_some]
     exact RJ hm _ K k2 n out row S j g
theorem Hu(m:List UInt8):ie 3000 m=some (.ok (match rdM m with
  |.error q=>([],0,⟨q.1,q.2⟩)
  |.ok (x,g)=>(x.vv.2,(g:Int),⟨0,0⟩))):=by
 unfold ie rdM
 by_cases h:60 < m.length
 ·rw[if_pos h,decide_eq_true (by omega),cond_true]
 ·rw[if_neg h,decide_eq_false (by omega),cond_false]
  have h1:=(Df (m:=m) (by omega) 400).1 2999 0 0 3000 [] (Nat.zero_le _) (by omega) (by omega) (by omega) (Nat.zero_le _) (by omega) (by omega)
  show(bl ⟨3000,ax 3000 2999⟩ 3000 [] (rdr m 0 (0:Nat) f0)).bind _=_
  cases hp:prs m 400 0 0 0 with
  |error q=>
   have hq:=iJ 400 0 0 0 hp (Nat.zero_le _) (by omega) (by omega) (by omega) (by omega)
   rw[hp] at h1
   obtain⟨p,j,g,hj,h2⟩:=h1
   rw[h2,Option.bind_some]
   show(bif q.1==0 then _ else dp 3000 3000 p ⟨0,0⟩ (rdr m j g ⟨q.1,q.2⟩))=_
   rw[beq_eq_false_iff_ne.2 hq,cond_false]
   unfold dp
   show(bif q.1 != 0 then _ else _)=_
   rw[bne,beq_eq_false_iff_ne.2 hq]
   rfl
  |ok p=>
   obtain⟨x,j,g⟩:=p
   rw[hp] at h1
   have h2:_=_:=h1
   rw[h2,Option.bind_some]
   show(bif decide ((j:Int) < (m.length:Int)) then((ah 3000 1 (j:Int) (rdr m j g f0)).bind fun z3=>dp 3000 3000 x.vv.2 ⟨0,0⟩ z3) else dp 3000 3000 x.vv.2 ⟨0,0⟩ (rdr m j g f0))=_
   dsimp only
   by_cases hj:j < m.length
   ·rw[if_pos hj,decide_eq_true (by omega),cond_true,jU,Option.bind_some]
    rfl
   ·rw[if_neg hj,decide_eq_false (by omega),cond_false]
    rfl
set_option maxRecDepth 100000
def mn(r:Bool):TV EE.T:=.a (.d .bool r)
def SW(r:Bool):List (Nat × TB EE.T):=[]
def zD(r:PR Bool):RL EE.T:=match r with
 |.ok z=>.ret (mn z) (SW z)
 |.pan v=>.pan v
def S2:Lvs:=⟨[],[],[],[],false,[],[],[],[]⟩
def S7:List ResultVar:=[.tmp 2]
def w8G(N:Nat):Gam EE:=⟨[⟨11,jY N⟩,⟨20,m0 N⟩],EQT,[⟨10,sw N⟩],[]⟩
theorem RY(N:Nat):GOk Try.prog TT EE (w8G N):=GOk.cons (rV N) (GOk.cons (vD N) (GOk.consx (xl N) (GOk.nil cN)))
def R1(c:Code):List It2:=[.c c]
def SF(x0:List UInt8):TS EE.T:=⟨30,[(0,.a (.d .str x0))],[],[]⟩
abbrev S3(N:Nat)(r:PR Bool)(k:List It2)(s:TS EE.T):Prop:=fa (Y:=TT) EE (w8G N) S2 S7 (fun u=>u=zD r) k s
def NB(x:PR Bool):Tree (Lf EE.T × Option (PR Bool)):=.leaf (.done (zD x),some x)
theorem SV{N:Nat}{r:PR Bool}(x0:List UInt8)(h:iZ N x0=some r):S3 N r (R1 (aa 0 Try.f8)) (SF x0):=
 av (m:=4000) (t:=
 .bnd (je N x0) fun z1=>
 .bnd (ie N x0) fun z2=>
 .sm z2 (fun z3=>
  .bnd (fT N) fun z4=>
  .cond (z4)
  (
   .cond (CV z1.2.Err z3.2.2.Err && (CV z1.2.At z3.2.2.At && true))
   (
    NB (.ok (z1.1==z3.2.1)))
   (
    NB (.ok false)))
  (
   NB (.ok false))) (fun vz2=>
  NB (.pan vz2))) (by kernel_rfl) (by kernel_rfl) h (fun _=>fun _=>⟨fun _=>fun _=>⟨⟨aO (enc:=zD) rfl,aO (enc:=zD) rfl⟩,aO (enc:=zD) rfl⟩,fun _=>aO (enc:=zD) rfl⟩)
def S5(x0:List UInt8):List (TV EE.T):=[.a (.d .str x0)]
def Sx(x0:List UInt8):List (Nat × TB EE.T):=[]
theorem rE{N:Nat}(x0:List UInt8){r:PR Bool}(h:iZ N x0=some r)(ρ:Rn)(hi:Inj ρ (Sx x0)):aE Try.prog 8 ((S5 x0).map (TV.to EE.toEnc ρ)) (hTo EE.toEnc ρ (Sx x0)) (fun out H=>match r with|.ok z=>out=.ret ((mn z).to EE.toEnc ρ)∧H=hTo EE.toEnc ρ (SW z)|.pan v=>out=.pan v):=
 (dO (aa 0 Try.f8) 30 mixed (RY N) Try.func8 (by kernel_rfl) rfl rfl rfl rfl (SV x0 h) ρ hi).mono fun out H h=>by cases r with|ok z=>exact cx.retH rfl rfl h|pan v=>exact cx.pan h
end Go.Proofs.Ytlhjbhgkhpbnfaa
namespace Go.Proofs.Ytlhjbhgkhpbnfaa
open Go.RowKit Go.Deep Go.ChangeShapes Go.WideShapes Go.ChangeAt P
def SU(w:World)(us:List AV)(cs:List Value):Prop:=us.length=cs.length∧∀ (i:Nat) u v,us[i]? =some u→cs[i]? =some v→Rel (Ht w) u v
def Gs(w:World)(us:List AV)(off:Nat)(cs:List Value):Prop:=∀ (i:Nat) u v,us[i]? =some u→cs[off+i]? =some v→Rel (Ht w) u v
theorem Gs.nil{w:World}{off:Nat}{cs:List Value}:Gs w [] off cs:=fun i u v hu=>by simp at hu
theorem Gs.whole{w:World}{us:List AV}{cs:List Value}(h:Gs w us 0 cs)(e:us.length=cs.length):SU w us cs:=⟨e,fun i u v hu hv=>h i u v hu (by simpa using hv)⟩
section
variable {R:Nat} {H:Type} {enc:TypeId × Value→H} {Pr:Program} {w:World} {base:Nat} {spare:Nat→Bool} {held:Bool}
end
theorem Try.own:ownKnob Try.prog.godebug=none:=by kernel_rfl
theorem Try.laidOut:laidOutB Try.prog=true:=by kernel_rfl
end Go.Proofs.Ytlhjbhgkhpbnfaa
namespace Go.Proofs.Ytlhjbhgkhpbnfaa
open Go.RowKit P
section
variable {Pr:Program}
end
def Fr(n:Nat):Prop:=n≤140737488351232
theorem Fr.le{n:Nat}(h:Fr n):n≤140737488351232:=h
end Go.Proofs.Ytlhjbhgkhpbnfaa
